/-
  NARROWER THAN 'FOR EVERY INPUT', by the rows' own cells (each row's printed sentence says how): FnExactEqualProblem: loops · FnExactIsValidConstraint: loops · FnExactVarsOfConstraint: loops · FnExactIsValidProblem: loops · FnExactVarsOfProblem: loops · FnExactBoundOf: loops · FnExactJoinEquations: loops · FnExactHoldsFor: loops · FnExactWithoutConstraint: loops.
  DERIVED. THE GIVEN ROWS OF THIS SEAT. 12 by the template 'for every input the law returns true; each argument reads behind the call as it read before'; 0 by the template 'total and deterministic' (their statements: YtpppopdmnejcfaaTotals.lean).
  GIVEN WITH THE SEED: the statements are not yours to turn. If you find one false, say at which input.
  Laid BY PROGRAM, IN A SANDBOX (cutbox-rows.mjs): the forced cells as the released guide's own fill.sh prints them over the translation d19a036667ac9165… (all of the seat's roots in one cut). By AI agents, Wed Nov 11 2026. No macro, syntax, notation, axiom, sorry.
-/
import Derived.Test.YtpppopdmnejcfaaChecked
import GoSem.Claim
import GoSem.ClaimJoined
import GoSem.ClaimMapViews
import Derived.JoinedTies
import Derived.KernelRfl
namespace Go.Proofs.Ytpppopdmnejcfaa
/- THE CELL 'sum', in the pinned program and in every row, IS THE sha256 OF THE DUMP (.gsa) THAT YtpppopdmnejcfaaProg.lean LOADS. Nothing in Lean hashes anything: it is a label: what it is worth is what the hold of that sum in a sandbox is worth. -/
noncomputable def Try.pinned : Pinned := { name := "ytpppopdmnejcfaa", sum := "d19a036667ac9165de527328a4d30cf012d424f02fe4176902b2477cc2315b90", checked := Try.checked }
namespace Rows
def none {H : Type} : Left H := { results := [], args := [] }

/-- 'laws.FnExactEqualProblem': WHATEVER THE INPUT: true; the input reads as it did. -/
def fnExactEqualProblemSpec : ChangeSpec := { name := "fnExactEqualProblem", fn := fun _ => fun
  | [d1, d2] => { results := [.lit (.bool true)], args := [d1, d2] }
  | _ => none }
def fnExactEqualProblemRow : OpenClaim := { program := "ytpppopdmnejcfaa", sum := "d19a036667ac9165de527328a4d30cf012d424f02fe4176902b2477cc2315b90", func := "loop.example/g00582/laws.FnExactEqualProblem", spec := "fnExactEqualProblem", unfollowed := true, recurses := true, loops := true, apart := false }
def FnExactEqualProblemSaid : Prop := fnExactEqualProblemRow.holds Try.pinned (OpenSpec.ofChange fnExactEqualProblemSpec)

/-- ITS FALSE NEIGHBOUR: 'it returns false'. Refute it at one input. -/
def fnExactEqualProblemWrong : ChangeSpec := { name := "fnExactEqualProblem", fn := fun _ => fun
  | [d1, d2] => { results := [.lit (.bool false)], args := [d1, d2] }
  | _ => none }
def FnExactEqualProblemWrongFalsely : Prop := fnExactEqualProblemRow.holds Try.pinned (OpenSpec.ofChange fnExactEqualProblemWrong)

/-- 'laws.FnExactIsValidConstraint': WHATEVER THE INPUT: true; the input reads as it did. -/
def fnExactIsValidConstraintSpec : ChangeSpec := { name := "fnExactIsValidConstraint", fn := fun _ => fun
  | [d] => { results := [.lit (.bool true)], args := [d] }
  | _ => none }
def fnExactIsValidConstraintRow : OpenClaim := { program := "ytpppopdmnejcfaa", sum := "d19a036667ac9165de527328a4d30cf012d424f02fe4176902b2477cc2315b90", func := "loop.example/g00582/laws.FnExactIsValidConstraint", spec := "fnExactIsValidConstraint", inPlace := ["internal/bytealg.IndexByteString"], unfollowed := true, recurses := true, loops := true, apart := false }
def FnExactIsValidConstraintSaid : Prop := fnExactIsValidConstraintRow.holds Try.pinned (OpenSpec.ofChange fnExactIsValidConstraintSpec)

/-- ITS FALSE NEIGHBOUR: 'it returns false'. Refute it at one input. -/
def fnExactIsValidConstraintWrong : ChangeSpec := { name := "fnExactIsValidConstraint", fn := fun _ => fun
  | [d] => { results := [.lit (.bool false)], args := [d] }
  | _ => none }
def FnExactIsValidConstraintWrongFalsely : Prop := fnExactIsValidConstraintRow.holds Try.pinned (OpenSpec.ofChange fnExactIsValidConstraintWrong)

/-- 'laws.FnExactStartStates': WHATEVER THE INPUT: true; the input reads as it did. -/
def fnExactStartStatesSpec : ChangeSpec := { name := "fnExactStartStates", fn := fun _ => fun
  | [d] => { results := [.lit (.bool true)], args := [d] }
  | _ => none }
def fnExactStartStatesRow : OpenClaim := { program := "ytpppopdmnejcfaa", sum := "d19a036667ac9165de527328a4d30cf012d424f02fe4176902b2477cc2315b90", func := "loop.example/g00582/laws.FnExactStartStates", spec := "fnExactStartStates", inPlace := ["internal/bytealg.IndexByteString"], apart := false }
def FnExactStartStatesSaid : Prop := fnExactStartStatesRow.holds Try.pinned (OpenSpec.ofChange fnExactStartStatesSpec)

/-- ITS FALSE NEIGHBOUR: 'it returns false'. Refute it at one input. -/
def fnExactStartStatesWrong : ChangeSpec := { name := "fnExactStartStates", fn := fun _ => fun
  | [d] => { results := [.lit (.bool false)], args := [d] }
  | _ => none }
def FnExactStartStatesWrongFalsely : Prop := fnExactStartStatesRow.holds Try.pinned (OpenSpec.ofChange fnExactStartStatesWrong)

/-- 'laws.FnExactBuildMonoid': WHATEVER THE INPUT: true; the input reads as it did. -/
def fnExactBuildMonoidSpec : ChangeSpec := { name := "fnExactBuildMonoid", fn := fun _ => fun
  | [d] => { results := [.lit (.bool true)], args := [d] }
  | _ => none }
def fnExactBuildMonoidRow : OpenClaim := { program := "ytpppopdmnejcfaa", sum := "d19a036667ac9165de527328a4d30cf012d424f02fe4176902b2477cc2315b90", func := "loop.example/g00582/laws.FnExactBuildMonoid", spec := "fnExactBuildMonoid", unfollowed := true, recurses := true, apart := false }
def FnExactBuildMonoidSaid : Prop := fnExactBuildMonoidRow.holds Try.pinned (OpenSpec.ofChange fnExactBuildMonoidSpec)

/-- ITS FALSE NEIGHBOUR: 'it returns false'. Refute it at one input. -/
def fnExactBuildMonoidWrong : ChangeSpec := { name := "fnExactBuildMonoid", fn := fun _ => fun
  | [d] => { results := [.lit (.bool false)], args := [d] }
  | _ => none }
def FnExactBuildMonoidWrongFalsely : Prop := fnExactBuildMonoidRow.holds Try.pinned (OpenSpec.ofChange fnExactBuildMonoidWrong)

/-- 'laws.FnTerms': WHATEVER THE INPUT: true; the input reads as it did. -/
def fnTermsSpec : ChangeSpec := { name := "fnTerms", fn := fun _ => fun
  | [d] => { results := [.lit (.bool true)], args := [d] }
  | _ => none }
def fnTermsRow : OpenClaim := { program := "ytpppopdmnejcfaa", sum := "d19a036667ac9165de527328a4d30cf012d424f02fe4176902b2477cc2315b90", func := "loop.example/g00582/laws.FnTerms", spec := "fnTerms", inPlace := ["internal/bytealg.IndexByteString", "internal/abi.NoEscape", "internal/bytealg.MakeNoZero"], unfollowed := true, recurses := true, apart := false }
def FnTermsSaid : Prop := fnTermsRow.holds Try.pinned (OpenSpec.ofChange fnTermsSpec)

/-- ITS FALSE NEIGHBOUR: 'it returns false'. Refute it at one input. -/
def fnTermsWrong : ChangeSpec := { name := "fnTerms", fn := fun _ => fun
  | [d] => { results := [.lit (.bool false)], args := [d] }
  | _ => none }
def FnTermsWrongFalsely : Prop := fnTermsRow.holds Try.pinned (OpenSpec.ofChange fnTermsWrong)

/-- 'laws.FnExactVarsOfConstraint': WHATEVER THE INPUT: true; the input reads as it did. -/
def fnExactVarsOfConstraintSpec : ChangeSpec := { name := "fnExactVarsOfConstraint", fn := fun _ => fun
  | [d] => { results := [.lit (.bool true)], args := [d] }
  | _ => none }
def fnExactVarsOfConstraintRow : OpenClaim := { program := "ytpppopdmnejcfaa", sum := "d19a036667ac9165de527328a4d30cf012d424f02fe4176902b2477cc2315b90", func := "loop.example/g00582/laws.FnExactVarsOfConstraint", spec := "fnExactVarsOfConstraint", inPlace := ["internal/bytealg.IndexByteString"], unfollowed := true, recurses := true, loops := true, apart := false }
def FnExactVarsOfConstraintSaid : Prop := fnExactVarsOfConstraintRow.holds Try.pinned (OpenSpec.ofChange fnExactVarsOfConstraintSpec)

/-- ITS FALSE NEIGHBOUR: 'it returns false'. Refute it at one input. -/
def fnExactVarsOfConstraintWrong : ChangeSpec := { name := "fnExactVarsOfConstraint", fn := fun _ => fun
  | [d] => { results := [.lit (.bool false)], args := [d] }
  | _ => none }
def FnExactVarsOfConstraintWrongFalsely : Prop := fnExactVarsOfConstraintRow.holds Try.pinned (OpenSpec.ofChange fnExactVarsOfConstraintWrong)

/-- 'laws.FnExactIsValidProblem': WHATEVER THE INPUT: true; the input reads as it did. -/
def fnExactIsValidProblemSpec : ChangeSpec := { name := "fnExactIsValidProblem", fn := fun _ => fun
  | [d] => { results := [.lit (.bool true)], args := [d] }
  | _ => none }
def fnExactIsValidProblemRow : OpenClaim := { program := "ytpppopdmnejcfaa", sum := "d19a036667ac9165de527328a4d30cf012d424f02fe4176902b2477cc2315b90", func := "loop.example/g00582/laws.FnExactIsValidProblem", spec := "fnExactIsValidProblem", inPlace := ["internal/bytealg.IndexByteString"], unfollowed := true, recurses := true, loops := true, apart := false }
def FnExactIsValidProblemSaid : Prop := fnExactIsValidProblemRow.holds Try.pinned (OpenSpec.ofChange fnExactIsValidProblemSpec)

/-- ITS FALSE NEIGHBOUR: 'it returns false'. Refute it at one input. -/
def fnExactIsValidProblemWrong : ChangeSpec := { name := "fnExactIsValidProblem", fn := fun _ => fun
  | [d] => { results := [.lit (.bool false)], args := [d] }
  | _ => none }
def FnExactIsValidProblemWrongFalsely : Prop := fnExactIsValidProblemRow.holds Try.pinned (OpenSpec.ofChange fnExactIsValidProblemWrong)

/-- 'laws.FnExactVarsOfProblem': WHATEVER THE INPUT: true; the input reads as it did. -/
def fnExactVarsOfProblemSpec : ChangeSpec := { name := "fnExactVarsOfProblem", fn := fun _ => fun
  | [d] => { results := [.lit (.bool true)], args := [d] }
  | _ => none }
def fnExactVarsOfProblemRow : OpenClaim := { program := "ytpppopdmnejcfaa", sum := "d19a036667ac9165de527328a4d30cf012d424f02fe4176902b2477cc2315b90", func := "loop.example/g00582/laws.FnExactVarsOfProblem", spec := "fnExactVarsOfProblem", inPlace := ["internal/bytealg.IndexByteString"], unfollowed := true, recurses := true, loops := true, apart := false }
def FnExactVarsOfProblemSaid : Prop := fnExactVarsOfProblemRow.holds Try.pinned (OpenSpec.ofChange fnExactVarsOfProblemSpec)

/-- ITS FALSE NEIGHBOUR: 'it returns false'. Refute it at one input. -/
def fnExactVarsOfProblemWrong : ChangeSpec := { name := "fnExactVarsOfProblem", fn := fun _ => fun
  | [d] => { results := [.lit (.bool false)], args := [d] }
  | _ => none }
def FnExactVarsOfProblemWrongFalsely : Prop := fnExactVarsOfProblemRow.holds Try.pinned (OpenSpec.ofChange fnExactVarsOfProblemWrong)

/-- 'laws.FnExactBoundOf': WHATEVER THE INPUT: true; the input reads as it did. -/
def fnExactBoundOfSpec : ChangeSpec := { name := "fnExactBoundOf", fn := fun _ => fun
  | [d] => { results := [.lit (.bool true)], args := [d] }
  | _ => none }
def fnExactBoundOfRow : OpenClaim := { program := "ytpppopdmnejcfaa", sum := "d19a036667ac9165de527328a4d30cf012d424f02fe4176902b2477cc2315b90", func := "loop.example/g00582/laws.FnExactBoundOf", spec := "fnExactBoundOf", inPlace := ["internal/bytealg.IndexByteString"], unfollowed := true, recurses := true, loops := true, apart := false }
def FnExactBoundOfSaid : Prop := fnExactBoundOfRow.holds Try.pinned (OpenSpec.ofChange fnExactBoundOfSpec)

/-- ITS FALSE NEIGHBOUR: 'it returns false'. Refute it at one input. -/
def fnExactBoundOfWrong : ChangeSpec := { name := "fnExactBoundOf", fn := fun _ => fun
  | [d] => { results := [.lit (.bool false)], args := [d] }
  | _ => none }
def FnExactBoundOfWrongFalsely : Prop := fnExactBoundOfRow.holds Try.pinned (OpenSpec.ofChange fnExactBoundOfWrong)

/-- 'laws.FnExactJoinEquations': WHATEVER THE INPUT: true; the input reads as it did. -/
def fnExactJoinEquationsSpec : ChangeSpec := { name := "fnExactJoinEquations", fn := fun _ => fun
  | [d] => { results := [.lit (.bool true)], args := [d] }
  | _ => none }
def fnExactJoinEquationsRow : OpenClaim := { program := "ytpppopdmnejcfaa", sum := "d19a036667ac9165de527328a4d30cf012d424f02fe4176902b2477cc2315b90", func := "loop.example/g00582/laws.FnExactJoinEquations", spec := "fnExactJoinEquations", inPlace := ["internal/bytealg.IndexByteString", "internal/abi.NoEscape", "internal/bytealg.MakeNoZero"], unfollowed := true, recurses := true, loops := true, apart := false }
def FnExactJoinEquationsSaid : Prop := fnExactJoinEquationsRow.holds Try.pinned (OpenSpec.ofChange fnExactJoinEquationsSpec)

/-- ITS FALSE NEIGHBOUR: 'it returns false'. Refute it at one input. -/
def fnExactJoinEquationsWrong : ChangeSpec := { name := "fnExactJoinEquations", fn := fun _ => fun
  | [d] => { results := [.lit (.bool false)], args := [d] }
  | _ => none }
def FnExactJoinEquationsWrongFalsely : Prop := fnExactJoinEquationsRow.holds Try.pinned (OpenSpec.ofChange fnExactJoinEquationsWrong)

/-- 'laws.FnExactHoldsFor': WHATEVER THE INPUT: true; the input reads as it did. -/
def fnExactHoldsForSpec : ChangeSpec := { name := "fnExactHoldsFor", fn := fun _ => fun
  | [d1, d2] => { results := [.lit (.bool true)], args := [d1, d2] }
  | _ => none }
def fnExactHoldsForRow : OpenClaim := { program := "ytpppopdmnejcfaa", sum := "d19a036667ac9165de527328a4d30cf012d424f02fe4176902b2477cc2315b90", func := "loop.example/g00582/laws.FnExactHoldsFor", spec := "fnExactHoldsFor", inPlace := ["internal/bytealg.IndexByteString"], unfollowed := true, recurses := true, loops := true, apart := false }
def FnExactHoldsForSaid : Prop := fnExactHoldsForRow.holds Try.pinned (OpenSpec.ofChange fnExactHoldsForSpec)

/-- ITS FALSE NEIGHBOUR: 'it returns false'. Refute it at one input. -/
def fnExactHoldsForWrong : ChangeSpec := { name := "fnExactHoldsFor", fn := fun _ => fun
  | [d1, d2] => { results := [.lit (.bool false)], args := [d1, d2] }
  | _ => none }
def FnExactHoldsForWrongFalsely : Prop := fnExactHoldsForRow.holds Try.pinned (OpenSpec.ofChange fnExactHoldsForWrong)

/-- 'laws.FnExactWithoutConstraint': WHATEVER THE INPUT: true; the input reads as it did. -/
def fnExactWithoutConstraintSpec : ChangeSpec := { name := "fnExactWithoutConstraint", fn := fun _ => fun
  | [d1, d2] => { results := [.lit (.bool true)], args := [d1, d2] }
  | _ => none }
def fnExactWithoutConstraintRow : OpenClaim := { program := "ytpppopdmnejcfaa", sum := "d19a036667ac9165de527328a4d30cf012d424f02fe4176902b2477cc2315b90", func := "loop.example/g00582/laws.FnExactWithoutConstraint", spec := "fnExactWithoutConstraint", inPlace := ["internal/bytealg.IndexByteString"], unfollowed := true, recurses := true, loops := true, apart := false }
def FnExactWithoutConstraintSaid : Prop := fnExactWithoutConstraintRow.holds Try.pinned (OpenSpec.ofChange fnExactWithoutConstraintSpec)

/-- ITS FALSE NEIGHBOUR: 'it returns false'. Refute it at one input. -/
def fnExactWithoutConstraintWrong : ChangeSpec := { name := "fnExactWithoutConstraint", fn := fun _ => fun
  | [d1, d2] => { results := [.lit (.bool false)], args := [d1, d2] }
  | _ => none }
def FnExactWithoutConstraintWrongFalsely : Prop := fnExactWithoutConstraintRow.holds Try.pinned (OpenSpec.ofChange fnExactWithoutConstraintWrong)

/- THE SECOND FORM. 'bulk': how many values and letters a reading holds, each counted each time it is reached (what is shared counts as often as it is met; a slice's spare places count too). A statement '..UptoSaid' is the law's where the arguments, and the package variables that the reading takes, are together of bulk at most 1048576: NARROWER than '..Said'. Prove '..Said' where nothing that the law and all that it calls make is longer than what came in: it says more and counts as full. Else prove '..UptoSaid'. A law counts once. -/
mutual
def uptoBulk {H : Type} : DataW H → Nat
  | .lit (.string bytes) => bytes.length + 1
  | .lit _ => 1
  | .nil => 1
  | .ptr d => uptoBulk d + 1
  | .slice elems spare => uptoBulkAll elems + uptoBulkAll spare + 1
  | .agg parts => uptoBulkAll parts + 1
  | .iface _ d => uptoBulk d + 1
  | .map entries => uptoBulkEntries entries + 1
  | .held _ => 1
def uptoBulkAll {H : Type} : List (DataW H) → Nat
  | [] => 0
  | d :: r => uptoBulk d + uptoBulkAll r
def uptoBulkEntries {H : Type} : List (Lit × DataW H) → Nat
  | [] => 0
  | x :: r => uptoBulkEntry x + uptoBulkEntries r
def uptoBulkEntry {H : Type} : Lit × DataW H → Nat
  | (.string bytes, d) => bytes.length + uptoBulk d + 1
  | (_, d) => uptoBulk d + 1
 end
def uptoSmall : (H : Type) → List (DataW H) → Bool := fun _ ds => decide (uptoBulkAll ds ≤ 1048576)
def OpenSpec.upto (s : _root_.Go.ChangeSpec) : _root_.Go.OpenSpec := { _root_.Go.OpenSpec.ofChange s with cond := some uptoSmall }

/-- 'laws.FnExactEqualProblem', WHERE WHAT IT READS IS OF BULK AT MOST 1048576: true; the input reads as it did. -/
def fnExactEqualProblemUptoRow : OpenClaim := { program := "ytpppopdmnejcfaa", sum := "d19a036667ac9165de527328a4d30cf012d424f02fe4176902b2477cc2315b90", func := "loop.example/g00582/laws.FnExactEqualProblem", spec := "fnExactEqualProblem", unfollowed := true, recurses := true, loops := true, apart := false, narrowed := true }
def FnExactEqualProblemUptoSaid : Prop := fnExactEqualProblemUptoRow.holds Try.pinned (OpenSpec.upto fnExactEqualProblemSpec)

/-- 'laws.FnExactIsValidConstraint', WHERE WHAT IT READS IS OF BULK AT MOST 1048576: true; the input reads as it did. -/
def fnExactIsValidConstraintUptoRow : OpenClaim := { program := "ytpppopdmnejcfaa", sum := "d19a036667ac9165de527328a4d30cf012d424f02fe4176902b2477cc2315b90", func := "loop.example/g00582/laws.FnExactIsValidConstraint", spec := "fnExactIsValidConstraint", inPlace := ["internal/bytealg.IndexByteString"], unfollowed := true, recurses := true, loops := true, apart := false, narrowed := true }
def FnExactIsValidConstraintUptoSaid : Prop := fnExactIsValidConstraintUptoRow.holds Try.pinned (OpenSpec.upto fnExactIsValidConstraintSpec)

/-- 'laws.FnExactStartStates', WHERE WHAT IT READS IS OF BULK AT MOST 1048576: true; the input reads as it did. -/
def fnExactStartStatesUptoRow : OpenClaim := { program := "ytpppopdmnejcfaa", sum := "d19a036667ac9165de527328a4d30cf012d424f02fe4176902b2477cc2315b90", func := "loop.example/g00582/laws.FnExactStartStates", spec := "fnExactStartStates", inPlace := ["internal/bytealg.IndexByteString"], apart := false, narrowed := true }
def FnExactStartStatesUptoSaid : Prop := fnExactStartStatesUptoRow.holds Try.pinned (OpenSpec.upto fnExactStartStatesSpec)

/-- 'laws.FnExactBuildMonoid', WHERE WHAT IT READS IS OF BULK AT MOST 1048576: true; the input reads as it did. -/
def fnExactBuildMonoidUptoRow : OpenClaim := { program := "ytpppopdmnejcfaa", sum := "d19a036667ac9165de527328a4d30cf012d424f02fe4176902b2477cc2315b90", func := "loop.example/g00582/laws.FnExactBuildMonoid", spec := "fnExactBuildMonoid", unfollowed := true, recurses := true, apart := false, narrowed := true }
def FnExactBuildMonoidUptoSaid : Prop := fnExactBuildMonoidUptoRow.holds Try.pinned (OpenSpec.upto fnExactBuildMonoidSpec)

/-- 'laws.FnTerms', WHERE WHAT IT READS IS OF BULK AT MOST 1048576: true; the input reads as it did. -/
def fnTermsUptoRow : OpenClaim := { program := "ytpppopdmnejcfaa", sum := "d19a036667ac9165de527328a4d30cf012d424f02fe4176902b2477cc2315b90", func := "loop.example/g00582/laws.FnTerms", spec := "fnTerms", inPlace := ["internal/bytealg.IndexByteString", "internal/abi.NoEscape", "internal/bytealg.MakeNoZero"], unfollowed := true, recurses := true, apart := false, narrowed := true }
def FnTermsUptoSaid : Prop := fnTermsUptoRow.holds Try.pinned (OpenSpec.upto fnTermsSpec)

/-- 'laws.FnExactVarsOfConstraint', WHERE WHAT IT READS IS OF BULK AT MOST 1048576: true; the input reads as it did. -/
def fnExactVarsOfConstraintUptoRow : OpenClaim := { program := "ytpppopdmnejcfaa", sum := "d19a036667ac9165de527328a4d30cf012d424f02fe4176902b2477cc2315b90", func := "loop.example/g00582/laws.FnExactVarsOfConstraint", spec := "fnExactVarsOfConstraint", inPlace := ["internal/bytealg.IndexByteString"], unfollowed := true, recurses := true, loops := true, apart := false, narrowed := true }
def FnExactVarsOfConstraintUptoSaid : Prop := fnExactVarsOfConstraintUptoRow.holds Try.pinned (OpenSpec.upto fnExactVarsOfConstraintSpec)

/-- 'laws.FnExactIsValidProblem', WHERE WHAT IT READS IS OF BULK AT MOST 1048576: true; the input reads as it did. -/
def fnExactIsValidProblemUptoRow : OpenClaim := { program := "ytpppopdmnejcfaa", sum := "d19a036667ac9165de527328a4d30cf012d424f02fe4176902b2477cc2315b90", func := "loop.example/g00582/laws.FnExactIsValidProblem", spec := "fnExactIsValidProblem", inPlace := ["internal/bytealg.IndexByteString"], unfollowed := true, recurses := true, loops := true, apart := false, narrowed := true }
def FnExactIsValidProblemUptoSaid : Prop := fnExactIsValidProblemUptoRow.holds Try.pinned (OpenSpec.upto fnExactIsValidProblemSpec)

/-- 'laws.FnExactVarsOfProblem', WHERE WHAT IT READS IS OF BULK AT MOST 1048576: true; the input reads as it did. -/
def fnExactVarsOfProblemUptoRow : OpenClaim := { program := "ytpppopdmnejcfaa", sum := "d19a036667ac9165de527328a4d30cf012d424f02fe4176902b2477cc2315b90", func := "loop.example/g00582/laws.FnExactVarsOfProblem", spec := "fnExactVarsOfProblem", inPlace := ["internal/bytealg.IndexByteString"], unfollowed := true, recurses := true, loops := true, apart := false, narrowed := true }
def FnExactVarsOfProblemUptoSaid : Prop := fnExactVarsOfProblemUptoRow.holds Try.pinned (OpenSpec.upto fnExactVarsOfProblemSpec)

/-- 'laws.FnExactBoundOf', WHERE WHAT IT READS IS OF BULK AT MOST 1048576: true; the input reads as it did. -/
def fnExactBoundOfUptoRow : OpenClaim := { program := "ytpppopdmnejcfaa", sum := "d19a036667ac9165de527328a4d30cf012d424f02fe4176902b2477cc2315b90", func := "loop.example/g00582/laws.FnExactBoundOf", spec := "fnExactBoundOf", inPlace := ["internal/bytealg.IndexByteString"], unfollowed := true, recurses := true, loops := true, apart := false, narrowed := true }
def FnExactBoundOfUptoSaid : Prop := fnExactBoundOfUptoRow.holds Try.pinned (OpenSpec.upto fnExactBoundOfSpec)

/-- 'laws.FnExactJoinEquations', WHERE WHAT IT READS IS OF BULK AT MOST 1048576: true; the input reads as it did. -/
def fnExactJoinEquationsUptoRow : OpenClaim := { program := "ytpppopdmnejcfaa", sum := "d19a036667ac9165de527328a4d30cf012d424f02fe4176902b2477cc2315b90", func := "loop.example/g00582/laws.FnExactJoinEquations", spec := "fnExactJoinEquations", inPlace := ["internal/bytealg.IndexByteString", "internal/abi.NoEscape", "internal/bytealg.MakeNoZero"], unfollowed := true, recurses := true, loops := true, apart := false, narrowed := true }
def FnExactJoinEquationsUptoSaid : Prop := fnExactJoinEquationsUptoRow.holds Try.pinned (OpenSpec.upto fnExactJoinEquationsSpec)

/-- 'laws.FnExactHoldsFor', WHERE WHAT IT READS IS OF BULK AT MOST 1048576: true; the input reads as it did. -/
def fnExactHoldsForUptoRow : OpenClaim := { program := "ytpppopdmnejcfaa", sum := "d19a036667ac9165de527328a4d30cf012d424f02fe4176902b2477cc2315b90", func := "loop.example/g00582/laws.FnExactHoldsFor", spec := "fnExactHoldsFor", inPlace := ["internal/bytealg.IndexByteString"], unfollowed := true, recurses := true, loops := true, apart := false, narrowed := true }
def FnExactHoldsForUptoSaid : Prop := fnExactHoldsForUptoRow.holds Try.pinned (OpenSpec.upto fnExactHoldsForSpec)

/-- 'laws.FnExactWithoutConstraint', WHERE WHAT IT READS IS OF BULK AT MOST 1048576: true; the input reads as it did. -/
def fnExactWithoutConstraintUptoRow : OpenClaim := { program := "ytpppopdmnejcfaa", sum := "d19a036667ac9165de527328a4d30cf012d424f02fe4176902b2477cc2315b90", func := "loop.example/g00582/laws.FnExactWithoutConstraint", spec := "fnExactWithoutConstraint", inPlace := ["internal/bytealg.IndexByteString"], unfollowed := true, recurses := true, loops := true, apart := false, narrowed := true }
def FnExactWithoutConstraintUptoSaid : Prop := fnExactWithoutConstraintUptoRow.holds Try.pinned (OpenSpec.upto fnExactWithoutConstraintSpec)

end Rows
end Go.Proofs.Ytpppopdmnejcfaa
