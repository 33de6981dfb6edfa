/-
  NARROWER THAN 'FOR EVERY INPUT', by the rows' own cells (each row's printed sentence says how): FnExactWithoutConstraint: loops.
  DERIVED. THE GIVEN ROWS OF THIS SEAT. 4 by the template 'for every input the law returns true; each argument reads behind the call as it read before'; 0 by the template 'total and deterministic' (their statements: YtjmfpaalglbbhaaTotals.lean).
  GIVEN WITH THE SEED: the statements are not yours to turn. If you find one false, say at which input.
  Laid BY PROGRAM, IN A SANDBOX (cutbox-rows.mjs): the forced cells as the released guide's own fill.sh prints them over the translation 1fc8be586f8c80bf… (all of the seat's roots in one cut). By AI agents, Wed Nov 11 2026. No macro, syntax, notation, axiom, sorry.
-/
import Derived.Test.YtjmfpaalglbbhaaChecked
import GoSem.Claim
import GoSem.ClaimJoined
import GoSem.ClaimMapViews
import Derived.JoinedTies
import Derived.KernelRfl
namespace Go.Proofs.Ytjmfpaalglbbhaa
/- THE CELL 'sum', in the pinned program and in every row, IS THE sha256 OF THE DUMP (.gsa) THAT YtjmfpaalglbbhaaProg.lean LOADS. Nothing in Lean hashes anything: it is a label: what it is worth is what the hold of that sum in a sandbox is worth. -/
noncomputable def Try.pinned : Pinned := { name := "ytjmfpaalglbbhaa", sum := "1fc8be586f8c80bfe917055608ac42bbca5de0033f8743ead03115f1a9058920", checked := Try.checked }
namespace Rows
def none {H : Type} : Left H := { results := [], args := [] }

/-- 'laws.FnExactStartStates': WHATEVER THE INPUT: true; the input reads as it did. -/
def fnExactStartStatesSpec : ChangeSpec := { name := "fnExactStartStates", fn := fun _ => fun
  | [d] => { results := [.lit (.bool true)], args := [d] }
  | _ => none }
def fnExactStartStatesRow : OpenClaim := { program := "ytjmfpaalglbbhaa", sum := "1fc8be586f8c80bfe917055608ac42bbca5de0033f8743ead03115f1a9058920", func := "loop.example/g00582/laws.FnExactStartStates", spec := "fnExactStartStates", inPlace := ["internal/bytealg.IndexByteString"], apart := false }
def FnExactStartStatesSaid : Prop := fnExactStartStatesRow.holds Try.pinned (OpenSpec.ofChange fnExactStartStatesSpec)

/-- ITS FALSE NEIGHBOUR: 'it returns false'. Refute it at one input. -/
def fnExactStartStatesWrong : ChangeSpec := { name := "fnExactStartStates", fn := fun _ => fun
  | [d] => { results := [.lit (.bool false)], args := [d] }
  | _ => none }
def FnExactStartStatesWrongFalsely : Prop := fnExactStartStatesRow.holds Try.pinned (OpenSpec.ofChange fnExactStartStatesWrong)

/-- 'laws.FnExactBuildMonoid': WHATEVER THE INPUT: true; the input reads as it did. -/
def fnExactBuildMonoidSpec : ChangeSpec := { name := "fnExactBuildMonoid", fn := fun _ => fun
  | [d] => { results := [.lit (.bool true)], args := [d] }
  | _ => none }
def fnExactBuildMonoidRow : OpenClaim := { program := "ytjmfpaalglbbhaa", sum := "1fc8be586f8c80bfe917055608ac42bbca5de0033f8743ead03115f1a9058920", func := "loop.example/g00582/laws.FnExactBuildMonoid", spec := "fnExactBuildMonoid", unfollowed := true, recurses := true, apart := false }
def FnExactBuildMonoidSaid : Prop := fnExactBuildMonoidRow.holds Try.pinned (OpenSpec.ofChange fnExactBuildMonoidSpec)

/-- ITS FALSE NEIGHBOUR: 'it returns false'. Refute it at one input. -/
def fnExactBuildMonoidWrong : ChangeSpec := { name := "fnExactBuildMonoid", fn := fun _ => fun
  | [d] => { results := [.lit (.bool false)], args := [d] }
  | _ => none }
def FnExactBuildMonoidWrongFalsely : Prop := fnExactBuildMonoidRow.holds Try.pinned (OpenSpec.ofChange fnExactBuildMonoidWrong)

/-- 'laws.FnMonoid': WHATEVER THE INPUT: true; the input reads as it did. -/
def fnMonoidSpec : ChangeSpec := { name := "fnMonoid", fn := fun _ => fun
  | [d] => { results := [.lit (.bool true)], args := [d] }
  | _ => none }
def fnMonoidRow : OpenClaim := { program := "ytjmfpaalglbbhaa", sum := "1fc8be586f8c80bfe917055608ac42bbca5de0033f8743ead03115f1a9058920", func := "loop.example/g00582/laws.FnMonoid", spec := "fnMonoid", inPlace := ["internal/bytealg.IndexByteString"], unfollowed := true, recurses := true, apart := false }
def FnMonoidSaid : Prop := fnMonoidRow.holds Try.pinned (OpenSpec.ofChange fnMonoidSpec)

/-- ITS FALSE NEIGHBOUR: 'it returns false'. Refute it at one input. -/
def fnMonoidWrong : ChangeSpec := { name := "fnMonoid", fn := fun _ => fun
  | [d] => { results := [.lit (.bool false)], args := [d] }
  | _ => none }
def FnMonoidWrongFalsely : Prop := fnMonoidRow.holds Try.pinned (OpenSpec.ofChange fnMonoidWrong)

/-- 'laws.FnExactWithoutConstraint': WHATEVER THE INPUT: true; the input reads as it did. -/
def fnExactWithoutConstraintSpec : ChangeSpec := { name := "fnExactWithoutConstraint", fn := fun _ => fun
  | [d1, d2] => { results := [.lit (.bool true)], args := [d1, d2] }
  | _ => none }
def fnExactWithoutConstraintRow : OpenClaim := { program := "ytjmfpaalglbbhaa", sum := "1fc8be586f8c80bfe917055608ac42bbca5de0033f8743ead03115f1a9058920", func := "loop.example/g00582/laws.FnExactWithoutConstraint", spec := "fnExactWithoutConstraint", inPlace := ["internal/bytealg.IndexByteString"], unfollowed := true, recurses := true, loops := true, apart := false }
def FnExactWithoutConstraintSaid : Prop := fnExactWithoutConstraintRow.holds Try.pinned (OpenSpec.ofChange fnExactWithoutConstraintSpec)

/-- ITS FALSE NEIGHBOUR: 'it returns false'. Refute it at one input. -/
def fnExactWithoutConstraintWrong : ChangeSpec := { name := "fnExactWithoutConstraint", fn := fun _ => fun
  | [d1, d2] => { results := [.lit (.bool false)], args := [d1, d2] }
  | _ => none }
def FnExactWithoutConstraintWrongFalsely : Prop := fnExactWithoutConstraintRow.holds Try.pinned (OpenSpec.ofChange fnExactWithoutConstraintWrong)

/- THE SECOND FORM. 'bulk': how many values and letters a reading holds, each counted each time it is reached (what is shared counts as often as it is met; a slice's spare places count too). A statement '..UptoSaid' is the law's where the arguments, and the package variables that the reading takes, are together of bulk at most 1048576: NARROWER than '..Said'. Prove '..Said' where nothing that the law and all that it calls make is longer than what came in: it says more and counts as full. Else prove '..UptoSaid'. A law counts once. -/
mutual
def uptoBulk {H : Type} : DataW H → Nat
  | .lit (.string bytes) => bytes.length + 1
  | .lit _ => 1
  | .nil => 1
  | .ptr d => uptoBulk d + 1
  | .slice elems spare => uptoBulkAll elems + uptoBulkAll spare + 1
  | .agg parts => uptoBulkAll parts + 1
  | .iface _ d => uptoBulk d + 1
  | .map entries => uptoBulkEntries entries + 1
  | .held _ => 1
def uptoBulkAll {H : Type} : List (DataW H) → Nat
  | [] => 0
  | d :: r => uptoBulk d + uptoBulkAll r
def uptoBulkEntries {H : Type} : List (Lit × DataW H) → Nat
  | [] => 0
  | x :: r => uptoBulkEntry x + uptoBulkEntries r
def uptoBulkEntry {H : Type} : Lit × DataW H → Nat
  | (.string bytes, d) => bytes.length + uptoBulk d + 1
  | (_, d) => uptoBulk d + 1
 end
def uptoSmall : (H : Type) → List (DataW H) → Bool := fun _ ds => decide (uptoBulkAll ds ≤ 1048576)
def OpenSpec.upto (s : _root_.Go.ChangeSpec) : _root_.Go.OpenSpec := { _root_.Go.OpenSpec.ofChange s with cond := some uptoSmall }

/-- 'laws.FnExactStartStates', WHERE WHAT IT READS IS OF BULK AT MOST 1048576: true; the input reads as it did. -/
def fnExactStartStatesUptoRow : OpenClaim := { program := "ytjmfpaalglbbhaa", sum := "1fc8be586f8c80bfe917055608ac42bbca5de0033f8743ead03115f1a9058920", func := "loop.example/g00582/laws.FnExactStartStates", spec := "fnExactStartStates", inPlace := ["internal/bytealg.IndexByteString"], apart := false, narrowed := true }
def FnExactStartStatesUptoSaid : Prop := fnExactStartStatesUptoRow.holds Try.pinned (OpenSpec.upto fnExactStartStatesSpec)

/-- 'laws.FnExactBuildMonoid', WHERE WHAT IT READS IS OF BULK AT MOST 1048576: true; the input reads as it did. -/
def fnExactBuildMonoidUptoRow : OpenClaim := { program := "ytjmfpaalglbbhaa", sum := "1fc8be586f8c80bfe917055608ac42bbca5de0033f8743ead03115f1a9058920", func := "loop.example/g00582/laws.FnExactBuildMonoid", spec := "fnExactBuildMonoid", unfollowed := true, recurses := true, apart := false, narrowed := true }
def FnExactBuildMonoidUptoSaid : Prop := fnExactBuildMonoidUptoRow.holds Try.pinned (OpenSpec.upto fnExactBuildMonoidSpec)

/-- 'laws.FnMonoid', WHERE WHAT IT READS IS OF BULK AT MOST 1048576: true; the input reads as it did. -/
def fnMonoidUptoRow : OpenClaim := { program := "ytjmfpaalglbbhaa", sum := "1fc8be586f8c80bfe917055608ac42bbca5de0033f8743ead03115f1a9058920", func := "loop.example/g00582/laws.FnMonoid", spec := "fnMonoid", inPlace := ["internal/bytealg.IndexByteString"], unfollowed := true, recurses := true, apart := false, narrowed := true }
def FnMonoidUptoSaid : Prop := fnMonoidUptoRow.holds Try.pinned (OpenSpec.upto fnMonoidSpec)

/-- 'laws.FnExactWithoutConstraint', WHERE WHAT IT READS IS OF BULK AT MOST 1048576: true; the input reads as it did. -/
def fnExactWithoutConstraintUptoRow : OpenClaim := { program := "ytjmfpaalglbbhaa", sum := "1fc8be586f8c80bfe917055608ac42bbca5de0033f8743ead03115f1a9058920", func := "loop.example/g00582/laws.FnExactWithoutConstraint", spec := "fnExactWithoutConstraint", inPlace := ["internal/bytealg.IndexByteString"], unfollowed := true, recurses := true, loops := true, apart := false, narrowed := true }
def FnExactWithoutConstraintUptoSaid : Prop := fnExactWithoutConstraintUptoRow.holds Try.pinned (OpenSpec.upto fnExactWithoutConstraintSpec)

end Rows
end Go.Proofs.Ytjmfpaalglbbhaa
