/-
  NARROWER THAN 'FOR EVERY INPUT', by the rows' own cells (each row's printed sentence says how): FnExactEqualConstraint: loops.
  DERIVED. THE GIVEN ROWS OF THIS SEAT. 12 by the template 'for every input the law returns true; each argument reads behind the call as it read before'; 0 by the template 'total and deterministic' (their statements: YtkefiajemifklaaTotals.lean).
  GIVEN WITH THE SEED: the statements are not yours to turn. If you find one false, say at which input.
  Laid BY PROGRAM, IN A SANDBOX (cutbox-rows.mjs): the forced cells as the released guide's own fill.sh prints them over the translation 2e827c12c86c033a… (all of the seat's roots in one cut). By AI agents, Wed Nov 11 2026. No macro, syntax, notation, axiom, sorry.
-/
import Derived.Test.YtkefiajemifklaaChecked
import GoSem.Claim
import GoSem.ClaimJoined
import GoSem.ClaimMapViews
import Derived.JoinedTies
import Derived.KernelRfl
namespace Go.Proofs.Ytkefiajemifklaa
/- THE CELL 'sum', in the pinned program and in every row, IS THE sha256 OF THE DUMP (.gsa) THAT YtkefiajemifklaaProg.lean LOADS. Nothing in Lean hashes anything: it is a label: what it is worth is what the hold of that sum in a sandbox is worth. -/
noncomputable def Try.pinned : Pinned := { name := "ytkefiajemifklaa", sum := "2e827c12c86c033ab9c4383c9f15e0e5a2931cf9b3fa428dfbae08a2e8b57475", checked := Try.checked }
namespace Rows
def none {H : Type} : Left H := { results := [], args := [] }

/-- 'laws.FnMonoid': WHATEVER THE INPUT: true; the input reads as it did. -/
def fnMonoidSpec : ChangeSpec := { name := "fnMonoid", fn := fun _ => fun
  | [d] => { results := [.lit (.bool true)], args := [d] }
  | _ => none }
def fnMonoidRow : OpenClaim := { program := "ytkefiajemifklaa", sum := "2e827c12c86c033ab9c4383c9f15e0e5a2931cf9b3fa428dfbae08a2e8b57475", func := "loop.example/g00582/laws.FnMonoid", spec := "fnMonoid", inPlace := ["internal/bytealg.IndexByteString"], unfollowed := true, recurses := true, apart := false }
def FnMonoidSaid : Prop := fnMonoidRow.holds Try.pinned (OpenSpec.ofChange fnMonoidSpec)

/-- ITS FALSE NEIGHBOUR: 'it returns false'. Refute it at one input. -/
def fnMonoidWrong : ChangeSpec := { name := "fnMonoid", fn := fun _ => fun
  | [d] => { results := [.lit (.bool false)], args := [d] }
  | _ => none }
def FnMonoidWrongFalsely : Prop := fnMonoidRow.holds Try.pinned (OpenSpec.ofChange fnMonoidWrong)

/-- 'laws.FnExactEqualState': WHATEVER THE INPUT: true; the input reads as it did. -/
def fnExactEqualStateSpec : ChangeSpec := { name := "fnExactEqualState", fn := fun _ => fun
  | [d1, d2] => { results := [.lit (.bool true)], args := [d1, d2] }
  | _ => none }
def fnExactEqualStateRow : OpenClaim := { program := "ytkefiajemifklaa", sum := "2e827c12c86c033ab9c4383c9f15e0e5a2931cf9b3fa428dfbae08a2e8b57475", func := "loop.example/g00582/laws.FnExactEqualState", spec := "fnExactEqualState", apart := false }
def FnExactEqualStateSaid : Prop := fnExactEqualStateRow.holds Try.pinned (OpenSpec.ofChange fnExactEqualStateSpec)

/-- ITS FALSE NEIGHBOUR: 'it returns false'. Refute it at one input. -/
def fnExactEqualStateWrong : ChangeSpec := { name := "fnExactEqualState", fn := fun _ => fun
  | [d1, d2] => { results := [.lit (.bool false)], args := [d1, d2] }
  | _ => none }
def FnExactEqualStateWrongFalsely : Prop := fnExactEqualStateRow.holds Try.pinned (OpenSpec.ofChange fnExactEqualStateWrong)

/-- 'laws.FnExactApplyMove': WHATEVER THE INPUT: true; the input reads as it did. -/
def fnExactApplyMoveSpec : ChangeSpec := { name := "fnExactApplyMove", fn := fun _ => fun
  | [d1, d2] => { results := [.lit (.bool true)], args := [d1, d2] }
  | _ => none }
def fnExactApplyMoveRow : OpenClaim := { program := "ytkefiajemifklaa", sum := "2e827c12c86c033ab9c4383c9f15e0e5a2931cf9b3fa428dfbae08a2e8b57475", func := "loop.example/g00582/laws.FnExactApplyMove", spec := "fnExactApplyMove", unfollowed := true, recurses := true, apart := false }
def FnExactApplyMoveSaid : Prop := fnExactApplyMoveRow.holds Try.pinned (OpenSpec.ofChange fnExactApplyMoveSpec)

/-- ITS FALSE NEIGHBOUR: 'it returns false'. Refute it at one input. -/
def fnExactApplyMoveWrong : ChangeSpec := { name := "fnExactApplyMove", fn := fun _ => fun
  | [d1, d2] => { results := [.lit (.bool false)], args := [d1, d2] }
  | _ => none }
def FnExactApplyMoveWrongFalsely : Prop := fnExactApplyMoveRow.holds Try.pinned (OpenSpec.ofChange fnExactApplyMoveWrong)

/-- 'laws.FnExactIsQuadratic': WHATEVER THE INPUT: true; the input reads as it did. -/
def fnExactIsQuadraticSpec : ChangeSpec := { name := "fnExactIsQuadratic", fn := fun _ => fun
  | [d] => { results := [.lit (.bool true)], args := [d] }
  | _ => none }
def fnExactIsQuadraticRow : OpenClaim := { program := "ytkefiajemifklaa", sum := "2e827c12c86c033ab9c4383c9f15e0e5a2931cf9b3fa428dfbae08a2e8b57475", func := "loop.example/g00582/laws.FnExactIsQuadratic", spec := "fnExactIsQuadratic", inPlace := ["internal/bytealg.IndexByteString"], apart := false }
def FnExactIsQuadraticSaid : Prop := fnExactIsQuadraticRow.holds Try.pinned (OpenSpec.ofChange fnExactIsQuadraticSpec)

/-- ITS FALSE NEIGHBOUR: 'it returns false'. Refute it at one input. -/
def fnExactIsQuadraticWrong : ChangeSpec := { name := "fnExactIsQuadratic", fn := fun _ => fun
  | [d] => { results := [.lit (.bool false)], args := [d] }
  | _ => none }
def FnExactIsQuadraticWrongFalsely : Prop := fnExactIsQuadraticRow.holds Try.pinned (OpenSpec.ofChange fnExactIsQuadraticWrong)

/-- 'laws.FnExactReverseStep': WHATEVER THE INPUT: true; the input reads as it did. -/
def fnExactReverseStepSpec : ChangeSpec := { name := "fnExactReverseStep", fn := fun _ => fun
  | [d1, d2] => { results := [.lit (.bool true)], args := [d1, d2] }
  | _ => none }
def fnExactReverseStepRow : OpenClaim := { program := "ytkefiajemifklaa", sum := "2e827c12c86c033ab9c4383c9f15e0e5a2931cf9b3fa428dfbae08a2e8b57475", func := "loop.example/g00582/laws.FnExactReverseStep", spec := "fnExactReverseStep", inPlace := ["internal/bytealg.IndexByteString"], apart := false }
def FnExactReverseStepSaid : Prop := fnExactReverseStepRow.holds Try.pinned (OpenSpec.ofChange fnExactReverseStepSpec)

/-- ITS FALSE NEIGHBOUR: 'it returns false'. Refute it at one input. -/
def fnExactReverseStepWrong : ChangeSpec := { name := "fnExactReverseStep", fn := fun _ => fun
  | [d1, d2] => { results := [.lit (.bool false)], args := [d1, d2] }
  | _ => none }
def FnExactReverseStepWrongFalsely : Prop := fnExactReverseStepRow.holds Try.pinned (OpenSpec.ofChange fnExactReverseStepWrong)

/-- 'laws.FnExactEqualMonoid': WHATEVER THE INPUT: true; the input reads as it did. -/
def fnExactEqualMonoidSpec : ChangeSpec := { name := "fnExactEqualMonoid", fn := fun _ => fun
  | [d1, d2] => { results := [.lit (.bool true)], args := [d1, d2] }
  | _ => none }
def fnExactEqualMonoidRow : OpenClaim := { program := "ytkefiajemifklaa", sum := "2e827c12c86c033ab9c4383c9f15e0e5a2931cf9b3fa428dfbae08a2e8b57475", func := "loop.example/g00582/laws.FnExactEqualMonoid", spec := "fnExactEqualMonoid", unfollowed := true, recurses := true, apart := false }
def FnExactEqualMonoidSaid : Prop := fnExactEqualMonoidRow.holds Try.pinned (OpenSpec.ofChange fnExactEqualMonoidSpec)

/-- ITS FALSE NEIGHBOUR: 'it returns false'. Refute it at one input. -/
def fnExactEqualMonoidWrong : ChangeSpec := { name := "fnExactEqualMonoid", fn := fun _ => fun
  | [d1, d2] => { results := [.lit (.bool false)], args := [d1, d2] }
  | _ => none }
def FnExactEqualMonoidWrongFalsely : Prop := fnExactEqualMonoidRow.holds Try.pinned (OpenSpec.ofChange fnExactEqualMonoidWrong)

/-- 'laws.FnExactMovesOf': WHATEVER THE INPUT: true; the input reads as it did. -/
def fnExactMovesOfSpec : ChangeSpec := { name := "fnExactMovesOf", fn := fun _ => fun
  | [d] => { results := [.lit (.bool true)], args := [d] }
  | _ => none }
def fnExactMovesOfRow : OpenClaim := { program := "ytkefiajemifklaa", sum := "2e827c12c86c033ab9c4383c9f15e0e5a2931cf9b3fa428dfbae08a2e8b57475", func := "loop.example/g00582/laws.FnExactMovesOf", spec := "fnExactMovesOf", inPlace := ["internal/bytealg.IndexByteString"], apart := false }
def FnExactMovesOfSaid : Prop := fnExactMovesOfRow.holds Try.pinned (OpenSpec.ofChange fnExactMovesOfSpec)

/-- ITS FALSE NEIGHBOUR: 'it returns false'. Refute it at one input. -/
def fnExactMovesOfWrong : ChangeSpec := { name := "fnExactMovesOf", fn := fun _ => fun
  | [d] => { results := [.lit (.bool false)], args := [d] }
  | _ => none }
def FnExactMovesOfWrongFalsely : Prop := fnExactMovesOfRow.holds Try.pinned (OpenSpec.ofChange fnExactMovesOfWrong)

/-- 'laws.FnExactFormatValues': WHATEVER THE INPUT: true; the input reads as it did. -/
def fnExactFormatValuesSpec : ChangeSpec := { name := "fnExactFormatValues", fn := fun _ => fun
  | [d1, d2] => { results := [.lit (.bool true)], args := [d1, d2] }
  | _ => none }
def fnExactFormatValuesRow : OpenClaim := { program := "ytkefiajemifklaa", sum := "2e827c12c86c033ab9c4383c9f15e0e5a2931cf9b3fa428dfbae08a2e8b57475", func := "loop.example/g00582/laws.FnExactFormatValues", spec := "fnExactFormatValues", inPlace := ["internal/bytealg.IndexByteString", "internal/abi.NoEscape", "internal/bytealg.MakeNoZero"], apart := false }
def FnExactFormatValuesSaid : Prop := fnExactFormatValuesRow.holds Try.pinned (OpenSpec.ofChange fnExactFormatValuesSpec)

/-- ITS FALSE NEIGHBOUR: 'it returns false'. Refute it at one input. -/
def fnExactFormatValuesWrong : ChangeSpec := { name := "fnExactFormatValues", fn := fun _ => fun
  | [d1, d2] => { results := [.lit (.bool false)], args := [d1, d2] }
  | _ => none }
def FnExactFormatValuesWrongFalsely : Prop := fnExactFormatValuesRow.holds Try.pinned (OpenSpec.ofChange fnExactFormatValuesWrong)

/-- 'laws.FnExactWordOfMap': WHATEVER THE INPUT: true; the input reads as it did. -/
def fnExactWordOfMapSpec : ChangeSpec := { name := "fnExactWordOfMap", fn := fun _ => fun
  | [d1, d2] => { results := [.lit (.bool true)], args := [d1, d2] }
  | _ => none }
def fnExactWordOfMapRow : OpenClaim := { program := "ytkefiajemifklaa", sum := "2e827c12c86c033ab9c4383c9f15e0e5a2931cf9b3fa428dfbae08a2e8b57475", func := "loop.example/g00582/laws.FnExactWordOfMap", spec := "fnExactWordOfMap", unfollowed := true, recurses := true, apart := false }
def FnExactWordOfMapSaid : Prop := fnExactWordOfMapRow.holds Try.pinned (OpenSpec.ofChange fnExactWordOfMapSpec)

/-- ITS FALSE NEIGHBOUR: 'it returns false'. Refute it at one input. -/
def fnExactWordOfMapWrong : ChangeSpec := { name := "fnExactWordOfMap", fn := fun _ => fun
  | [d1, d2] => { results := [.lit (.bool false)], args := [d1, d2] }
  | _ => none }
def FnExactWordOfMapWrongFalsely : Prop := fnExactWordOfMapRow.holds Try.pinned (OpenSpec.ofChange fnExactWordOfMapWrong)

/-- 'laws.FnExactMapOf': WHATEVER THE INPUT: true; the input reads as it did. -/
def fnExactMapOfSpec : ChangeSpec := { name := "fnExactMapOf", fn := fun _ => fun
  | [d1, d2] => { results := [.lit (.bool true)], args := [d1, d2] }
  | _ => none }
def fnExactMapOfRow : OpenClaim := { program := "ytkefiajemifklaa", sum := "2e827c12c86c033ab9c4383c9f15e0e5a2931cf9b3fa428dfbae08a2e8b57475", func := "loop.example/g00582/laws.FnExactMapOf", spec := "fnExactMapOf", inPlace := ["internal/bytealg.IndexByteString"], unfollowed := true, recurses := true, apart := false }
def FnExactMapOfSaid : Prop := fnExactMapOfRow.holds Try.pinned (OpenSpec.ofChange fnExactMapOfSpec)

/-- ITS FALSE NEIGHBOUR: 'it returns false'. Refute it at one input. -/
def fnExactMapOfWrong : ChangeSpec := { name := "fnExactMapOf", fn := fun _ => fun
  | [d1, d2] => { results := [.lit (.bool false)], args := [d1, d2] }
  | _ => none }
def FnExactMapOfWrongFalsely : Prop := fnExactMapOfRow.holds Try.pinned (OpenSpec.ofChange fnExactMapOfWrong)

/-- 'laws.FnExactEqualConstraint': WHATEVER THE INPUT: true; the input reads as it did. -/
def fnExactEqualConstraintSpec : ChangeSpec := { name := "fnExactEqualConstraint", fn := fun _ => fun
  | [d1, d2] => { results := [.lit (.bool true)], args := [d1, d2] }
  | _ => none }
def fnExactEqualConstraintRow : OpenClaim := { program := "ytkefiajemifklaa", sum := "2e827c12c86c033ab9c4383c9f15e0e5a2931cf9b3fa428dfbae08a2e8b57475", func := "loop.example/g00582/laws.FnExactEqualConstraint", spec := "fnExactEqualConstraint", unfollowed := true, recurses := true, loops := true, apart := false }
def FnExactEqualConstraintSaid : Prop := fnExactEqualConstraintRow.holds Try.pinned (OpenSpec.ofChange fnExactEqualConstraintSpec)

/-- ITS FALSE NEIGHBOUR: 'it returns false'. Refute it at one input. -/
def fnExactEqualConstraintWrong : ChangeSpec := { name := "fnExactEqualConstraint", fn := fun _ => fun
  | [d1, d2] => { results := [.lit (.bool false)], args := [d1, d2] }
  | _ => none }
def FnExactEqualConstraintWrongFalsely : Prop := fnExactEqualConstraintRow.holds Try.pinned (OpenSpec.ofChange fnExactEqualConstraintWrong)

/-- 'laws.FnExactEqualFrame': WHATEVER THE INPUT: true; the input reads as it did. -/
def fnExactEqualFrameSpec : ChangeSpec := { name := "fnExactEqualFrame", fn := fun _ => fun
  | [d1, d2] => { results := [.lit (.bool true)], args := [d1, d2] }
  | _ => none }
def fnExactEqualFrameRow : OpenClaim := { program := "ytkefiajemifklaa", sum := "2e827c12c86c033ab9c4383c9f15e0e5a2931cf9b3fa428dfbae08a2e8b57475", func := "loop.example/g00582/laws.FnExactEqualFrame", spec := "fnExactEqualFrame", unfollowed := true, recurses := true, apart := false }
def FnExactEqualFrameSaid : Prop := fnExactEqualFrameRow.holds Try.pinned (OpenSpec.ofChange fnExactEqualFrameSpec)

/-- ITS FALSE NEIGHBOUR: 'it returns false'. Refute it at one input. -/
def fnExactEqualFrameWrong : ChangeSpec := { name := "fnExactEqualFrame", fn := fun _ => fun
  | [d1, d2] => { results := [.lit (.bool false)], args := [d1, d2] }
  | _ => none }
def FnExactEqualFrameWrongFalsely : Prop := fnExactEqualFrameRow.holds Try.pinned (OpenSpec.ofChange fnExactEqualFrameWrong)

/- THE SECOND FORM. 'bulk': how many values and letters a reading holds, each counted each time it is reached (what is shared counts as often as it is met; a slice's spare places count too). A statement '..UptoSaid' is the law's where the arguments, and the package variables that the reading takes, are together of bulk at most 1048576: NARROWER than '..Said'. Prove '..Said' where nothing that the law and all that it calls make is longer than what came in: it says more and counts as full. Else prove '..UptoSaid'. A law counts once. -/
mutual
def uptoBulk {H : Type} : DataW H → Nat
  | .lit (.string bytes) => bytes.length + 1
  | .lit _ => 1
  | .nil => 1
  | .ptr d => uptoBulk d + 1
  | .slice elems spare => uptoBulkAll elems + uptoBulkAll spare + 1
  | .agg parts => uptoBulkAll parts + 1
  | .iface _ d => uptoBulk d + 1
  | .map entries => uptoBulkEntries entries + 1
  | .held _ => 1
def uptoBulkAll {H : Type} : List (DataW H) → Nat
  | [] => 0
  | d :: r => uptoBulk d + uptoBulkAll r
def uptoBulkEntries {H : Type} : List (Lit × DataW H) → Nat
  | [] => 0
  | x :: r => uptoBulkEntry x + uptoBulkEntries r
def uptoBulkEntry {H : Type} : Lit × DataW H → Nat
  | (.string bytes, d) => bytes.length + uptoBulk d + 1
  | (_, d) => uptoBulk d + 1
 end
def uptoSmall : (H : Type) → List (DataW H) → Bool := fun _ ds => decide (uptoBulkAll ds ≤ 1048576)
def OpenSpec.upto (s : _root_.Go.ChangeSpec) : _root_.Go.OpenSpec := { _root_.Go.OpenSpec.ofChange s with cond := some uptoSmall }

/-- 'laws.FnMonoid', WHERE WHAT IT READS IS OF BULK AT MOST 1048576: true; the input reads as it did. -/
def fnMonoidUptoRow : OpenClaim := { program := "ytkefiajemifklaa", sum := "2e827c12c86c033ab9c4383c9f15e0e5a2931cf9b3fa428dfbae08a2e8b57475", func := "loop.example/g00582/laws.FnMonoid", spec := "fnMonoid", inPlace := ["internal/bytealg.IndexByteString"], unfollowed := true, recurses := true, apart := false, narrowed := true }
def FnMonoidUptoSaid : Prop := fnMonoidUptoRow.holds Try.pinned (OpenSpec.upto fnMonoidSpec)

/-- 'laws.FnExactEqualState', WHERE WHAT IT READS IS OF BULK AT MOST 1048576: true; the input reads as it did. -/
def fnExactEqualStateUptoRow : OpenClaim := { program := "ytkefiajemifklaa", sum := "2e827c12c86c033ab9c4383c9f15e0e5a2931cf9b3fa428dfbae08a2e8b57475", func := "loop.example/g00582/laws.FnExactEqualState", spec := "fnExactEqualState", apart := false, narrowed := true }
def FnExactEqualStateUptoSaid : Prop := fnExactEqualStateUptoRow.holds Try.pinned (OpenSpec.upto fnExactEqualStateSpec)

/-- 'laws.FnExactApplyMove', WHERE WHAT IT READS IS OF BULK AT MOST 1048576: true; the input reads as it did. -/
def fnExactApplyMoveUptoRow : OpenClaim := { program := "ytkefiajemifklaa", sum := "2e827c12c86c033ab9c4383c9f15e0e5a2931cf9b3fa428dfbae08a2e8b57475", func := "loop.example/g00582/laws.FnExactApplyMove", spec := "fnExactApplyMove", unfollowed := true, recurses := true, apart := false, narrowed := true }
def FnExactApplyMoveUptoSaid : Prop := fnExactApplyMoveUptoRow.holds Try.pinned (OpenSpec.upto fnExactApplyMoveSpec)

/-- 'laws.FnExactIsQuadratic', WHERE WHAT IT READS IS OF BULK AT MOST 1048576: true; the input reads as it did. -/
def fnExactIsQuadraticUptoRow : OpenClaim := { program := "ytkefiajemifklaa", sum := "2e827c12c86c033ab9c4383c9f15e0e5a2931cf9b3fa428dfbae08a2e8b57475", func := "loop.example/g00582/laws.FnExactIsQuadratic", spec := "fnExactIsQuadratic", inPlace := ["internal/bytealg.IndexByteString"], apart := false, narrowed := true }
def FnExactIsQuadraticUptoSaid : Prop := fnExactIsQuadraticUptoRow.holds Try.pinned (OpenSpec.upto fnExactIsQuadraticSpec)

/-- 'laws.FnExactReverseStep', WHERE WHAT IT READS IS OF BULK AT MOST 1048576: true; the input reads as it did. -/
def fnExactReverseStepUptoRow : OpenClaim := { program := "ytkefiajemifklaa", sum := "2e827c12c86c033ab9c4383c9f15e0e5a2931cf9b3fa428dfbae08a2e8b57475", func := "loop.example/g00582/laws.FnExactReverseStep", spec := "fnExactReverseStep", inPlace := ["internal/bytealg.IndexByteString"], apart := false, narrowed := true }
def FnExactReverseStepUptoSaid : Prop := fnExactReverseStepUptoRow.holds Try.pinned (OpenSpec.upto fnExactReverseStepSpec)

/-- 'laws.FnExactEqualMonoid', WHERE WHAT IT READS IS OF BULK AT MOST 1048576: true; the input reads as it did. -/
def fnExactEqualMonoidUptoRow : OpenClaim := { program := "ytkefiajemifklaa", sum := "2e827c12c86c033ab9c4383c9f15e0e5a2931cf9b3fa428dfbae08a2e8b57475", func := "loop.example/g00582/laws.FnExactEqualMonoid", spec := "fnExactEqualMonoid", unfollowed := true, recurses := true, apart := false, narrowed := true }
def FnExactEqualMonoidUptoSaid : Prop := fnExactEqualMonoidUptoRow.holds Try.pinned (OpenSpec.upto fnExactEqualMonoidSpec)

/-- 'laws.FnExactMovesOf', WHERE WHAT IT READS IS OF BULK AT MOST 1048576: true; the input reads as it did. -/
def fnExactMovesOfUptoRow : OpenClaim := { program := "ytkefiajemifklaa", sum := "2e827c12c86c033ab9c4383c9f15e0e5a2931cf9b3fa428dfbae08a2e8b57475", func := "loop.example/g00582/laws.FnExactMovesOf", spec := "fnExactMovesOf", inPlace := ["internal/bytealg.IndexByteString"], apart := false, narrowed := true }
def FnExactMovesOfUptoSaid : Prop := fnExactMovesOfUptoRow.holds Try.pinned (OpenSpec.upto fnExactMovesOfSpec)

/-- 'laws.FnExactFormatValues', WHERE WHAT IT READS IS OF BULK AT MOST 1048576: true; the input reads as it did. -/
def fnExactFormatValuesUptoRow : OpenClaim := { program := "ytkefiajemifklaa", sum := "2e827c12c86c033ab9c4383c9f15e0e5a2931cf9b3fa428dfbae08a2e8b57475", func := "loop.example/g00582/laws.FnExactFormatValues", spec := "fnExactFormatValues", inPlace := ["internal/bytealg.IndexByteString", "internal/abi.NoEscape", "internal/bytealg.MakeNoZero"], apart := false, narrowed := true }
def FnExactFormatValuesUptoSaid : Prop := fnExactFormatValuesUptoRow.holds Try.pinned (OpenSpec.upto fnExactFormatValuesSpec)

/-- 'laws.FnExactWordOfMap', WHERE WHAT IT READS IS OF BULK AT MOST 1048576: true; the input reads as it did. -/
def fnExactWordOfMapUptoRow : OpenClaim := { program := "ytkefiajemifklaa", sum := "2e827c12c86c033ab9c4383c9f15e0e5a2931cf9b3fa428dfbae08a2e8b57475", func := "loop.example/g00582/laws.FnExactWordOfMap", spec := "fnExactWordOfMap", unfollowed := true, recurses := true, apart := false, narrowed := true }
def FnExactWordOfMapUptoSaid : Prop := fnExactWordOfMapUptoRow.holds Try.pinned (OpenSpec.upto fnExactWordOfMapSpec)

/-- 'laws.FnExactMapOf', WHERE WHAT IT READS IS OF BULK AT MOST 1048576: true; the input reads as it did. -/
def fnExactMapOfUptoRow : OpenClaim := { program := "ytkefiajemifklaa", sum := "2e827c12c86c033ab9c4383c9f15e0e5a2931cf9b3fa428dfbae08a2e8b57475", func := "loop.example/g00582/laws.FnExactMapOf", spec := "fnExactMapOf", inPlace := ["internal/bytealg.IndexByteString"], unfollowed := true, recurses := true, apart := false, narrowed := true }
def FnExactMapOfUptoSaid : Prop := fnExactMapOfUptoRow.holds Try.pinned (OpenSpec.upto fnExactMapOfSpec)

/-- 'laws.FnExactEqualConstraint', WHERE WHAT IT READS IS OF BULK AT MOST 1048576: true; the input reads as it did. -/
def fnExactEqualConstraintUptoRow : OpenClaim := { program := "ytkefiajemifklaa", sum := "2e827c12c86c033ab9c4383c9f15e0e5a2931cf9b3fa428dfbae08a2e8b57475", func := "loop.example/g00582/laws.FnExactEqualConstraint", spec := "fnExactEqualConstraint", unfollowed := true, recurses := true, loops := true, apart := false, narrowed := true }
def FnExactEqualConstraintUptoSaid : Prop := fnExactEqualConstraintUptoRow.holds Try.pinned (OpenSpec.upto fnExactEqualConstraintSpec)

/-- 'laws.FnExactEqualFrame', WHERE WHAT IT READS IS OF BULK AT MOST 1048576: true; the input reads as it did. -/
def fnExactEqualFrameUptoRow : OpenClaim := { program := "ytkefiajemifklaa", sum := "2e827c12c86c033ab9c4383c9f15e0e5a2931cf9b3fa428dfbae08a2e8b57475", func := "loop.example/g00582/laws.FnExactEqualFrame", spec := "fnExactEqualFrame", unfollowed := true, recurses := true, apart := false, narrowed := true }
def FnExactEqualFrameUptoSaid : Prop := fnExactEqualFrameUptoRow.holds Try.pinned (OpenSpec.upto fnExactEqualFrameSpec)

end Rows
end Go.Proofs.Ytkefiajemifklaa
