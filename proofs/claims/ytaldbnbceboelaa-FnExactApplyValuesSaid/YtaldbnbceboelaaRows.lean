/-
  No cell of these rows narrows 'for every input' (looked for: loops, veiled, ifaces, maps, wideKeys, modest, calm, conditions, laid).
  DERIVED. THE GIVEN ROWS OF THIS SEAT. 12 by the template 'for every input the law returns true; each argument reads behind the call as it read before'; 0 by the template 'total and deterministic' (their statements: YtaldbnbceboelaaTotals.lean).
  GIVEN WITH THE SEED: the statements are not yours to turn. If you find one false, say at which input.
  Laid BY PROGRAM, IN A SANDBOX (cutbox-rows.mjs): the forced cells as the released guide's own fill.sh prints them over the translation afe26b9479d97f74… (all of the seat's roots in one cut). By AI agents, Wed Nov 11 2026. No macro, syntax, notation, axiom, sorry.
-/
import Derived.Test.YtaldbnbceboelaaChecked
import GoSem.Claim
import GoSem.ClaimJoined
import GoSem.ClaimMapViews
import Derived.JoinedTies
import Derived.KernelRfl
namespace Go.Proofs.Ytaldbnbceboelaa
/- THE CELL 'sum', in the pinned program and in every row, IS THE sha256 OF THE DUMP (.gsa) THAT YtaldbnbceboelaaProg.lean LOADS. Nothing in Lean hashes anything: it is a label: what it is worth is what the hold of that sum in a sandbox is worth. -/
noncomputable def Try.pinned : Pinned := { name := "ytaldbnbceboelaa", sum := "afe26b9479d97f744cc6f6af61f5defea313dd11336ac8ed112aeb33a0c0c688", checked := Try.checked }
namespace Rows
def none {H : Type} : Left H := { results := [], args := [] }

/-- 'laws.FnExactTotalLength': WHATEVER THE INPUT: true; the input reads as it did. -/
def fnExactTotalLengthSpec : ChangeSpec := { name := "fnExactTotalLength", fn := fun _ => fun
  | [d] => { results := [.lit (.bool true)], args := [d] }
  | _ => none }
def fnExactTotalLengthRow : OpenClaim := { program := "ytaldbnbceboelaa", sum := "afe26b9479d97f744cc6f6af61f5defea313dd11336ac8ed112aeb33a0c0c688", func := "loop.example/g00582/laws.FnExactTotalLength", spec := "fnExactTotalLength", apart := false }
def FnExactTotalLengthSaid : Prop := fnExactTotalLengthRow.holds Try.pinned (OpenSpec.ofChange fnExactTotalLengthSpec)

/-- ITS FALSE NEIGHBOUR: 'it returns false'. Refute it at one input. -/
def fnExactTotalLengthWrong : ChangeSpec := { name := "fnExactTotalLength", fn := fun _ => fun
  | [d] => { results := [.lit (.bool false)], args := [d] }
  | _ => none }
def FnExactTotalLengthWrongFalsely : Prop := fnExactTotalLengthRow.holds Try.pinned (OpenSpec.ofChange fnExactTotalLengthWrong)

/-- 'laws.FnExactReplaceVar': WHATEVER THE INPUT: true; the input reads as it did. -/
def fnExactReplaceVarSpec : ChangeSpec := { name := "fnExactReplaceVar", fn := fun _ => fun
  | [d1, d2, d3] => { results := [.lit (.bool true)], args := [d1, d2, d3] }
  | _ => none }
def fnExactReplaceVarRow : OpenClaim := { program := "ytaldbnbceboelaa", sum := "afe26b9479d97f744cc6f6af61f5defea313dd11336ac8ed112aeb33a0c0c688", func := "loop.example/g00582/laws.FnExactReplaceVar", spec := "fnExactReplaceVar", unfollowed := true, recurses := true, apart := false }
def FnExactReplaceVarSaid : Prop := fnExactReplaceVarRow.holds Try.pinned (OpenSpec.ofChange fnExactReplaceVarSpec)

/-- ITS FALSE NEIGHBOUR: 'it returns false'. Refute it at one input. -/
def fnExactReplaceVarWrong : ChangeSpec := { name := "fnExactReplaceVar", fn := fun _ => fun
  | [d1, d2, d3] => { results := [.lit (.bool false)], args := [d1, d2, d3] }
  | _ => none }
def FnExactReplaceVarWrongFalsely : Prop := fnExactReplaceVarRow.holds Try.pinned (OpenSpec.ofChange fnExactReplaceVarWrong)

/-- 'laws.FnExactVarsOf': WHATEVER THE INPUT: true; the input reads as it did. -/
def fnExactVarsOfSpec : ChangeSpec := { name := "fnExactVarsOf", fn := fun _ => fun
  | [d] => { results := [.lit (.bool true)], args := [d] }
  | _ => none }
def fnExactVarsOfRow : OpenClaim := { program := "ytaldbnbceboelaa", sum := "afe26b9479d97f744cc6f6af61f5defea313dd11336ac8ed112aeb33a0c0c688", func := "loop.example/g00582/laws.FnExactVarsOf", spec := "fnExactVarsOf", inPlace := ["internal/bytealg.IndexByteString"], apart := false }
def FnExactVarsOfSaid : Prop := fnExactVarsOfRow.holds Try.pinned (OpenSpec.ofChange fnExactVarsOfSpec)

/-- ITS FALSE NEIGHBOUR: 'it returns false'. Refute it at one input. -/
def fnExactVarsOfWrong : ChangeSpec := { name := "fnExactVarsOf", fn := fun _ => fun
  | [d] => { results := [.lit (.bool false)], args := [d] }
  | _ => none }
def FnExactVarsOfWrongFalsely : Prop := fnExactVarsOfRow.holds Try.pinned (OpenSpec.ofChange fnExactVarsOfWrong)

/-- 'laws.FnExactIsTerm': WHATEVER THE INPUT: true; the input reads as it did. -/
def fnExactIsTermSpec : ChangeSpec := { name := "fnExactIsTerm", fn := fun _ => fun
  | [d] => { results := [.lit (.bool true)], args := [d] }
  | _ => none }
def fnExactIsTermRow : OpenClaim := { program := "ytaldbnbceboelaa", sum := "afe26b9479d97f744cc6f6af61f5defea313dd11336ac8ed112aeb33a0c0c688", func := "loop.example/g00582/laws.FnExactIsTerm", spec := "fnExactIsTerm", inPlace := ["internal/bytealg.IndexByteString"], apart := false }
def FnExactIsTermSaid : Prop := fnExactIsTermRow.holds Try.pinned (OpenSpec.ofChange fnExactIsTermSpec)

/-- ITS FALSE NEIGHBOUR: 'it returns false'. Refute it at one input. -/
def fnExactIsTermWrong : ChangeSpec := { name := "fnExactIsTerm", fn := fun _ => fun
  | [d] => { results := [.lit (.bool false)], args := [d] }
  | _ => none }
def FnExactIsTermWrongFalsely : Prop := fnExactIsTermRow.holds Try.pinned (OpenSpec.ofChange fnExactIsTermWrong)

/-- 'laws.FnExactStripEquation': WHATEVER THE INPUT: true; the input reads as it did. -/
def fnExactStripEquationSpec : ChangeSpec := { name := "fnExactStripEquation", fn := fun _ => fun
  | [d] => { results := [.lit (.bool true)], args := [d] }
  | _ => none }
def fnExactStripEquationRow : OpenClaim := { program := "ytaldbnbceboelaa", sum := "afe26b9479d97f744cc6f6af61f5defea313dd11336ac8ed112aeb33a0c0c688", func := "loop.example/g00582/laws.FnExactStripEquation", spec := "fnExactStripEquation", apart := false }
def FnExactStripEquationSaid : Prop := fnExactStripEquationRow.holds Try.pinned (OpenSpec.ofChange fnExactStripEquationSpec)

/-- ITS FALSE NEIGHBOUR: 'it returns false'. Refute it at one input. -/
def fnExactStripEquationWrong : ChangeSpec := { name := "fnExactStripEquation", fn := fun _ => fun
  | [d] => { results := [.lit (.bool false)], args := [d] }
  | _ => none }
def FnExactStripEquationWrongFalsely : Prop := fnExactStripEquationRow.holds Try.pinned (OpenSpec.ofChange fnExactStripEquationWrong)

/-- 'laws.FnExactValueOf': WHATEVER THE INPUT: true; the input reads as it did. -/
def fnExactValueOfSpec : ChangeSpec := { name := "fnExactValueOf", fn := fun _ => fun
  | [d1, d2] => { results := [.lit (.bool true)], args := [d1, d2] }
  | _ => none }
def fnExactValueOfRow : OpenClaim := { program := "ytaldbnbceboelaa", sum := "afe26b9479d97f744cc6f6af61f5defea313dd11336ac8ed112aeb33a0c0c688", func := "loop.example/g00582/laws.FnExactValueOf", spec := "fnExactValueOf", apart := false }
def FnExactValueOfSaid : Prop := fnExactValueOfRow.holds Try.pinned (OpenSpec.ofChange fnExactValueOfSpec)

/-- ITS FALSE NEIGHBOUR: 'it returns false'. Refute it at one input. -/
def fnExactValueOfWrong : ChangeSpec := { name := "fnExactValueOf", fn := fun _ => fun
  | [d1, d2] => { results := [.lit (.bool false)], args := [d1, d2] }
  | _ => none }
def FnExactValueOfWrongFalsely : Prop := fnExactValueOfRow.holds Try.pinned (OpenSpec.ofChange fnExactValueOfWrong)

/-- 'laws.FnExactIsEquation': WHATEVER THE INPUT: true; the input reads as it did. -/
def fnExactIsEquationSpec : ChangeSpec := { name := "fnExactIsEquation", fn := fun _ => fun
  | [d] => { results := [.lit (.bool true)], args := [d] }
  | _ => none }
def fnExactIsEquationRow : OpenClaim := { program := "ytaldbnbceboelaa", sum := "afe26b9479d97f744cc6f6af61f5defea313dd11336ac8ed112aeb33a0c0c688", func := "loop.example/g00582/laws.FnExactIsEquation", spec := "fnExactIsEquation", inPlace := ["internal/bytealg.IndexByteString"], apart := false }
def FnExactIsEquationSaid : Prop := fnExactIsEquationRow.holds Try.pinned (OpenSpec.ofChange fnExactIsEquationSpec)

/-- ITS FALSE NEIGHBOUR: 'it returns false'. Refute it at one input. -/
def fnExactIsEquationWrong : ChangeSpec := { name := "fnExactIsEquation", fn := fun _ => fun
  | [d] => { results := [.lit (.bool false)], args := [d] }
  | _ => none }
def FnExactIsEquationWrongFalsely : Prop := fnExactIsEquationRow.holds Try.pinned (OpenSpec.ofChange fnExactIsEquationWrong)

/-- 'laws.FnExactWithValue': WHATEVER THE INPUT: true; the input reads as it did. -/
def fnExactWithValueSpec : ChangeSpec := { name := "fnExactWithValue", fn := fun _ => fun
  | [d1, d2, d3] => { results := [.lit (.bool true)], args := [d1, d2, d3] }
  | _ => none }
def fnExactWithValueRow : OpenClaim := { program := "ytaldbnbceboelaa", sum := "afe26b9479d97f744cc6f6af61f5defea313dd11336ac8ed112aeb33a0c0c688", func := "loop.example/g00582/laws.FnExactWithValue", spec := "fnExactWithValue", apart := false }
def FnExactWithValueSaid : Prop := fnExactWithValueRow.holds Try.pinned (OpenSpec.ofChange fnExactWithValueSpec)

/-- ITS FALSE NEIGHBOUR: 'it returns false'. Refute it at one input. -/
def fnExactWithValueWrong : ChangeSpec := { name := "fnExactWithValue", fn := fun _ => fun
  | [d1, d2, d3] => { results := [.lit (.bool false)], args := [d1, d2, d3] }
  | _ => none }
def FnExactWithValueWrongFalsely : Prop := fnExactWithValueRow.holds Try.pinned (OpenSpec.ofChange fnExactWithValueWrong)

/-- 'laws.FnExactIsValues': WHATEVER THE INPUT: true; the input reads as it did. -/
def fnExactIsValuesSpec : ChangeSpec := { name := "fnExactIsValues", fn := fun _ => fun
  | [d] => { results := [.lit (.bool true)], args := [d] }
  | _ => none }
def fnExactIsValuesRow : OpenClaim := { program := "ytaldbnbceboelaa", sum := "afe26b9479d97f744cc6f6af61f5defea313dd11336ac8ed112aeb33a0c0c688", func := "loop.example/g00582/laws.FnExactIsValues", spec := "fnExactIsValues", inPlace := ["internal/bytealg.IndexByteString"], apart := false }
def FnExactIsValuesSaid : Prop := fnExactIsValuesRow.holds Try.pinned (OpenSpec.ofChange fnExactIsValuesSpec)

/-- ITS FALSE NEIGHBOUR: 'it returns false'. Refute it at one input. -/
def fnExactIsValuesWrong : ChangeSpec := { name := "fnExactIsValues", fn := fun _ => fun
  | [d] => { results := [.lit (.bool false)], args := [d] }
  | _ => none }
def FnExactIsValuesWrongFalsely : Prop := fnExactIsValuesRow.holds Try.pinned (OpenSpec.ofChange fnExactIsValuesWrong)

/-- 'laws.FnExactIsSolved': WHATEVER THE INPUT: true; the input reads as it did. -/
def fnExactIsSolvedSpec : ChangeSpec := { name := "fnExactIsSolved", fn := fun _ => fun
  | [d] => { results := [.lit (.bool true)], args := [d] }
  | _ => none }
def fnExactIsSolvedRow : OpenClaim := { program := "ytaldbnbceboelaa", sum := "afe26b9479d97f744cc6f6af61f5defea313dd11336ac8ed112aeb33a0c0c688", func := "loop.example/g00582/laws.FnExactIsSolved", spec := "fnExactIsSolved", apart := false }
def FnExactIsSolvedSaid : Prop := fnExactIsSolvedRow.holds Try.pinned (OpenSpec.ofChange fnExactIsSolvedSpec)

/-- ITS FALSE NEIGHBOUR: 'it returns false'. Refute it at one input. -/
def fnExactIsSolvedWrong : ChangeSpec := { name := "fnExactIsSolved", fn := fun _ => fun
  | [d] => { results := [.lit (.bool false)], args := [d] }
  | _ => none }
def FnExactIsSolvedWrongFalsely : Prop := fnExactIsSolvedRow.holds Try.pinned (OpenSpec.ofChange fnExactIsSolvedWrong)

/-- 'laws.FnExactIsClash': WHATEVER THE INPUT: true; the input reads as it did. -/
def fnExactIsClashSpec : ChangeSpec := { name := "fnExactIsClash", fn := fun _ => fun
  | [d] => { results := [.lit (.bool true)], args := [d] }
  | _ => none }
def fnExactIsClashRow : OpenClaim := { program := "ytaldbnbceboelaa", sum := "afe26b9479d97f744cc6f6af61f5defea313dd11336ac8ed112aeb33a0c0c688", func := "loop.example/g00582/laws.FnExactIsClash", spec := "fnExactIsClash", inPlace := ["internal/bytealg.IndexByteString"], apart := false }
def FnExactIsClashSaid : Prop := fnExactIsClashRow.holds Try.pinned (OpenSpec.ofChange fnExactIsClashSpec)

/-- ITS FALSE NEIGHBOUR: 'it returns false'. Refute it at one input. -/
def fnExactIsClashWrong : ChangeSpec := { name := "fnExactIsClash", fn := fun _ => fun
  | [d] => { results := [.lit (.bool false)], args := [d] }
  | _ => none }
def FnExactIsClashWrongFalsely : Prop := fnExactIsClashRow.holds Try.pinned (OpenSpec.ofChange fnExactIsClashWrong)

/-- 'laws.FnExactApplyValues': WHATEVER THE INPUT: true; the input reads as it did. -/
def fnExactApplyValuesSpec : ChangeSpec := { name := "fnExactApplyValues", fn := fun _ => fun
  | [d1, d2] => { results := [.lit (.bool true)], args := [d1, d2] }
  | _ => none }
def fnExactApplyValuesRow : OpenClaim := { program := "ytaldbnbceboelaa", sum := "afe26b9479d97f744cc6f6af61f5defea313dd11336ac8ed112aeb33a0c0c688", func := "loop.example/g00582/laws.FnExactApplyValues", spec := "fnExactApplyValues", inPlace := ["internal/bytealg.IndexByteString"], unfollowed := true, recurses := true, apart := false }
def FnExactApplyValuesSaid : Prop := fnExactApplyValuesRow.holds Try.pinned (OpenSpec.ofChange fnExactApplyValuesSpec)

/-- ITS FALSE NEIGHBOUR: 'it returns false'. Refute it at one input. -/
def fnExactApplyValuesWrong : ChangeSpec := { name := "fnExactApplyValues", fn := fun _ => fun
  | [d1, d2] => { results := [.lit (.bool false)], args := [d1, d2] }
  | _ => none }
def FnExactApplyValuesWrongFalsely : Prop := fnExactApplyValuesRow.holds Try.pinned (OpenSpec.ofChange fnExactApplyValuesWrong)

/- THE SECOND FORM. 'bulk': how many values and letters a reading holds, each counted each time it is reached (what is shared counts as often as it is met; a slice's spare places count too). A statement '..UptoSaid' is the law's where the arguments, and the package variables that the reading takes, are together of bulk at most 1048576: NARROWER than '..Said'. Prove '..Said' where nothing that the law and all that it calls make is longer than what came in: it says more and counts as full. Else prove '..UptoSaid'. A law counts once. -/
mutual
def uptoBulk {H : Type} : DataW H → Nat
  | .lit (.string bytes) => bytes.length + 1
  | .lit _ => 1
  | .nil => 1
  | .ptr d => uptoBulk d + 1
  | .slice elems spare => uptoBulkAll elems + uptoBulkAll spare + 1
  | .agg parts => uptoBulkAll parts + 1
  | .iface _ d => uptoBulk d + 1
  | .map entries => uptoBulkEntries entries + 1
  | .held _ => 1
def uptoBulkAll {H : Type} : List (DataW H) → Nat
  | [] => 0
  | d :: r => uptoBulk d + uptoBulkAll r
def uptoBulkEntries {H : Type} : List (Lit × DataW H) → Nat
  | [] => 0
  | x :: r => uptoBulkEntry x + uptoBulkEntries r
def uptoBulkEntry {H : Type} : Lit × DataW H → Nat
  | (.string bytes, d) => bytes.length + uptoBulk d + 1
  | (_, d) => uptoBulk d + 1
 end
def uptoSmall : (H : Type) → List (DataW H) → Bool := fun _ ds => decide (uptoBulkAll ds ≤ 1048576)
def OpenSpec.upto (s : _root_.Go.ChangeSpec) : _root_.Go.OpenSpec := { _root_.Go.OpenSpec.ofChange s with cond := some uptoSmall }

/-- 'laws.FnExactTotalLength', WHERE WHAT IT READS IS OF BULK AT MOST 1048576: true; the input reads as it did. -/
def fnExactTotalLengthUptoRow : OpenClaim := { program := "ytaldbnbceboelaa", sum := "afe26b9479d97f744cc6f6af61f5defea313dd11336ac8ed112aeb33a0c0c688", func := "loop.example/g00582/laws.FnExactTotalLength", spec := "fnExactTotalLength", apart := false, narrowed := true }
def FnExactTotalLengthUptoSaid : Prop := fnExactTotalLengthUptoRow.holds Try.pinned (OpenSpec.upto fnExactTotalLengthSpec)

/-- 'laws.FnExactReplaceVar', WHERE WHAT IT READS IS OF BULK AT MOST 1048576: true; the input reads as it did. -/
def fnExactReplaceVarUptoRow : OpenClaim := { program := "ytaldbnbceboelaa", sum := "afe26b9479d97f744cc6f6af61f5defea313dd11336ac8ed112aeb33a0c0c688", func := "loop.example/g00582/laws.FnExactReplaceVar", spec := "fnExactReplaceVar", unfollowed := true, recurses := true, apart := false, narrowed := true }
def FnExactReplaceVarUptoSaid : Prop := fnExactReplaceVarUptoRow.holds Try.pinned (OpenSpec.upto fnExactReplaceVarSpec)

/-- 'laws.FnExactVarsOf', WHERE WHAT IT READS IS OF BULK AT MOST 1048576: true; the input reads as it did. -/
def fnExactVarsOfUptoRow : OpenClaim := { program := "ytaldbnbceboelaa", sum := "afe26b9479d97f744cc6f6af61f5defea313dd11336ac8ed112aeb33a0c0c688", func := "loop.example/g00582/laws.FnExactVarsOf", spec := "fnExactVarsOf", inPlace := ["internal/bytealg.IndexByteString"], apart := false, narrowed := true }
def FnExactVarsOfUptoSaid : Prop := fnExactVarsOfUptoRow.holds Try.pinned (OpenSpec.upto fnExactVarsOfSpec)

/-- 'laws.FnExactIsTerm', WHERE WHAT IT READS IS OF BULK AT MOST 1048576: true; the input reads as it did. -/
def fnExactIsTermUptoRow : OpenClaim := { program := "ytaldbnbceboelaa", sum := "afe26b9479d97f744cc6f6af61f5defea313dd11336ac8ed112aeb33a0c0c688", func := "loop.example/g00582/laws.FnExactIsTerm", spec := "fnExactIsTerm", inPlace := ["internal/bytealg.IndexByteString"], apart := false, narrowed := true }
def FnExactIsTermUptoSaid : Prop := fnExactIsTermUptoRow.holds Try.pinned (OpenSpec.upto fnExactIsTermSpec)

/-- 'laws.FnExactStripEquation', WHERE WHAT IT READS IS OF BULK AT MOST 1048576: true; the input reads as it did. -/
def fnExactStripEquationUptoRow : OpenClaim := { program := "ytaldbnbceboelaa", sum := "afe26b9479d97f744cc6f6af61f5defea313dd11336ac8ed112aeb33a0c0c688", func := "loop.example/g00582/laws.FnExactStripEquation", spec := "fnExactStripEquation", apart := false, narrowed := true }
def FnExactStripEquationUptoSaid : Prop := fnExactStripEquationUptoRow.holds Try.pinned (OpenSpec.upto fnExactStripEquationSpec)

/-- 'laws.FnExactValueOf', WHERE WHAT IT READS IS OF BULK AT MOST 1048576: true; the input reads as it did. -/
def fnExactValueOfUptoRow : OpenClaim := { program := "ytaldbnbceboelaa", sum := "afe26b9479d97f744cc6f6af61f5defea313dd11336ac8ed112aeb33a0c0c688", func := "loop.example/g00582/laws.FnExactValueOf", spec := "fnExactValueOf", apart := false, narrowed := true }
def FnExactValueOfUptoSaid : Prop := fnExactValueOfUptoRow.holds Try.pinned (OpenSpec.upto fnExactValueOfSpec)

/-- 'laws.FnExactIsEquation', WHERE WHAT IT READS IS OF BULK AT MOST 1048576: true; the input reads as it did. -/
def fnExactIsEquationUptoRow : OpenClaim := { program := "ytaldbnbceboelaa", sum := "afe26b9479d97f744cc6f6af61f5defea313dd11336ac8ed112aeb33a0c0c688", func := "loop.example/g00582/laws.FnExactIsEquation", spec := "fnExactIsEquation", inPlace := ["internal/bytealg.IndexByteString"], apart := false, narrowed := true }
def FnExactIsEquationUptoSaid : Prop := fnExactIsEquationUptoRow.holds Try.pinned (OpenSpec.upto fnExactIsEquationSpec)

/-- 'laws.FnExactWithValue', WHERE WHAT IT READS IS OF BULK AT MOST 1048576: true; the input reads as it did. -/
def fnExactWithValueUptoRow : OpenClaim := { program := "ytaldbnbceboelaa", sum := "afe26b9479d97f744cc6f6af61f5defea313dd11336ac8ed112aeb33a0c0c688", func := "loop.example/g00582/laws.FnExactWithValue", spec := "fnExactWithValue", apart := false, narrowed := true }
def FnExactWithValueUptoSaid : Prop := fnExactWithValueUptoRow.holds Try.pinned (OpenSpec.upto fnExactWithValueSpec)

/-- 'laws.FnExactIsValues', WHERE WHAT IT READS IS OF BULK AT MOST 1048576: true; the input reads as it did. -/
def fnExactIsValuesUptoRow : OpenClaim := { program := "ytaldbnbceboelaa", sum := "afe26b9479d97f744cc6f6af61f5defea313dd11336ac8ed112aeb33a0c0c688", func := "loop.example/g00582/laws.FnExactIsValues", spec := "fnExactIsValues", inPlace := ["internal/bytealg.IndexByteString"], apart := false, narrowed := true }
def FnExactIsValuesUptoSaid : Prop := fnExactIsValuesUptoRow.holds Try.pinned (OpenSpec.upto fnExactIsValuesSpec)

/-- 'laws.FnExactIsSolved', WHERE WHAT IT READS IS OF BULK AT MOST 1048576: true; the input reads as it did. -/
def fnExactIsSolvedUptoRow : OpenClaim := { program := "ytaldbnbceboelaa", sum := "afe26b9479d97f744cc6f6af61f5defea313dd11336ac8ed112aeb33a0c0c688", func := "loop.example/g00582/laws.FnExactIsSolved", spec := "fnExactIsSolved", apart := false, narrowed := true }
def FnExactIsSolvedUptoSaid : Prop := fnExactIsSolvedUptoRow.holds Try.pinned (OpenSpec.upto fnExactIsSolvedSpec)

/-- 'laws.FnExactIsClash', WHERE WHAT IT READS IS OF BULK AT MOST 1048576: true; the input reads as it did. -/
def fnExactIsClashUptoRow : OpenClaim := { program := "ytaldbnbceboelaa", sum := "afe26b9479d97f744cc6f6af61f5defea313dd11336ac8ed112aeb33a0c0c688", func := "loop.example/g00582/laws.FnExactIsClash", spec := "fnExactIsClash", inPlace := ["internal/bytealg.IndexByteString"], apart := false, narrowed := true }
def FnExactIsClashUptoSaid : Prop := fnExactIsClashUptoRow.holds Try.pinned (OpenSpec.upto fnExactIsClashSpec)

/-- 'laws.FnExactApplyValues', WHERE WHAT IT READS IS OF BULK AT MOST 1048576: true; the input reads as it did. -/
def fnExactApplyValuesUptoRow : OpenClaim := { program := "ytaldbnbceboelaa", sum := "afe26b9479d97f744cc6f6af61f5defea313dd11336ac8ed112aeb33a0c0c688", func := "loop.example/g00582/laws.FnExactApplyValues", spec := "fnExactApplyValues", inPlace := ["internal/bytealg.IndexByteString"], unfollowed := true, recurses := true, apart := false, narrowed := true }
def FnExactApplyValuesUptoSaid : Prop := fnExactApplyValuesUptoRow.holds Try.pinned (OpenSpec.upto fnExactApplyValuesSpec)

end Rows
end Go.Proofs.Ytaldbnbceboelaa
