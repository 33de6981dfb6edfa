/-
  No cell of these rows narrows 'for every input' (looked for: loops, veiled, ifaces, maps, wideKeys, modest, calm, conditions, laid).
  DERIVED. THE GIVEN ROWS OF THIS SEAT. 3 by the template 'for every input the law returns true; each argument reads behind the call as it read before'; 0 by the template 'total and deterministic' (their statements: YtgllnohlocfeoaaTotals.lean).
  GIVEN WITH THE SEED: the statements are not yours to turn. If you find one false, say at which input.
  Laid BY PROGRAM, IN A SANDBOX (cutbox-rows.mjs): the forced cells as the released guide's own fill.sh prints them over the translation 1b181387e7543d9d… (all of the seat's roots in one cut). By AI agents, Wed Nov 11 2026. No macro, syntax, notation, axiom, sorry.
-/
import Derived.Test.YtgllnohlocfeoaaChecked
import GoSem.Claim
import GoSem.ClaimJoined
import GoSem.ClaimMapViews
import Derived.JoinedTies
import Derived.KernelRfl
namespace Go.Proofs.Ytgllnohlocfeoaa
/- THE CELL 'sum', in the pinned program and in every row, IS THE sha256 OF THE DUMP (.gsa) THAT YtgllnohlocfeoaaProg.lean LOADS. Nothing in Lean hashes anything: it is a label: what it is worth is what the hold of that sum in a sandbox is worth. -/
noncomputable def Try.pinned : Pinned := { name := "ytgllnohlocfeoaa", sum := "1b181387e7543d9d671791de33412018c788e0f0ea059c9a0b83b16555ca66c1", checked := Try.checked }
namespace Rows
def none {H : Type} : Left H := { results := [], args := [] }

/-- 'laws.FnExactFormatValues': WHATEVER THE INPUT: true; the input reads as it did. -/
def fnExactFormatValuesSpec : ChangeSpec := { name := "fnExactFormatValues", fn := fun _ => fun
  | [d1, d2] => { results := [.lit (.bool true)], args := [d1, d2] }
  | _ => none }
def fnExactFormatValuesRow : OpenClaim := { program := "ytgllnohlocfeoaa", sum := "1b181387e7543d9d671791de33412018c788e0f0ea059c9a0b83b16555ca66c1", func := "loop.example/g00582/laws.FnExactFormatValues", spec := "fnExactFormatValues", inPlace := ["internal/bytealg.IndexByteString", "internal/abi.NoEscape", "internal/bytealg.MakeNoZero"], apart := false }
def FnExactFormatValuesSaid : Prop := fnExactFormatValuesRow.holds Try.pinned (OpenSpec.ofChange fnExactFormatValuesSpec)

/-- ITS FALSE NEIGHBOUR: 'it returns false'. Refute it at one input. -/
def fnExactFormatValuesWrong : ChangeSpec := { name := "fnExactFormatValues", fn := fun _ => fun
  | [d1, d2] => { results := [.lit (.bool false)], args := [d1, d2] }
  | _ => none }
def FnExactFormatValuesWrongFalsely : Prop := fnExactFormatValuesRow.holds Try.pinned (OpenSpec.ofChange fnExactFormatValuesWrong)

/-- 'laws.FnExactMovesOf': WHATEVER THE INPUT: true; the input reads as it did. -/
def fnExactMovesOfSpec : ChangeSpec := { name := "fnExactMovesOf", fn := fun _ => fun
  | [d] => { results := [.lit (.bool true)], args := [d] }
  | _ => none }
def fnExactMovesOfRow : OpenClaim := { program := "ytgllnohlocfeoaa", sum := "1b181387e7543d9d671791de33412018c788e0f0ea059c9a0b83b16555ca66c1", func := "loop.example/g00582/laws.FnExactMovesOf", spec := "fnExactMovesOf", inPlace := ["internal/bytealg.IndexByteString"], apart := false }
def FnExactMovesOfSaid : Prop := fnExactMovesOfRow.holds Try.pinned (OpenSpec.ofChange fnExactMovesOfSpec)

/-- ITS FALSE NEIGHBOUR: 'it returns false'. Refute it at one input. -/
def fnExactMovesOfWrong : ChangeSpec := { name := "fnExactMovesOf", fn := fun _ => fun
  | [d] => { results := [.lit (.bool false)], args := [d] }
  | _ => none }
def FnExactMovesOfWrongFalsely : Prop := fnExactMovesOfRow.holds Try.pinned (OpenSpec.ofChange fnExactMovesOfWrong)

/-- 'laws.FnExactWordOfMap': WHATEVER THE INPUT: true; the input reads as it did. -/
def fnExactWordOfMapSpec : ChangeSpec := { name := "fnExactWordOfMap", fn := fun _ => fun
  | [d1, d2] => { results := [.lit (.bool true)], args := [d1, d2] }
  | _ => none }
def fnExactWordOfMapRow : OpenClaim := { program := "ytgllnohlocfeoaa", sum := "1b181387e7543d9d671791de33412018c788e0f0ea059c9a0b83b16555ca66c1", func := "loop.example/g00582/laws.FnExactWordOfMap", spec := "fnExactWordOfMap", unfollowed := true, recurses := true, apart := false }
def FnExactWordOfMapSaid : Prop := fnExactWordOfMapRow.holds Try.pinned (OpenSpec.ofChange fnExactWordOfMapSpec)

/-- ITS FALSE NEIGHBOUR: 'it returns false'. Refute it at one input. -/
def fnExactWordOfMapWrong : ChangeSpec := { name := "fnExactWordOfMap", fn := fun _ => fun
  | [d1, d2] => { results := [.lit (.bool false)], args := [d1, d2] }
  | _ => none }
def FnExactWordOfMapWrongFalsely : Prop := fnExactWordOfMapRow.holds Try.pinned (OpenSpec.ofChange fnExactWordOfMapWrong)

/- THE SECOND FORM. 'bulk': how many values and letters a reading holds, each counted each time it is reached (what is shared counts as often as it is met; a slice's spare places count too). A statement '..UptoSaid' is the law's where the arguments, and the package variables that the reading takes, are together of bulk at most 1048576: NARROWER than '..Said'. Prove '..Said' where nothing that the law and all that it calls make is longer than what came in: it says more and counts as full. Else prove '..UptoSaid'. A law counts once. -/
mutual
def uptoBulk {H : Type} : DataW H → Nat
  | .lit (.string bytes) => bytes.length + 1
  | .lit _ => 1
  | .nil => 1
  | .ptr d => uptoBulk d + 1
  | .slice elems spare => uptoBulkAll elems + uptoBulkAll spare + 1
  | .agg parts => uptoBulkAll parts + 1
  | .iface _ d => uptoBulk d + 1
  | .map entries => uptoBulkEntries entries + 1
  | .held _ => 1
def uptoBulkAll {H : Type} : List (DataW H) → Nat
  | [] => 0
  | d :: r => uptoBulk d + uptoBulkAll r
def uptoBulkEntries {H : Type} : List (Lit × DataW H) → Nat
  | [] => 0
  | x :: r => uptoBulkEntry x + uptoBulkEntries r
def uptoBulkEntry {H : Type} : Lit × DataW H → Nat
  | (.string bytes, d) => bytes.length + uptoBulk d + 1
  | (_, d) => uptoBulk d + 1
 end
def uptoSmall : (H : Type) → List (DataW H) → Bool := fun _ ds => decide (uptoBulkAll ds ≤ 1048576)
def OpenSpec.upto (s : _root_.Go.ChangeSpec) : _root_.Go.OpenSpec := { _root_.Go.OpenSpec.ofChange s with cond := some uptoSmall }

/-- 'laws.FnExactFormatValues', WHERE WHAT IT READS IS OF BULK AT MOST 1048576: true; the input reads as it did. -/
def fnExactFormatValuesUptoRow : OpenClaim := { program := "ytgllnohlocfeoaa", sum := "1b181387e7543d9d671791de33412018c788e0f0ea059c9a0b83b16555ca66c1", func := "loop.example/g00582/laws.FnExactFormatValues", spec := "fnExactFormatValues", inPlace := ["internal/bytealg.IndexByteString", "internal/abi.NoEscape", "internal/bytealg.MakeNoZero"], apart := false, narrowed := true }
def FnExactFormatValuesUptoSaid : Prop := fnExactFormatValuesUptoRow.holds Try.pinned (OpenSpec.upto fnExactFormatValuesSpec)

/-- 'laws.FnExactMovesOf', WHERE WHAT IT READS IS OF BULK AT MOST 1048576: true; the input reads as it did. -/
def fnExactMovesOfUptoRow : OpenClaim := { program := "ytgllnohlocfeoaa", sum := "1b181387e7543d9d671791de33412018c788e0f0ea059c9a0b83b16555ca66c1", func := "loop.example/g00582/laws.FnExactMovesOf", spec := "fnExactMovesOf", inPlace := ["internal/bytealg.IndexByteString"], apart := false, narrowed := true }
def FnExactMovesOfUptoSaid : Prop := fnExactMovesOfUptoRow.holds Try.pinned (OpenSpec.upto fnExactMovesOfSpec)

/-- 'laws.FnExactWordOfMap', WHERE WHAT IT READS IS OF BULK AT MOST 1048576: true; the input reads as it did. -/
def fnExactWordOfMapUptoRow : OpenClaim := { program := "ytgllnohlocfeoaa", sum := "1b181387e7543d9d671791de33412018c788e0f0ea059c9a0b83b16555ca66c1", func := "loop.example/g00582/laws.FnExactWordOfMap", spec := "fnExactWordOfMap", unfollowed := true, recurses := true, apart := false, narrowed := true }
def FnExactWordOfMapUptoSaid : Prop := fnExactWordOfMapUptoRow.holds Try.pinned (OpenSpec.upto fnExactWordOfMapSpec)

end Rows
end Go.Proofs.Ytgllnohlocfeoaa
