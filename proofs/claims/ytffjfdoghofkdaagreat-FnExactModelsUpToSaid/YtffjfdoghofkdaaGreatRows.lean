/-
  NARROWER THAN 'FOR EVERY INPUT', by the rows' own cells (each row's printed sentence says how): FnExactFirstModel: loops · FnExactLeastModel: loops · FnExactModelsUpTo: loops.
  DERIVED. THE GIVEN ROWS OF THIS SEAT. 4 by the template 'for every input the law returns true; each argument reads behind the call as it read before'; 0 by the template 'total and deterministic' (their statements: YtffjfdoghofkdaaGreatTotals.lean).
  GIVEN WITH THE SEED: the statements are not yours to turn. If you find one false, say at which input.
  Laid BY PROGRAM, IN A SANDBOX (cutbox-rows.mjs): the forced cells as the released guide's own fill.sh prints them over the translation 76167387ce6c9e66… (all of the seat's roots in one cut). By AI agents, Wed Nov 11 2026. No macro, syntax, notation, axiom, sorry.
-/
import Derived.Test.YtffjfdoghofkdaaGreatChecked
import GoSem.Claim
import GoSem.ClaimJoined
import GoSem.ClaimMapViews
import Derived.JoinedTies
import Derived.KernelRfl
namespace Go.Proofs.YtffjfdoghofkdaaGreat
/- THE CELL 'sum', in the pinned program and in every row, IS THE sha256 OF THE DUMP (.gsa) THAT YtffjfdoghofkdaaGreatProg.lean LOADS. Nothing in Lean hashes anything: it is a label: what it is worth is what the hold of that sum in a sandbox is worth. -/
noncomputable def Tryz.pinned : Pinned := { name := "ytffjfdoghofkdaagreat", sum := "76167387ce6c9e662f79d988adb88bf86a9d22ed4ec8dc4b42279256bf420321", checked := Tryz.checked }
namespace Rows
def none {H : Type} : Left H := { results := [], args := [] }

/-- 'laws.FnModels': WHATEVER THE INPUT: true; the input reads as it did. -/
def fnModelsSpec : ChangeSpec := { name := "fnModels", fn := fun _ => fun
  | [d] => { results := [.lit (.bool true)], args := [d] }
  | _ => none }
def fnModelsRow : OpenClaim := { program := "ytffjfdoghofkdaagreat", sum := "76167387ce6c9e662f79d988adb88bf86a9d22ed4ec8dc4b42279256bf420321", func := "loop.example/g00582/laws.FnModels", spec := "fnModels", inPlace := ["internal/bytealg.IndexByteString"], unfollowed := true, recurses := true, apart := false }
def FnModelsSaid : Prop := fnModelsRow.holds Tryz.pinned (OpenSpec.ofChange fnModelsSpec)

/-- ITS FALSE NEIGHBOUR: 'it returns false'. Refute it at one input. -/
def fnModelsWrong : ChangeSpec := { name := "fnModels", fn := fun _ => fun
  | [d] => { results := [.lit (.bool false)], args := [d] }
  | _ => none }
def FnModelsWrongFalsely : Prop := fnModelsRow.holds Tryz.pinned (OpenSpec.ofChange fnModelsWrong)

/-- 'laws.FnExactFirstModel': WHATEVER THE INPUT: true; the input reads as it did. -/
def fnExactFirstModelSpec : ChangeSpec := { name := "fnExactFirstModel", fn := fun _ => fun
  | [d1, d2] => { results := [.lit (.bool true)], args := [d1, d2] }
  | _ => none }
def fnExactFirstModelRow : OpenClaim := { program := "ytffjfdoghofkdaagreat", sum := "76167387ce6c9e662f79d988adb88bf86a9d22ed4ec8dc4b42279256bf420321", func := "loop.example/g00582/laws.FnExactFirstModel", spec := "fnExactFirstModel", inPlace := ["internal/bytealg.IndexByteString"], unfollowed := true, recurses := true, loops := true, apart := false }
def FnExactFirstModelSaid : Prop := fnExactFirstModelRow.holds Tryz.pinned (OpenSpec.ofChange fnExactFirstModelSpec)

/-- ITS FALSE NEIGHBOUR: 'it returns false'. Refute it at one input. -/
def fnExactFirstModelWrong : ChangeSpec := { name := "fnExactFirstModel", fn := fun _ => fun
  | [d1, d2] => { results := [.lit (.bool false)], args := [d1, d2] }
  | _ => none }
def FnExactFirstModelWrongFalsely : Prop := fnExactFirstModelRow.holds Tryz.pinned (OpenSpec.ofChange fnExactFirstModelWrong)

/-- 'laws.FnExactLeastModel': WHATEVER THE INPUT: true; the input reads as it did. -/
def fnExactLeastModelSpec : ChangeSpec := { name := "fnExactLeastModel", fn := fun _ => fun
  | [d1, d2] => { results := [.lit (.bool true)], args := [d1, d2] }
  | _ => none }
def fnExactLeastModelRow : OpenClaim := { program := "ytffjfdoghofkdaagreat", sum := "76167387ce6c9e662f79d988adb88bf86a9d22ed4ec8dc4b42279256bf420321", func := "loop.example/g00582/laws.FnExactLeastModel", spec := "fnExactLeastModel", inPlace := ["internal/bytealg.IndexByteString"], unfollowed := true, recurses := true, loops := true, apart := false }
def FnExactLeastModelSaid : Prop := fnExactLeastModelRow.holds Tryz.pinned (OpenSpec.ofChange fnExactLeastModelSpec)

/-- ITS FALSE NEIGHBOUR: 'it returns false'. Refute it at one input. -/
def fnExactLeastModelWrong : ChangeSpec := { name := "fnExactLeastModel", fn := fun _ => fun
  | [d1, d2] => { results := [.lit (.bool false)], args := [d1, d2] }
  | _ => none }
def FnExactLeastModelWrongFalsely : Prop := fnExactLeastModelRow.holds Tryz.pinned (OpenSpec.ofChange fnExactLeastModelWrong)

/-- 'laws.FnExactModelsUpTo': WHATEVER THE INPUT: true; the input reads as it did. -/
def fnExactModelsUpToSpec : ChangeSpec := { name := "fnExactModelsUpTo", fn := fun _ => fun
  | [d1, d2] => { results := [.lit (.bool true)], args := [d1, d2] }
  | _ => none }
def fnExactModelsUpToRow : OpenClaim := { program := "ytffjfdoghofkdaagreat", sum := "76167387ce6c9e662f79d988adb88bf86a9d22ed4ec8dc4b42279256bf420321", func := "loop.example/g00582/laws.FnExactModelsUpTo", spec := "fnExactModelsUpTo", inPlace := ["internal/bytealg.IndexByteString"], unfollowed := true, recurses := true, loops := true, apart := false }
def FnExactModelsUpToSaid : Prop := fnExactModelsUpToRow.holds Tryz.pinned (OpenSpec.ofChange fnExactModelsUpToSpec)

/-- ITS FALSE NEIGHBOUR: 'it returns false'. Refute it at one input. -/
def fnExactModelsUpToWrong : ChangeSpec := { name := "fnExactModelsUpTo", fn := fun _ => fun
  | [d1, d2] => { results := [.lit (.bool false)], args := [d1, d2] }
  | _ => none }
def FnExactModelsUpToWrongFalsely : Prop := fnExactModelsUpToRow.holds Tryz.pinned (OpenSpec.ofChange fnExactModelsUpToWrong)

/- THE SECOND FORM. 'bulk': how many values and letters a reading holds, each counted each time it is reached (what is shared counts as often as it is met; a slice's spare places count too). A statement '..UptoSaid' is the law's where the arguments, and the package variables that the reading takes, are together of bulk at most 1048576: NARROWER than '..Said'. Prove '..Said' where nothing that the law and all that it calls make is longer than what came in: it says more and counts as full. Else prove '..UptoSaid'. A law counts once. -/
mutual
def uptoBulk {H : Type} : DataW H → Nat
  | .lit (.string bytes) => bytes.length + 1
  | .lit _ => 1
  | .nil => 1
  | .ptr d => uptoBulk d + 1
  | .slice elems spare => uptoBulkAll elems + uptoBulkAll spare + 1
  | .agg parts => uptoBulkAll parts + 1
  | .iface _ d => uptoBulk d + 1
  | .map entries => uptoBulkEntries entries + 1
  | .held _ => 1
def uptoBulkAll {H : Type} : List (DataW H) → Nat
  | [] => 0
  | d :: r => uptoBulk d + uptoBulkAll r
def uptoBulkEntries {H : Type} : List (Lit × DataW H) → Nat
  | [] => 0
  | x :: r => uptoBulkEntry x + uptoBulkEntries r
def uptoBulkEntry {H : Type} : Lit × DataW H → Nat
  | (.string bytes, d) => bytes.length + uptoBulk d + 1
  | (_, d) => uptoBulk d + 1
 end
def uptoSmall : (H : Type) → List (DataW H) → Bool := fun _ ds => decide (uptoBulkAll ds ≤ 1048576)
def OpenSpec.upto (s : _root_.Go.ChangeSpec) : _root_.Go.OpenSpec := { _root_.Go.OpenSpec.ofChange s with cond := some uptoSmall }

/-- 'laws.FnModels', WHERE WHAT IT READS IS OF BULK AT MOST 1048576: true; the input reads as it did. -/
def fnModelsUptoRow : OpenClaim := { program := "ytffjfdoghofkdaagreat", sum := "76167387ce6c9e662f79d988adb88bf86a9d22ed4ec8dc4b42279256bf420321", func := "loop.example/g00582/laws.FnModels", spec := "fnModels", inPlace := ["internal/bytealg.IndexByteString"], unfollowed := true, recurses := true, apart := false, narrowed := true }
def FnModelsUptoSaid : Prop := fnModelsUptoRow.holds Tryz.pinned (OpenSpec.upto fnModelsSpec)

/-- 'laws.FnExactFirstModel', WHERE WHAT IT READS IS OF BULK AT MOST 1048576: true; the input reads as it did. -/
def fnExactFirstModelUptoRow : OpenClaim := { program := "ytffjfdoghofkdaagreat", sum := "76167387ce6c9e662f79d988adb88bf86a9d22ed4ec8dc4b42279256bf420321", func := "loop.example/g00582/laws.FnExactFirstModel", spec := "fnExactFirstModel", inPlace := ["internal/bytealg.IndexByteString"], unfollowed := true, recurses := true, loops := true, apart := false, narrowed := true }
def FnExactFirstModelUptoSaid : Prop := fnExactFirstModelUptoRow.holds Tryz.pinned (OpenSpec.upto fnExactFirstModelSpec)

/-- 'laws.FnExactLeastModel', WHERE WHAT IT READS IS OF BULK AT MOST 1048576: true; the input reads as it did. -/
def fnExactLeastModelUptoRow : OpenClaim := { program := "ytffjfdoghofkdaagreat", sum := "76167387ce6c9e662f79d988adb88bf86a9d22ed4ec8dc4b42279256bf420321", func := "loop.example/g00582/laws.FnExactLeastModel", spec := "fnExactLeastModel", inPlace := ["internal/bytealg.IndexByteString"], unfollowed := true, recurses := true, loops := true, apart := false, narrowed := true }
def FnExactLeastModelUptoSaid : Prop := fnExactLeastModelUptoRow.holds Tryz.pinned (OpenSpec.upto fnExactLeastModelSpec)

/-- 'laws.FnExactModelsUpTo', WHERE WHAT IT READS IS OF BULK AT MOST 1048576: true; the input reads as it did. -/
def fnExactModelsUpToUptoRow : OpenClaim := { program := "ytffjfdoghofkdaagreat", sum := "76167387ce6c9e662f79d988adb88bf86a9d22ed4ec8dc4b42279256bf420321", func := "loop.example/g00582/laws.FnExactModelsUpTo", spec := "fnExactModelsUpTo", inPlace := ["internal/bytealg.IndexByteString"], unfollowed := true, recurses := true, loops := true, apart := false, narrowed := true }
def FnExactModelsUpToUptoSaid : Prop := fnExactModelsUpToUptoRow.holds Tryz.pinned (OpenSpec.upto fnExactModelsUpToSpec)

end Rows
end Go.Proofs.YtffjfdoghofkdaaGreat
