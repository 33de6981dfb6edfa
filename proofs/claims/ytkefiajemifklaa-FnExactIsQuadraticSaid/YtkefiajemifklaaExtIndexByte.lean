/- strings.IndexByte comes to the index of the first such byte, or -1, at every string and every number; the world stays. No condition. Own work of this session (wip/tpl/ExtIndexByte.lean). -/
import Derived.Test.YtkefiajemifklaaProg
import Derived.Test.YtkefiajemifklaaWMore
import Derived.Lib.Bytealg
import Derived.Lib.Walk
namespace Go.Proofs.Ytkefiajemifklaa.Ext
set_option linter.unusedVariables false
set_option linter.unusedSimpArgs false
open Go.RowKit Go.Proofs.YtkefiajemifklaaW.PrintWords

-- EXT strings.IndexByte
def strings_IndexByte.f (s : ByteArray) (c : Int) : Option Int := some (Lib.indexByte s.data.toList c.toNat.toUInt8)

set_option maxRecDepth 100000 in
theorem stringslite_run (s : ByteArray) (c : Int) (w : World) :
    Calls Try.prog 156 #[.string s, .int .u8 c] w fun e w' => e = .returned (.int .i64 (Lib.indexByte s.data.toList c.toNat.toUInt8)) ∧ w' = w := by
  go_enter Try.func156, Try.ntmps156
  go_wp2
  rw [run_callFunc_extern Try.func163 (by kernel_rfl) (by kernel_rfl) (by kernel_rfl) (e := Extern.BytealgIndexByte.indexByte) (by kernel_rfl), Lib.run_indexByteString]
  simp only [Result.andThen]
  rw [Oper.upon_value]
  go_wp2
  go_ret
  exact ⟨rfl, rfl⟩
set_option maxRecDepth 100000 in
theorem strings_IndexByte.calls (s : ByteArray) (c : Int) (r : Int) (w : World) (h : strings_IndexByte.f s c = some r) :
    Calls Try.prog 127 #[.string s, .int .u8 c] w fun e w' => e = .returned (.int .i64 r) ∧ Drawn0 w w' := by
  obtain rfl := Option.some.inj h
  go_enter Try.func127, Try.ntmps127
  go_wp2_with (go_at_call 156; refine (stringslite_run _ _ _).mono ?_; rintro e w' ⟨rfl, rfl⟩)
  go_ret
  exact ⟨rfl, Drawn0.refl _⟩
end Go.Proofs.Ytkefiajemifklaa.Ext
