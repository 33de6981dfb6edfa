/- impl.replaced, at whatever closure over bytes, and with it impl.ReplaceVar and impl.ApplyValues: the bytes put together, the empty string once there are more than 2^20 of them. Conditions: each string at most 2^20 bytes. Own work of this session (wip/tpl/ExtReplaced.lean). -/
import Derived.Test.YtkefiajemifklaaProg
import Derived.Test.YtkefiajemifklaaWMore
import Derived.Shelf.Abstract
import Derived.Deep.LoopGhost
import Derived.Deep.QuietTactic
import Derived.BigQuiet
import Derived.Below
import Derived.Test.YtkefiajemifklaaAx0

-- STAGE 2
namespace Go.Proofs.Ytkefiajemifklaa.Ext
set_option linter.unusedVariables false
set_option linter.unusedSimpArgs false
open Go.RowKit Go.Proofs.YtkefiajemifklaaW.PrintWords Go.Proofs.YtkefiajemifklaaW.PrintLast Go.Proofs.Ytkefiajemifklaa.A

/-- What is put together behind acc: [] once it is too long. -/
def repl (G : Int → ByteArray × Bool) : List Int → List Int → List Int
  | [], acc => acc
  | c :: cs, acc =>
    if (acc ++ (if (G c).2 = true then bytesOf (G c).1 else [c])).length > 1048576 then [] else repl G cs (acc ++ (if (G c).2 = true then bytesOf (G c).1 else [c]))
def replB (G : Int → ByteArray × Bool) (s : ByteArray) : ByteArray := strOfNums (repl G (bytesOf s) [])
theorem infou8 : (Try.prog.info? 5).map (fun i => (i.zero, i.size, i.bytes)) = some (some (.int .u8 0), 1, 1) := by kernel_rfl
theorem repl_at (G : Int → ByteArray × Bool) (s : ByteArray) (x : Int) (acc : List Int) (h0 : 0 ≤ x) (h1 : x < s.size) :
    repl G ((bytesOf s).drop x.toNat) acc = if (acc ++ (if (G (bt s x)).2 = true then bytesOf (G (bt s x)).1 else [bt s x])).length > 1048576 then [] else repl G ((bytesOf s).drop (x.toNat + 1)) (acc ++ (if (G (bt s x)).2 = true then bytesOf (G (bt s x)).1 else [bt s x])) := by
  have hl : x.toNat < (bytesOf s).length := by rw [bytesOf_length]; omega
  have e : (bytesOf s)[x.toNat] = bt s x := by
    rw [← rd_bytesOf]
    simp [rd, hl]
  rw [List.drop_eq_getElem_cons hl, e]
  rfl

theorem replB_of {G : Int → ByteArray × Bool} {s : ByteArray} {a : List Int} (h : a = repl G (bytesOf s) []) (h' : a = []) : replB G s = ⟨#[]⟩ := by
  unfold replB
  rw [← h, h']
  rfl
set_option maxHeartbeats 4000000 in
set_option maxRecDepth 100000 in
theorem replaced_any (G : Int → ByteArray × Bool) (g : Nat) (lb : Array Value) (eg : ∀ args w, (callFunc g args).run Try.prog w = .ok (.enter g args) w) (s : ByteArray) (w : World)
    (hs : s.size ≤ 9223372036854775807) (hB : ∀ c, (G c).1.size ≤ 1048576)
    (hG : ∀ (W : World) (c : Int), Below w.heap.size w W → 0 ≤ c → c ≤ 255 → Calls Try.prog g (#[.int .u8 c] ++ lb) W fun e W' => e = .returned (.tuple #[.string (G c).1, .bool (G c).2]) ∧ Below W.heap.size W W') :
    Calls Try.prog 150 #[.string s, .func (.func g) #[] lb] w fun e w' => e = .returned (.string (replB G s)) ∧ Below w.heap.size w w' := by
  have HS := Aside0.mk hs
  have HBd := Aside0.mk hB
  have HG := Aside0.mk hG
  clear hB hG
  go_enter Try.func150, Try.ntmps150
  go_wp2
  first
    | go_loopg [5, 6] s.size (fun gk v5 v6 wr => ∃ (x : Int) (acc : List Int), v6 = .int .i64 x ∧ Aside0 (0 ≤ x) ∧ Aside0 (x ≤ s.size) ∧ Aside0 ((s.size : Int) - x ≤ gk) ∧ Aside0 (repl G ((bytesOf s).drop x.toNat) acc = repl G (bytesOf s) []) ∧ Aside0 (acc.length ≤ 1048576) ∧ Aside0 (wr.ownsRow w.heap.size 5 1 v5 acc.length (nums .u8 acc)) ∧ Aside0 (Below w.heap.size w wr))
  case atStart => exact ⟨0, [], rfl, ⟨by omega⟩, ⟨by omega⟩, ⟨by omega⟩, ⟨rfl⟩, ⟨by simp⟩, ⟨by simpa [nums] using own_lit w w.heap.size 5 .u8 [] (Nat.le_refl _) (by simp)⟩, ⟨below_alloc (Below.refl _ _) _⟩⟩
  case round =>
    obtain ⟨x, acc, rfl, H0, H1, HK, HR, HL, HO, HB⟩ := hrel
    by_cases hlt : x < (s.size : Int)
    · have hcall := HG.out wr (bt s x) HB.out (bt_range _ _).1 (bt_range _ _).2
      have hR := repl_at G s x acc H0.out hlt
      have hsz := HBd.out (bt s x)
      generalize G (bt s x) = q at hcall hR hsz
      obtain ⟨t, b⟩ := q
      simp only at hcall hR hsz
      have HR2 := Aside0.mk hR
      have HZ := Aside0.mk hsz
      clear hR hsz HG HBd
      have HC := Aside0.mk hcall
      clear hcall
      have c2b0 : decide (x < (s.size : Int)) = true := decide_eq_true hlt
      have p4 := H0.out
      have q4 := hlt
      have hx4 := bt_at s x
      have P4 := Aside0.mk p4
      have Q4 := Aside0.mk q4
      clear hlt
      replace p4 := eq_true p4
      replace q4 := eq_true q4
      cases b with
      | true =>
        have HR3 : Aside0 (repl G ((bytesOf s).drop x.toNat) acc = if (acc ++ bytesOf t).length > 1048576 then [] else repl G ((bytesOf s).drop (x.toNat + 1)) (acc ++ bytesOf t)) := ⟨HR2.out⟩
        clear HR2
        go_wp2_with (first
          | (go_at_fn g; refine HC.out.mono ?_; rintro e w2 ⟨rfl, hb2⟩; have n0_ := Aside0.mk (pw_own_below HO.out hb2); have n1_ := Aside0.mk (below_step HB.out hb2); clear HO HB hb2; have HO := n0_; have HB := n1_; clear n0_ n1_)
          | (at_builtin; refine print_append_str (w0 := w) w.heap.size rfl (.tmp 25) _ 22 9 5 rfl Try.underlying22 Try.underlying9 infou8 _ acc t rfl rfl HO.out HB.out HB.out.size (by have := HL.out; have := HZ.out; omega) ?_; intro v1 w1 hO1 hB1 hg1; obtain ⟨A1, c1, rfl⟩ := own_slice hO1; generalize hN : (acc ++ bytesOf t).length = N at hO1; have n0_ := Aside0.mk hO1; have n1_ := Aside0.mk hB1; have HN := Aside0.mk hN; have hN2 : N ≤ 2097152 := (by rw [← hN, List.length_append, bytesOf_length]; have := HL.out; have := HZ.out; omega); clear hN hO1 hB1 hg1 HO HB; have HO := n0_; have HB := n1_; clear n0_ n1_))
        · have hbig : (1048576 : Int) < (N : Int) := by assumption
          go_ret
          refine ⟨?_, HB.out⟩
          exact congrArg (fun r => Ending.returned (Value.string r)) (replB_of HR.out (HR3.out.trans (if_pos (by rw [HN.out]; omega)))).symm
        · have hbig : (N : Int) ≤ 1048576 := by assumption
          go_roundg (gk - 1)
          case measure => have := HK.out; have := Q4.out; omega
          case rel =>
            have hw : wrap64 (x + 1) = x + 1 := by have := Q4.out; have := P4.out; unfold wrap64; omega
            refine ⟨x + 1, acc ++ bytesOf t, by rw [hw], ⟨by have := P4.out; omega⟩, ⟨by have := Q4.out; omega⟩, ⟨by have := HK.out; omega⟩, ⟨?_⟩, ⟨by rw [HN.out]; omega⟩, ⟨by rw [HN.out]; exact HO.out⟩, HB⟩
            rw [show (x + 1).toNat = x.toNat + 1 by have := P4.out; omega, ← HR.out, HR3.out, if_neg]
            rw [HN.out]; omega
      | false =>
        have HR3 : Aside0 (repl G ((bytesOf s).drop x.toNat) acc = if (acc ++ [bt s x]).length > 1048576 then [] else repl G ((bytesOf s).drop (x.toNat + 1)) (acc ++ [bt s x])) := ⟨HR2.out⟩
        clear HR2
        go_wp2_with (first
          | (go_at_fn g; refine HC.out.mono ?_; rintro e w2 ⟨rfl, hb2⟩; have n0_ := Aside0.mk (pw_own_below HO.out hb2); have n1_ := Aside0.mk (below_step HB.out hb2); clear HO HB hb2; have HO := n0_; have HB := n1_; clear n0_ n1_)
          | (at_builtin; refine print_append_num (w0 := w) w.heap.size rfl (.tmp 28) _ 22 5 .u8 1 rfl Try.underlying22 infou8 (by decide) _ acc (bt s x) rfl rfl HO.out HB.out HB.out.size (by have := HL.out; omega) ?_; intro v1 w1 hO1 hB1 hg1 _; obtain ⟨A1, c1, rfl⟩ := own_slice hO1; generalize hN : (acc ++ [bt s x]).length = N at hO1; have n0_ := Aside0.mk hO1; have n1_ := Aside0.mk hB1; have HN := Aside0.mk hN; have hN2 : N ≤ 2097152 := (by rw [← hN, List.length_append, List.length_singleton]; have := HL.out; omega); clear hN hO1 hB1 hg1 HO HB; have HO := n0_; have HB := n1_; clear n0_ n1_))
        · have hbig : (1048576 : Int) < (N : Int) := by assumption
          go_ret
          refine ⟨?_, HB.out⟩
          exact congrArg (fun r => Ending.returned (Value.string r)) (replB_of HR.out (HR3.out.trans (if_pos (by rw [HN.out]; omega)))).symm
        · have hbig : (N : Int) ≤ 1048576 := by assumption
          go_roundg (gk - 1)
          case measure => have := HK.out; have := Q4.out; omega
          case rel =>
            have hw : wrap64 (x + 1) = x + 1 := by have := Q4.out; have := P4.out; unfold wrap64; omega
            refine ⟨x + 1, acc ++ [bt s x], by rw [hw], ⟨by have := P4.out; omega⟩, ⟨by have := Q4.out; omega⟩, ⟨by have := HK.out; omega⟩, ⟨?_⟩, ⟨by rw [HN.out]; omega⟩, ⟨by rw [HN.out]; exact HO.out⟩, HB⟩
            rw [show (x + 1).toNat = x.toNat + 1 by have := P4.out; omega, ← HR.out, HR3.out, if_neg]
            rw [HN.out]; omega
    · have c2b0 : decide (x < (s.size : Int)) = false := decide_eq_false hlt
      have hx : x = s.size := by have := H1.out; omega
      have hr : repl G (bytesOf s) [] = acc := by
        rw [← HR.out, List.drop_of_length_le (by rw [bytesOf_length]; omega)]
        rfl
      have HF := Aside0.mk hr
      clear hr hx hlt HG HBd
      have hconv := own_string (P := Try.prog) Try.underlying22 Try.underlying5 Try.underlying9 HO.out
      go_wp2
      go_ret
      exact ⟨congrArg (fun r => Ending.returned (Value.string (strOfNums r))) HF.out.symm, HB.out⟩

-- EXT loop.example/g00582/impl.ReplaceVar making
def impl_ReplaceVar.f (s : ByteArray) (nm : Int) (b : ByteArray) : Option ByteArray :=
  if s.size ≤ 9223372036854775807 ∧ b.size ≤ 1048576 then some (replB (fun c => (b, c == nm)) s) else none
set_option maxHeartbeats 1000000 in
set_option maxRecDepth 100000 in
theorem clo_ReplaceVar (c nm : Int) (b : ByteArray) (p1 p2 : Addr) (W : World) (h1 : W.cell? p1 = some (.string b)) (h2 : W.cell? p2 = some (.int .u8 nm)) :
    Calls Try.prog 151 #[.int .u8 c, .pointer (some p1), .pointer (some p2)] W fun e W' => e = .returned (.tuple #[.string b, .bool (c == nm)]) ∧ Below W.heap.size W W' := by
  go_enter Try.func151, Try.ntmps151
  go_wp2
  go_quiet (fail)
  go_wp2
  go_ret2
  exact ⟨rfl, (Drawn0.step (Drawn0.refl _) _).below⟩
set_option maxHeartbeats 1000000 in
set_option maxRecDepth 100000 in
theorem impl_ReplaceVar.calls (s : ByteArray) (nm : Int) (b : ByteArray) (r : ByteArray) (w : World) (h : impl_ReplaceVar.f s nm b = some r) :
    Calls Try.prog 104 #[.string s, .int .u8 nm, .string b] w fun e w' => e = .returned (.string r) ∧ Below w.heap.size w w' := by
  unfold impl_ReplaceVar.f at h
  split at h
  · rename_i hc
    obtain ⟨hs, hb⟩ := hc
    obtain rfl := Option.some.inj h
    clear h
    have HS := Aside0.mk hs
    have HB := Aside0.mk hb
    clear hs hb
    have hmf : ∀ (fn : Fn) (first cap : Array Value) (w : World), (Instr.makeFunc fn first cap).run Try.prog w = .ok (.func fn first cap) w := fun _ _ _ _ => rfl
    go_enter Try.func104, Try.ntmps104
    go_wp2_with fail
    refine (replaced_any (fun c => (b, c == nm)) 151 _ (enters_of Try.func151 (by kernel_rfl) rfl) s _ HS.out (fun _ => HB.out) ?_).mono ?_
    · intro W c hb _ _
      refine clo_ReplaceVar c nm b _ _ W ?_ ?_
      · rw [hb.cell (p := ⟨w.heap.size + 1, 0, none⟩) (by simp)]
        go_simp
      · rw [hb.cell (p := ⟨w.heap.size, 0, none⟩) (by simp; omega)]
        go_simp
    · rintro e w' ⟨rfl, hb'⟩
      have hb2 : Below w.heap.size w w' := below_then (below_alloc (below_alloc (Below.refl _ _) _) _) (by simp; omega) hb'
      have HB2 := Aside0.mk hb2
      clear hb2 hb'
      go_wp2
      go_ret
      exact ⟨rfl, HB2.out⟩
  · exact absurd h (by simp)

end Go.Proofs.Ytkefiajemifklaa.Ext
