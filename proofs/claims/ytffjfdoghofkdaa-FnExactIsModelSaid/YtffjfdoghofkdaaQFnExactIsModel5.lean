/- FnExactIsModel: what its proof needs, put together by this session's program wip/merge.py out of the texts that wip/xp.py printed and of this session's own. -/
import Derived.Test.YtffjfdoghofkdaaQFnExactIsModel4
import Derived.Deep.RegionWith
import Derived.Test.YtffjfdoghofkdaaProg
import Derived.Shelf.Abstract
import Derived.Deep.LoopGhost
import Derived.Deep.QuietTactic
import Derived.BigQuiet
import Derived.Below
import Derived.Outline
set_option linter.unusedVariables false
set_option linter.unusedSimpArgs false
set_option linter.unusedSectionVars false
set_option maxHeartbeats 8000000
set_option maxRecDepth 100000
namespace Go.Proofs.Ytffjfdoghofkdaa.Ext
open Go Go.RowKit Go.Proofs.YtffjfdoghofkdaaW.PrintWords Go.Proofs.YtffjfdoghofkdaaW.PrintLast Go.Proofs.Ytffjfdoghofkdaa.A
/-! How many nodes. -/
theorem IsRx.len {x : S35} {t : Rx} (h : IsRx x t) : x.f2.length ≤ 2 := by cases h <;> simp
theorem size_of_rx {x : S35} {t : Rx} (h : IsRx x t) : t.size ≤ 1000000 → ∃ k, impl_size.f k x.f0 x.f1 x.f2 = some (t.size : Int) := by
 have one : ∀ (k : Int) (s : ByteArray), ∃ q, impl_size.f q k s [] = some 1 := fun k s => ⟨2, by simp [impl_size.f, impl_size.l0]⟩
 have step1 : ∀ (k : Int) (s : ByteArray) (y : S35) (n : Nat), n ≤ 1000000 → (∃ q, impl_size.f q y.f0 y.f1 y.f2 = some (n : Int)) → ∃ q, impl_size.f q k s [y] = some ((1 + n : Nat) : Int) := by
  intro k s y n hn ⟨q, hq⟩
  refine ⟨q + 3, ?_⟩
  have h1 : impl_size.f (q + 1) y.f0 y.f1 y.f2 = some (n : Int) := at_rounds (impl_size.mono _ _ _) (Nat.le_succ q) hq
  have e : wrap64 (1 + (n : Int)) = ((1 + n : Nat) : Int) := by rw [show (1 : Int) + (n : Int) = ((1 + n : Nat) : Int) by omega]; exact wrap_nat _ (by omega)
  have e0 : wrap64 (0 + 1) = 1 := by unfold wrap64; decide
  rw [impl_size.f, impl_size.l0, if_pos (show (0 : Int) < (([y] : List S35).length : Int) by simp), if_pos (Int.le_refl 0), if_pos (show (0 : Int) < (([y] : List S35).length : Int) by simp), show rd_T35 [y] 0 = y from rfl, h1, Option.bind_some, e0, e, impl_size.l0, if_neg (by simp)]
 have step2 : ∀ (k : Int) (s : ByteArray) (y v : S35) (n m : Nat), n + m ≤ 1000000 → (∃ q, impl_size.f q y.f0 y.f1 y.f2 = some (n : Int)) → (∃ q, impl_size.f q v.f0 v.f1 v.f2 = some (m : Int)) → ∃ q, impl_size.f q k s [y, v] = some ((1 + n + m : Nat) : Int) := by
  intro k s y v n m hn ⟨q, hq⟩ ⟨p, hp⟩
  refine ⟨q + p + 4, ?_⟩
  have h1 : impl_size.f (q + p + 2) y.f0 y.f1 y.f2 = some (n : Int) := at_rounds (impl_size.mono _ _ _) (by omega) hq
  have h2 : impl_size.f (q + p + 1) v.f0 v.f1 v.f2 = some (m : Int) := at_rounds (impl_size.mono _ _ _) (by omega) hp
  have e : wrap64 (1 + (n : Int)) = ((1 + n : Nat) : Int) := by rw [show (1 : Int) + (n : Int) = ((1 + n : Nat) : Int) by omega]; exact wrap_nat _ (by omega)
  have e2 : wrap64 (((1 + n : Nat) : Int) + (m : Int)) = ((1 + n + m : Nat) : Int) := by rw [← Int.natCast_add]; exact wrap_nat _ (by omega)
  have e0 : wrap64 (0 + 1) = 1 := by unfold wrap64; decide
  have e1 : wrap64 (1 + 1) = 2 := by unfold wrap64; decide
  rw [impl_size.f, impl_size.l0, if_pos (show (0 : Int) < (([y, v] : List S35).length : Int) by simp), if_pos (Int.le_refl 0), if_pos (show (0 : Int) < (([y, v] : List S35).length : Int) by simp), show rd_T35 [y, v] 0 = y from rfl, h1, Option.bind_some, e0, e, impl_size.l0, if_pos (show (1 : Int) < (([y, v] : List S35).length : Int) by simp), if_pos (by decide), if_pos (show (1 : Int) < (([y, v] : List S35).length : Int) by simp), show rd_T35 [y, v] 1 = v from rfl, h2, Option.bind_some, e1, e2, impl_size.l0, if_neg (by simp)]
 induction h with
 | none s => intro _; exact one _ _
 | empty s => intro _; exact one _ _
 | letter s => intro _; exact one _ _
 | any s => intro _; exact one _ _
 | cat s hx hy ihx ihy => intro hs; simp only [Rx.size] at hs; exact step2 _ _ _ _ _ _ (by omega) (ihx (by omega)) (ihy (by omega))
 | or s hx hy ihx ihy => intro hs; simp only [Rx.size] at hs; exact step2 _ _ _ _ _ _ (by omega) (ihx (by omega)) (ihy (by omega))
 | and s hx hy ihx ihy => intro hs; simp only [Rx.size] at hs; exact step2 _ _ _ _ _ _ (by omega) (ihx (by omega)) (ihy (by omega))
 | star s hx ih => intro hs; simp only [Rx.size] at hs; exact step1 _ _ _ _ (by omega) (ih (by omega))
 | not s hx ih => intro hs; simp only [Rx.size] at hs; exact step1 _ _ _ _ (by omega) (ih (by omega))
theorem size_calls {x : S35} {t : Rx} (h : IsRx x t) (ht : t.size ≤ 1000000) (A : Option Addr) (c : Nat) (W : World) (hc : x.f2.length ≤ c) (hC : Kd.C k35 W A x.f2.length x.f2) :
  Calls Try.prog 85 #[.agg #[.int .i64 x.f0, .string x.f1, .slice A x.f2.length c]] W fun e w' => e = .returned (.int .i64 (t.size : Int)) ∧ Below W.heap.size W w' := by
 obtain ⟨k, hk⟩ := size_of_rx h ht
 exact impl_size.calls k _ _ _ _ _ _ W hC hc hk
/-! The truth at each node. -/
def Fits (s : ByteArray) (T : Nat → Nat → Nat → Bool) : Rx → Nat → Prop
 | .cat a b, id => (∀ i j, T id i j = mt s (.cat a b) i j) ∧ Fits s T a (id + 1) ∧ Fits s T b (id + 1 + a.size)
 | .or a b, id => (∀ i j, T id i j = mt s (.or a b) i j) ∧ Fits s T a (id + 1) ∧ Fits s T b (id + 1 + a.size)
 | .and a b, id => (∀ i j, T id i j = mt s (.and a b) i j) ∧ Fits s T a (id + 1) ∧ Fits s T b (id + 1 + a.size)
 | .star a, id => (∀ i j, T id i j = mt s (.star a) i j) ∧ Fits s T a (id + 1)
 | .not a, id => (∀ i j, T id i j = mt s (.not a) i j) ∧ Fits s T a (id + 1)
 | .none, id => ∀ i j, T id i j = mt s .none i j
 | .empty, id => ∀ i j, T id i j = mt s .empty i j
 | .any, id => ∀ i j, T id i j = mt s .any i j
 | .letter l, id => ∀ i j, T id i j = mt s (.letter l) i j
theorem Fits.here {s : ByteArray} {T : Nat → Nat → Nat → Bool} {t : Rx} {id : Nat} (h : Fits s T t id) : ∀ i j, T id i j = mt s t i j := by
 cases t <;> first | exact h | exact h.1
theorem Fits.congr {s : ByteArray} {T T' : Nat → Nat → Nat → Bool} : ∀ {t : Rx} {id : Nat}, Fits s T t id → (∀ a, id ≤ a → a < id + t.size → T' a = T a) → Fits s T' t id := by
 intro t
 induction t with
 | none => intro id h e; intro i j; rw [e id (Nat.le_refl _) (by simp [Rx.size])]; exact h i j
 | empty => intro id h e; intro i j; rw [e id (Nat.le_refl _) (by simp [Rx.size])]; exact h i j
 | any => intro id h e; intro i j; rw [e id (Nat.le_refl _) (by simp [Rx.size])]; exact h i j
 | letter l => intro id h e; intro i j; rw [e id (Nat.le_refl _) (by simp [Rx.size])]; exact h i j
 | cat a b iha ihb => intro id h e; simp only [Rx.size] at e; exact ⟨fun i j => by rw [e id (Nat.le_refl _) (by omega)]; exact h.1 i j, iha h.2.1 (fun q h1 h2 => e q (by omega) (by omega)), ihb h.2.2 (fun q h1 h2 => e q (by omega) (by omega))⟩
 | or a b iha ihb => intro id h e; simp only [Rx.size] at e; exact ⟨fun i j => by rw [e id (Nat.le_refl _) (by omega)]; exact h.1 i j, iha h.2.1 (fun q h1 h2 => e q (by omega) (by omega)), ihb h.2.2 (fun q h1 h2 => e q (by omega) (by omega))⟩
 | and a b iha ihb => intro id h e; simp only [Rx.size] at e; exact ⟨fun i j => by rw [e id (Nat.le_refl _) (by omega)]; exact h.1 i j, iha h.2.1 (fun q h1 h2 => e q (by omega) (by omega)), ihb h.2.2 (fun q h1 h2 => e q (by omega) (by omega))⟩
 | star a iha => intro id h e; simp only [Rx.size] at e; exact ⟨fun i j => by rw [e id (Nat.le_refl _) (by omega)]; exact h.1 i j, iha h.2 (fun q h1 h2 => e q (by omega) (by omega))⟩
 | not a iha => intro id h e; simp only [Rx.size] at e; exact ⟨fun i j => by rw [e id (Nat.le_refl _) (by omega)]; exact h.1 i j, iha h.2 (fun q h1 h2 => e q (by omega) (by omega))⟩
theorem Fits.exist (s : ByteArray) : ∀ (t : Rx) (id : Nat), ∃ T, Fits s T t id := by
 intro t
 induction t with
 | none => intro id; exact ⟨fun _ => mt s .none, fun _ _ => rfl⟩
 | empty => intro id; exact ⟨fun _ => mt s .empty, fun _ _ => rfl⟩
 | any => intro id; exact ⟨fun _ => mt s .any, fun _ _ => rfl⟩
 | letter l => intro id; exact ⟨fun _ => mt s (.letter l), fun _ _ => rfl⟩
 | cat a b iha ihb =>
  intro id
  obtain ⟨Ta, ha⟩ := iha (id + 1)
  obtain ⟨Tb, hb⟩ := ihb (id + 1 + a.size)
  refine ⟨fun q => if q = id then mt s (.cat a b) else if q < id + 1 + a.size then Ta q else Tb q, fun i j => by simp, ha.congr fun q h1 h2 => ?_, hb.congr fun q h1 h2 => ?_⟩
  ·simp only [if_neg (show ¬ q = id by omega), if_pos (show q < id + 1 + a.size by omega)]
  ·simp only [if_neg (show ¬ q = id by omega), if_neg (show ¬ q < id + 1 + a.size by omega)]
 | or a b iha ihb =>
  intro id
  obtain ⟨Ta, ha⟩ := iha (id + 1)
  obtain ⟨Tb, hb⟩ := ihb (id + 1 + a.size)
  refine ⟨fun q => if q = id then mt s (.or a b) else if q < id + 1 + a.size then Ta q else Tb q, fun i j => by simp, ha.congr fun q h1 h2 => ?_, hb.congr fun q h1 h2 => ?_⟩
  ·simp only [if_neg (show ¬ q = id by omega), if_pos (show q < id + 1 + a.size by omega)]
  ·simp only [if_neg (show ¬ q = id by omega), if_neg (show ¬ q < id + 1 + a.size by omega)]
 | and a b iha ihb =>
  intro id
  obtain ⟨Ta, ha⟩ := iha (id + 1)
  obtain ⟨Tb, hb⟩ := ihb (id + 1 + a.size)
  refine ⟨fun q => if q = id then mt s (.and a b) else if q < id + 1 + a.size then Ta q else Tb q, fun i j => by simp, ha.congr fun q h1 h2 => ?_, hb.congr fun q h1 h2 => ?_⟩
  ·simp only [if_neg (show ¬ q = id by omega), if_pos (show q < id + 1 + a.size by omega)]
  ·simp only [if_neg (show ¬ q = id by omega), if_neg (show ¬ q < id + 1 + a.size by omega)]
 | star a iha =>
  intro id
  obtain ⟨Ta, ha⟩ := iha (id + 1)
  exact ⟨fun q => if q = id then mt s (.star a) else Ta q, fun i j => by simp, ha.congr fun q h1 h2 => by simp only [if_neg (show ¬ q = id by omega)]⟩
 | not a iha =>
  intro id
  obtain ⟨Ta, ha⟩ := iha (id + 1)
  exact ⟨fun q => if q = id then mt s (.not a) else Ta q, fun i j => by simp, ha.congr fun q h1 h2 => by simp only [if_neg (show ¬ q = id by omega)]⟩
section
variable (w0 : World) (g b : Nat) (hgb : g ≠ b) (hg : w0.heap.size ≤ g) (hb : w0.heap.size ≤ b) (s : ByteArray) (n : Nat) (hn : n ≤ 401) (hsn : s.size + 1 = n) (z : Nat) (hz : z ≤ 16) (T : Nat → Nat → Nat → Bool)
include hgb hg hb hn hsn hz
theorem mc_of (x : S35) (t : Rx) (A : Option Addr) (c id len : Nat) (hid : id + t.size ≤ z) (hT : ∀ i j, T id i j = mt s t i j)
  (hf : ∀ (i j : Nat) (m : List Int) (W : World), i ≤ j → j < n → j - i < len → m.length = z * n * n → MSt g b s n m W → Gd n T m (RgF id t.size (j - i)) → Below w0.heap.size w0 W →
   Calls Try.prog 94 #[.pointer (some ⟨g, 0, none⟩), .agg #[.int .i64 x.f0, .string x.f1, .slice A x.f2.length c], .int .i64 (id : Int), .int .i64 (i : Int), .int .i64 (j : Int)] W (MPost w0 W g b s n T m (RgF id t.size (j - i)) (mt s t i j))) :
  MC w0 g b s n z T t x.f0 x.f1 A x.f2.length c id len := by
 intro i j ids iv jv m W e1 e2 e3 hij hj hlen hl hM hG hB
 subst e1 e2 e3
 have := t.size_pos
 exact match_of_find w0 g b hgb hg hb s n hn z hz T x A c id t.size i j (by omega) t.size_pos hij hj (mt s t i j) (hT i j) (fun m' W' h1 h2 h3 h4 => hf i j m' W' hij hj hlen h1 h2 h3 h4) m W hl hM hG hB
theorem match_all {x : S35} {t : Rx} (h : IsRx x t) : ∀ (A : Option Addr) (c id : Nat), Kd.C k35 w0 A x.f2.length x.f2 → x.f2.length ≤ c → Fits s T t id → id + t.size ≤ z → MC w0 g b s n z T t x.f0 x.f1 A x.f2.length c id n := by
 induction h with
 | none bs =>
  intro A c id hC hc hF hid
  exact mc_of w0 g b hgb hg hb s n hn hsn z hz T ⟨1, bs, []⟩ .none A c id n hid hF.here fun i j m W hij hj _ hl hM hG hB => find_leaf w0 g b hgb hg hb s n hn hsn z hz T bs A c id i j hij hj m W hl hM hB 1 _ (.inl ⟨rfl, rfl⟩) _ hG
 | empty bs =>
  intro A c id hC hc hF hid
  exact mc_of w0 g b hgb hg hb s n hn hsn z hz T ⟨2, bs, []⟩ .empty A c id n hid hF.here fun i j m W hij hj _ hl hM hG hB => find_leaf w0 g b hgb hg hb s n hn hsn z hz T bs A c id i j hij hj m W hl hM hB 2 _ (.inr (.inl ⟨rfl, rfl⟩)) _ hG
 | letter bs =>
  intro A c id hC hc hF hid
  exact mc_of w0 g b hgb hg hb s n hn hsn z hz T ⟨3, bs, []⟩ (.letter bs) A c id n hid hF.here fun i j m W hij hj _ hl hM hG hB => find_leaf w0 g b hgb hg hb s n hn hsn z hz T bs A c id i j hij hj m W hl hM hB 3 _ (.inr (.inr (.inr ⟨rfl, rfl⟩))) _ hG
 | any bs =>
  intro A c id hC hc hF hid
  exact mc_of w0 g b hgb hg hb s n hn hsn z hz T ⟨4, bs, []⟩ .any A c id n hid hF.here fun i j m W hij hj _ hl hM hG hB => find_leaf w0 g b hgb hg hb s n hn hsn z hz T bs A c id i j hij hj m W hl hM hB 4 _ (.inr (.inr (.inl ⟨rfl, rfl⟩))) _ hG
 | @cat bs x y t u hx hy ihx ihy =>
  intro A c id hC hc hF hid
  simp only [Rx.size] at hid
  exact mc_of w0 g b hgb hg hb s n hn hsn z hz T ⟨5, bs, [x, y]⟩ (.cat t u) A c id n (by simp only [Rx.size]; omega) hF.here fun i j m W hij hj _ hl hM hG hB => find_cat w0 g b hgb hg hb s n hn hsn z hz T bs A c id i j hij hj m W hl hM hB x y t u hC (by omega)
   (fun A2 c2 h1 h2 => ihx A2 c2 (id + 1) h2 h1 hF.2.1 (by omega)) (fun A2 c2 h1 h2 => ihy A2 c2 (id + 1 + t.size) h2 h1 hF.2.2 (by omega)) (fun A2 c2 W' h1 h2 => size_calls hx (by omega) A2 c2 W' h1 h2) hG
 | @or bs x y t u hx hy ihx ihy =>
  intro A c id hC hc hF hid
  simp only [Rx.size] at hid
  exact mc_of w0 g b hgb hg hb s n hn hsn z hz T ⟨6, bs, [x, y]⟩ (.or t u) A c id n (by simp only [Rx.size]; omega) hF.here fun i j m W hij hj _ hl hM hG hB => find_or w0 g b hgb hg hb s n hn hsn z hz T bs A c id i j hij hj m W hl hM hB x y t u hC (by omega)
   (fun A2 c2 h1 h2 => ihx A2 c2 (id + 1) h2 h1 hF.2.1 (by omega)) (fun A2 c2 h1 h2 => ihy A2 c2 (id + 1 + t.size) h2 h1 hF.2.2 (by omega)) (fun A2 c2 W' h1 h2 => size_calls hx (by omega) A2 c2 W' h1 h2) hG
 | @and bs x y t u hx hy ihx ihy =>
  intro A c id hC hc hF hid
  simp only [Rx.size] at hid
  exact mc_of w0 g b hgb hg hb s n hn hsn z hz T ⟨7, bs, [x, y]⟩ (.and t u) A c id n (by simp only [Rx.size]; omega) hF.here fun i j m W hij hj _ hl hM hG hB => find_and w0 g b hgb hg hb s n hn hsn z hz T bs A c id i j hij hj m W hl hM hB x y t u hC (by omega)
   (fun A2 c2 h1 h2 => ihx A2 c2 (id + 1) h2 h1 hF.2.1 (by omega)) (fun A2 c2 h1 h2 => ihy A2 c2 (id + 1 + t.size) h2 h1 hF.2.2 (by omega)) (fun A2 c2 W' h1 h2 => size_calls hx (by omega) A2 c2 W' h1 h2) hG
 | @not bs x t hx ih =>
  intro A c id hC hc hF hid
  simp only [Rx.size] at hid
  exact mc_of w0 g b hgb hg hb s n hn hsn z hz T ⟨9, bs, [x]⟩ (.not t) A c id n (by simp only [Rx.size]; omega) hF.here fun i j m W hij hj _ hl hM hG hB => find_not w0 g b hgb hg hb s n hn hsn z hz T bs A c id i j hij hj m W hl hM hB x t hC (by omega)
   (fun A2 c2 h1 h2 => ih A2 c2 (id + 1) h2 h1 hF.2 (by omega)) hG
 | @star bs x t hx ih =>
  intro A c id hC hc hF hid
  simp only [Rx.size] at hid
  have key : ∀ len, MC w0 g b s n z T (.star t) 8 bs A 1 c id len := by
   intro len
   induction len with
   | zero => intro i j ids iv jv m W _ _ _ _ _ h; omega
   | succ len ihl =>
    refine mc_of w0 g b hgb hg hb s n hn hsn z hz T ⟨8, bs, [x]⟩ (.star t) A c id (len + 1) (by simp only [Rx.size]; omega) hF.here fun i j m W hij hj hle hl hM hG hB => find_star w0 g b hgb hg hb s n hn hsn z hz T bs A c id i j hij hj m W hl hM hB x t hC (by omega) (fun A2 c2 h1 h2 => ih A2 c2 (id + 1) h2 h1 hF.2 (by omega)) ?_ hG
    intro i' j' ids iv jv m' W' h1 h2 h3 h4 h5 h6
    exact ihl i' j' ids iv jv m' W' h1 h2 h3 h4 h5 (by omega)
  exact key n
end
def impl_matches.f (a0_0 : Int) (a0_1 : ByteArray) (l0_2 : List S35) (a1 : ByteArray) : Option Bool := rxMatch a0_0 a0_1 l0_2 a1
theorem made_cells (m : Nat) : madeCells #[Value.int .i8 0] m = (nums .i8 (List.replicate m 0)).toArray := by
 simp only [madeCells, nums]
 apply Array.ext
 ·simp
 ·intro i h1 h2; simp [Nat.mod_one]
theorem mst_made {W : World} {g : Nat} {s : ByteArray} {N : Nat} (hX : W.heap[g]? = some (.cells #[.string s, .int .i64 ((s.size : Int) + 1), .slice none 0 0] 104 (0, 0))) :
  MSt g W.heap.size s (s.size + 1) (List.replicate N 0) ((W.setCell ⟨g, 2, none⟩ (.slice (some ⟨W.heap.size, 0, none⟩) N N)).alloc (.cells (madeCells #[.int .i8 0] N) 112)) := by
 refine ⟨?_, ?_⟩
 ·rw [List.length_replicate]
  refine blk_alloc (blk_put hX 2 _ ?_) _
  simp
 ·rw [← made_cells]
  have := blk_new (W.setCell ⟨g, 2, none⟩ (.slice (some ⟨W.heap.size, 0, none⟩) N N)) (.cells (madeCells #[.int .i8 0] N) 112)
  simpa using this
-- EXT loop.example/g00582/impl.matches making
set_option maxHeartbeats 4000000 in
theorem impl_matches.calls (a0_0 : Int) (a0_1 : ByteArray) (A0_2 : Option Addr) (c0_2 : Nat) (l0_2 : List S35) (a1 : ByteArray) (r : Bool) (w : World) (hr0_2 : Kd.C k35 w A0_2 l0_2.length l0_2) (hc0_2 : l0_2.length ≤ c0_2) (h : impl_matches.f a0_0 a0_1 l0_2 a1 = some r) :
  Calls Try.prog 60 #[.agg #[.int .i64 a0_0, .string a0_1, .slice A0_2 l0_2.length c0_2], .string a1] w fun e w' => e = .returned (.bool r) ∧ Below w.heap.size w w' := by
 obtain ⟨t, hx, h16, h400, hr⟩ := rxMatch_some h
 subst hr
 have ht0 := t.size_pos
 have hv1 : t.size * (a1.size + 1) ≤ 16 * 401 := Nat.mul_le_mul h16 (by omega)
 have hv2 : t.size * (a1.size + 1) * (a1.size + 1) ≤ 16 * 401 * 401 := Nat.mul_le_mul hv1 (by omega)
 have HR := Aside0.mk hr0_2
 have HC := Aside0.mk hc0_2
 have HX := Aside0.mk hx
 have HZ := Aside0.mk (fun (W' : World) (hB' : Below w.heap.size w W') => size_calls hx (by omega) A0_2 c0_2 W' hc0_2 (Kd.C_below hr0_2 hB'))
 have H16 := Aside0.mk h16
 have H400 := Aside0.mk h400
 clear hr0_2 hc0_2 h hx
 have HB := Aside0.mk (Below.refl w.heap.size w)
 go_enter Try.func60, Try.ntmps60
 go_upto_region 2 with (first
  | ((with_reducible refine gate_dst (N := 2) rfl ?_); refine box_event ?hg (N := 2) ?hd (cs := #[.int .i64 a0_0, .string a0_1, .slice A0_2 l0_2.length c0_2]) (t := 35) ?hr ?_; (case hd => rfl); (case hg => rfl); (case hr => first | (go_simp; done) | (go_simp; rfl)); intro gr hgr w3 hbox hb3; have X3 := Aside0.mk hbox; have B3 := Aside0.mk (below_step HB.out hb3); have G3 := Aside0.mk (show w.heap.size ≤ gr by omega); clear hb3 hbox hgr)
  | ((with_reducible refine gate_dst (N := 11) rfl ?_); refine box_event ?hg (N := 11) ?hd (cs := #[.string a1, .int .i64 ((a1.size : Int) + 1), .slice none 0 0]) (t := 104) ?hr ?_; (case hd => rfl); (case hg => rfl); (case hr => first | (go_simp; done) | (go_simp; rfl)); intro gm hgm w4 hbox hb4; have X4 := Aside0.mk hbox; have Y4 := Aside0.mk (blk_below X3.out hb4); have B4 := Aside0.mk (below_step B3.out hb4); have G4 := Aside0.mk (show w.heap.size ≤ gm by have := B3.out.size; omega); have N4 := Aside0.mk (show gr ≠ gm by have := blk_lt X3.out; omega); clear hb4 hbox hgm))
 have v1 : IntKind.i64.wrap (IntKind.i64.wrap ((t.size : Int) * ((a1.size : Int) + 1)) * ((a1.size : Int) + 1)) = ((t.size * (a1.size + 1) * (a1.size + 1) : Nat) : Int) := by
  rw [show (t.size : Int) * ((a1.size : Int) + 1) = ((t.size * (a1.size + 1) : Nat) : Int) by simp, iwrap_nat _ (by omega), show ((t.size * (a1.size + 1) : Nat) : Int) * ((a1.size : Int) + 1) = ((t.size * (a1.size + 1) * (a1.size + 1) : Nat) : Int) by simp]
  exact iwrap_nat _ (by omega)
 have hmk : ∀ W : World, (Instr.makeSlice 102 (.int .i64 (IntKind.i64.wrap (IntKind.i64.wrap ((t.size : Int) * ((a1.size : Int) + 1)) * ((a1.size : Int) + 1)))) (.int .i64 (IntKind.i64.wrap (IntKind.i64.wrap ((t.size : Int) * ((a1.size : Int) + 1)) * ((a1.size : Int) + 1))))).run Try.prog W = .ok (.slice (some ⟨W.heap.size, 0, none⟩) (t.size * (a1.size + 1) * (a1.size + 1)) (t.size * (a1.size + 1) * (a1.size + 1))) (W.alloc (.cells (madeCells #[.int .i8 0] (t.size * (a1.size + 1) * (a1.size + 1))) 112)) := fun W => by
  rw [v1]
  have := print_make_int (P := Try.prog) 102 112 (.int .i8 0) 1 Try.underlying102 (by kernel_rfl) rfl (by decide) ((t.size * (a1.size + 1) * (a1.size + 1) : Nat) : Int) (by omega) (by simp only [Int.toNat_natCast]; omega) W
  simpa only [Int.toNat_natCast] using this
 clear v1
 go_cut [] (fun wc => ∃ b : Nat, Aside0 (MSt gm b a1 (a1.size + 1) (List.replicate (t.size * (a1.size + 1) * (a1.size + 1)) 0) wc) ∧ Aside0 (w.heap.size ≤ b ∧ gm ≠ b) ∧ Aside0 (wc.heap[gr]? = some (.cells #[.int .i64 a0_0, .string a0_1, .slice A0_2 l0_2.length c0_2] 35 (0, 0))) ∧ Aside0 (Below w.heap.size w wc))
 case first =>
  obtain ⟨y0, y1, y2, g0, g1, g2⟩ := blk3 Y4.out
  obtain ⟨z0, z1, z2, f0, f1, f2⟩ := blk3 X4.out
  clear hv1 hv2
  go_region_with (go_at_call 85; (with_reducible refine (HZ.out _ (by first | exact B4.out | exact pw_below_drewN B4.out _ | exact below_drew B4.out)).mono ?_); rintro e w5 ⟨rfl, hb5⟩; have X5 := Aside0.mk (show w5.heap[gm]? = _ by first | exact blk_below X4.out hb5 | exact blk_below (blk_drew X4.out) hb5 | exact blk_below (blk_drewN X4.out _) hb5); have Y5 := Aside0.mk (show w5.heap[gr]? = _ by first | exact blk_below Y4.out hb5 | exact blk_below (blk_drew Y4.out) hb5 | exact blk_below (blk_drewN Y4.out _) hb5); have B5 := Aside0.mk (show Below w.heap.size w w5 by first | exact below_step B4.out hb5 | exact below_step (below_drew B4.out) hb5 | exact below_step (pw_below_drewN B4.out _) hb5); clear hb5; obtain ⟨s0, s1, s2, t0, t1, t2⟩ := blk3 X5.out; have l5 : gm < w5.heap.size := blk_lt X5.out)
  all_goals
   try go_wp2
   go_meet
   case rel => exact ⟨w5.heap.size, ⟨mst_made X5.out⟩, ⟨B5.out.size, by have := blk_lt X5.out; omega⟩, ⟨blk_alloc (blk_far Y5.out N4.out _) _⟩, ⟨below_alloc (B5.out.setCell G4.out _) _⟩⟩
 case rest =>
  clear X3 B3 G3 X4 Y4 B4 N4 hmk HB hv1 hv2 HZ
  obtain ⟨b, HM, HN, XG, HB⟩ := hcut
  obtain ⟨T, hT⟩ := Fits.exist a1 t 0
  obtain ⟨y0, y1, y2, g0, g1, g2⟩ := blk3 XG.out
  have HC1 := Aside0.mk (match_all w gm b HN.out.2 G4.out HN.out.1 a1 (a1.size + 1) (by have := H400.out; omega) rfl t.size H16.out T HX.out A0_2 c0_2 0 HR.out HC.out hT (by omega) 0 a1.size 0 0 (a1.size : Int) _ wc rfl rfl rfl (Nat.zero_le _) (by omega) (by omega) (by simp) HM.out (fun a i j _ _ _ => .inl (by
   rw [List.getD_eq_getElem?_getD]
   by_cases h : ix (a1.size + 1) a i j < t.size * (a1.size + 1) * (a1.size + 1)
   ·simp [h]
   ·rw [List.getElem?_eq_none (by simpa using h)]; rfl)) HB.out)
  go_wp2_with (go_at_call 86; (with_reducible refine HC1.out.mono ?_); rintro e w9 ⟨rfl, m9, hl9, M9, G9, S9, K9, B9⟩)
  go_ret
  exact ⟨rfl, B9⟩
end Go.Proofs.Ytffjfdoghofkdaa.Ext
namespace Go.Proofs.Ytffjfdoghofkdaa.Ext
open Go.RowKit Go.Proofs.YtffjfdoghofkdaaW.PrintWords Go.Proofs.YtffjfdoghofkdaaW.PrintLast Go.Proofs.Ytffjfdoghofkdaa.A
def repl (G : Int → ByteArray × Bool) : List Int → List Int → List Int
 | [], acc => acc
 | c :: cs, acc =>
  if (acc ++ (if (G c).2 = true then bytesOf (G c).1 else [c])).length > 1048576 then [] else repl G cs (acc ++ (if (G c).2 = true then bytesOf (G c).1 else [c]))
def replB (G : Int → ByteArray × Bool) (s : ByteArray) : ByteArray := strOfNums (repl G (bytesOf s) [])
theorem infou8 : (Try.prog.info? 5).map (fun i => (i.zero, i.size, i.bytes)) = some (some (.int .u8 0), 1, 1) := by kernel_rfl
theorem repl_at (G : Int → ByteArray × Bool) (s : ByteArray) (x : Int) (acc : List Int) (h0 : 0 ≤ x) (h1 : x < s.size) :
  repl G ((bytesOf s).drop x.toNat) acc = if (acc ++ (if (G (bt s x)).2 = true then bytesOf (G (bt s x)).1 else [bt s x])).length > 1048576 then [] else repl G ((bytesOf s).drop (x.toNat + 1)) (acc ++ (if (G (bt s x)).2 = true then bytesOf (G (bt s x)).1 else [bt s x])) := by
 have hl : x.toNat < (bytesOf s).length := by rw [bytesOf_length]; omega
 have e : (bytesOf s)[x.toNat] = bt s x := by
  rw [← rd_bytesOf]
  simp [rd, hl]
 rw [List.drop_eq_getElem_cons hl, e]
 rfl
theorem replB_of {G : Int → ByteArray × Bool} {s : ByteArray} {a : List Int} (h : a = repl G (bytesOf s) []) (h' : a = []) : replB G s = ⟨#[]⟩ := by
 unfold replB
 rw [← h, h']
 rfl
set_option maxHeartbeats 4000000 in
theorem replaced_any (G : Int → ByteArray × Bool) (g : Nat) (lb : Array Value) (eg : ∀ args w, (callFunc g args).run Try.prog w = .ok (.enter g args) w) (s : ByteArray) (w : World)
  (hs : s.size ≤ 9223372036854775807) (hB : ∀ c, (G c).1.size ≤ 1048576)
  (hG : ∀ (W : World) (c : Int), Below w.heap.size w W → 0 ≤ c → c ≤ 255 → Calls Try.prog g (#[.int .u8 c] ++ lb) W fun e W' => e = .returned (.tuple #[.string (G c).1, .bool (G c).2]) ∧ Below W.heap.size W W') :
  Calls Try.prog 82 #[.string s, .func (.func g) #[] lb] w fun e w' => e = .returned (.string (replB G s)) ∧ Below w.heap.size w w' := by
 have HS := Aside0.mk hs
 have HBd := Aside0.mk hB
 have HG := Aside0.mk hG
 clear hB hG
 go_enter Try.func82, Try.ntmps82
 go_wp2
 first
  | go_loopg [5, 6] s.size (fun gk v5 v6 wr => ∃ (x : Int) (acc : List Int), v6 = .int .i64 x ∧ Aside0 (0 ≤ x) ∧ Aside0 (x ≤ s.size) ∧ Aside0 ((s.size : Int) - x ≤ gk) ∧ Aside0 (repl G ((bytesOf s).drop x.toNat) acc = repl G (bytesOf s) []) ∧ Aside0 (acc.length ≤ 1048576) ∧ Aside0 (wr.ownsRow w.heap.size 5 1 v5 acc.length (nums .u8 acc)) ∧ Aside0 (Below w.heap.size w wr))
 case atStart => exact ⟨0, [], rfl, ⟨by omega⟩, ⟨by omega⟩, ⟨by omega⟩, ⟨rfl⟩, ⟨by simp⟩, ⟨by simpa [nums] using own_lit w w.heap.size 5 .u8 [] (Nat.le_refl _) (by simp)⟩, ⟨below_alloc (Below.refl _ _) _⟩⟩
 case round =>
  obtain ⟨x, acc, rfl, H0, H1, HK, HR, HL, HO, HB⟩ := hrel
  by_cases hlt : x < (s.size : Int)
  ·have hcall := HG.out wr (bt s x) HB.out (bt_range _ _).1 (bt_range _ _).2
   have hR := repl_at G s x acc H0.out hlt
   have hsz := HBd.out (bt s x)
   generalize G (bt s x) = q at hcall hR hsz
   obtain ⟨t, b⟩ := q
   simp only at hcall hR hsz
   have HR2 := Aside0.mk hR
   have HZ := Aside0.mk hsz
   clear hR hsz HG HBd
   have HC := Aside0.mk hcall
   clear hcall
   have c2b0 : decide (x < (s.size : Int)) = true := decide_eq_true hlt
   have p4 := H0.out
   have q4 := hlt
   have hx4 := bt_at s x
   have P4 := Aside0.mk p4
   have Q4 := Aside0.mk q4
   clear hlt
   replace p4 := eq_true p4
   replace q4 := eq_true q4
   cases b with
   | true =>
    have HR3 : Aside0 (repl G ((bytesOf s).drop x.toNat) acc = if (acc ++ bytesOf t).length > 1048576 then [] else repl G ((bytesOf s).drop (x.toNat + 1)) (acc ++ bytesOf t)) := ⟨HR2.out⟩
    clear HR2
    go_wp2_with (first
     | (go_at_fn g; refine HC.out.mono ?_; rintro e w2 ⟨rfl, hb2⟩; have n0_ := Aside0.mk (pw_own_below HO.out hb2); have n1_ := Aside0.mk (below_step HB.out hb2); clear HO HB hb2; have HO := n0_; have HB := n1_; clear n0_ n1_)
     | (at_builtin; refine print_append_str (w0 := w) w.heap.size rfl (.tmp 25) _ 110 9 5 rfl Try.underlying110 Try.underlying9 infou8 _ acc t rfl rfl HO.out HB.out HB.out.size (by have := HL.out; have := HZ.out; omega) ?_; intro v1 w1 hO1 hB1 hg1; obtain ⟨A1, c1, rfl⟩ := own_slice hO1; generalize hN : (acc ++ bytesOf t).length = N at hO1; have n0_ := Aside0.mk hO1; have n1_ := Aside0.mk hB1; have HN := Aside0.mk hN; have hN2 : N ≤ 2097152 := (by rw [← hN, List.length_append, bytesOf_length]; have := HL.out; have := HZ.out; omega); clear hN hO1 hB1 hg1 HO HB; have HO := n0_; have HB := n1_; clear n0_ n1_))
    ·have hbig : (1048576 : Int) < (N : Int) := by assumption
     go_ret
     refine ⟨?_, HB.out⟩
     exact congrArg (fun r => Ending.returned (Value.string r)) (replB_of HR.out (HR3.out.trans (if_pos (by rw [HN.out]; omega)))).symm
    ·have hbig : (N : Int) ≤ 1048576 := by assumption
     go_roundg (gk - 1)
     case measure => have := HK.out; have := Q4.out; omega
     case rel =>
      have hw : wrap64 (x + 1) = x + 1 := by have := Q4.out; have := P4.out; unfold wrap64; omega
      refine ⟨x + 1, acc ++ bytesOf t, by rw [hw], ⟨by have := P4.out; omega⟩, ⟨by have := Q4.out; omega⟩, ⟨by have := HK.out; omega⟩, ⟨?_⟩, ⟨by rw [HN.out]; omega⟩, ⟨by rw [HN.out]; exact HO.out⟩, HB⟩
      rw [show (x + 1).toNat = x.toNat + 1 by have := P4.out; omega, ← HR.out, HR3.out, if_neg]
      rw [HN.out]; omega
   | false =>
    have HR3 : Aside0 (repl G ((bytesOf s).drop x.toNat) acc = if (acc ++ [bt s x]).length > 1048576 then [] else repl G ((bytesOf s).drop (x.toNat + 1)) (acc ++ [bt s x])) := ⟨HR2.out⟩
    clear HR2
    go_wp2_with (first
     | (go_at_fn g; refine HC.out.mono ?_; rintro e w2 ⟨rfl, hb2⟩; have n0_ := Aside0.mk (pw_own_below HO.out hb2); have n1_ := Aside0.mk (below_step HB.out hb2); clear HO HB hb2; have HO := n0_; have HB := n1_; clear n0_ n1_)
     | (at_builtin; refine print_append_num (w0 := w) w.heap.size rfl (.tmp 28) _ 110 5 .u8 1 rfl Try.underlying110 infou8 (by decide) _ acc (bt s x) rfl rfl HO.out HB.out HB.out.size (by have := HL.out; omega) ?_; intro v1 w1 hO1 hB1 hg1 _; obtain ⟨A1, c1, rfl⟩ := own_slice hO1; generalize hN : (acc ++ [bt s x]).length = N at hO1; have n0_ := Aside0.mk hO1; have n1_ := Aside0.mk hB1; have HN := Aside0.mk hN; have hN2 : N ≤ 2097152 := (by rw [← hN, List.length_append, List.length_singleton]; have := HL.out; omega); clear hN hO1 hB1 hg1 HO HB; have HO := n0_; have HB := n1_; clear n0_ n1_))
    ·have hbig : (1048576 : Int) < (N : Int) := by assumption
     go_ret
     refine ⟨?_, HB.out⟩
     exact congrArg (fun r => Ending.returned (Value.string r)) (replB_of HR.out (HR3.out.trans (if_pos (by rw [HN.out]; omega)))).symm
    ·have hbig : (N : Int) ≤ 1048576 := by assumption
     go_roundg (gk - 1)
     case measure => have := HK.out; have := Q4.out; omega
     case rel =>
      have hw : wrap64 (x + 1) = x + 1 := by have := Q4.out; have := P4.out; unfold wrap64; omega
      refine ⟨x + 1, acc ++ [bt s x], by rw [hw], ⟨by have := P4.out; omega⟩, ⟨by have := Q4.out; omega⟩, ⟨by have := HK.out; omega⟩, ⟨?_⟩, ⟨by rw [HN.out]; omega⟩, ⟨by rw [HN.out]; exact HO.out⟩, HB⟩
      rw [show (x + 1).toNat = x.toNat + 1 by have := P4.out; omega, ← HR.out, HR3.out, if_neg]
      rw [HN.out]; omega
  ·have c2b0 : decide (x < (s.size : Int)) = false := decide_eq_false hlt
   have hx : x = s.size := by have := H1.out; omega
   have hr : repl G (bytesOf s) [] = acc := by
    rw [← HR.out, List.drop_of_length_le (by rw [bytesOf_length]; omega)]
    rfl
   have HF := Aside0.mk hr
   clear hr hx hlt HG HBd
   have hconv := own_string (P := Try.prog) Try.underlying110 Try.underlying5 Try.underlying9 HO.out
   go_wp2
   go_ret
   exact ⟨congrArg (fun r => Ending.returned (Value.string (strOfNums r))) HF.out.symm, HB.out⟩
-- EXT loop.example/g00582/impl.ApplyValues making
-- ALSO loop.example/g00582/impl.ValueOf
-- ALSO loop.example/g00582/impl.isVariable
def wordOf (x y z : ByteArray) (c : Int) : ByteArray × Bool := ((impl_ValueOf.f x y z c).getD ⟨#[]⟩, (impl_isVariable.f c).getD false)
def impl_ApplyValues.f (s x y z : ByteArray) : Option ByteArray :=
 if s.size ≤ 9223372036854775807 ∧ x.size ≤ 1048576 ∧ y.size ≤ 1048576 ∧ z.size ≤ 1048576 then some (replB (wordOf x y z) s) else none
theorem valueOf_some (x y z : ByteArray) (c : Int) : impl_ValueOf.f x y z c = some (wordOf x y z c).1 := by
 unfold wordOf impl_ValueOf.f
 repeat' split
 all_goals rfl
theorem isVariable_some (x y z : ByteArray) (c : Int) : impl_isVariable.f c = some (wordOf x y z c).2 := rfl
theorem wordOf_size (x y z : ByteArray) (c : Int) (hx : x.size ≤ 1048576) (hy : y.size ≤ 1048576) (hz : z.size ≤ 1048576) : (wordOf x y z c).1.size ≤ 1048576 := by
 unfold wordOf impl_ValueOf.f
 repeat' split
 all_goals first | exact hx | exact hy | exact hz | exact Nat.zero_le _
set_option maxHeartbeats 1000000 in
theorem clo_ApplyValues (c : Int) (x y z : ByteArray) (g : Nat) (W : World) (h0 : W.cell? ⟨g, 0, none⟩ = some (.string x)) (h1 : W.cell? ⟨g, 1, none⟩ = some (.string y)) (h2 : W.cell? ⟨g, 2, none⟩ = some (.string z)) :
  Calls Try.prog 83 #[.int .u8 c, .pointer (some ⟨g, 0, none⟩)] W fun e W' => e = .returned (.tuple #[.string (wordOf x y z c).1, .bool (wordOf x y z c).2]) ∧ Below W.heap.size W W' := by
 have hv := Aside0.mk (valueOf_some x y z c)
 have hi := Aside0.mk (isVariable_some x y z c)
 generalize (wordOf x y z c).1 = a at hv ⊢
 generalize (wordOf x y z c).2 = b at hi ⊢
 go_enter Try.func83, Try.ntmps83
 go_wp2_with fail
 refine (impl_ValueOf.calls x y z c a _ hv.out).mono ?_
 rintro e w1 ⟨rfl, hb1⟩
 have HB := Aside0.mk hb1
 clear hb1 h0 h1 h2
 go_wp2_with (go_at_call 78; refine (impl_isVariable.calls c b _ hi.out).mono ?_; rintro e w2 ⟨rfl, ⟨nd, rfl⟩⟩)
 go_ret2
 exact ⟨rfl, pw_below_drewN HB.out _⟩
set_option maxHeartbeats 1000000 in
theorem impl_ApplyValues.calls (s x y z : ByteArray) (r : ByteArray) (w : World) (h : impl_ApplyValues.f s x y z = some r) :
  Calls Try.prog 59 #[.string s, .agg #[.string x, .string y, .string z]] w fun e w' => e = .returned (.string r) ∧ Below w.heap.size w w' := by
 unfold impl_ApplyValues.f at h
 split at h
 ·rename_i hc
  obtain ⟨hs, hx, hy, hz⟩ := hc
  obtain rfl := Option.some.inj h
  clear h
  have HS := Aside0.mk hs
  have HX := Aside0.mk (fun c => wordOf_size x y z c hx hy hz)
  clear hs hx hy hz
  have hmf : ∀ (fn : Fn) (first cap : Array Value) (w : World), (Instr.makeFunc fn first cap).run Try.prog w = .ok (.func fn first cap) w := fun _ _ _ _ => rfl
  go_enter Try.func59, Try.ntmps59
  go_wp2_with fail
  refine (replaced_any (wordOf x y z) 83 _ (enters_of Try.func83 (by kernel_rfl) rfl) s _ HS.out HX.out ?_).mono ?_
  ·intro W c hb _ _
   refine clo_ApplyValues c x y z _ W ?_ ?_ ?_
   ·rw [hb.cell (p := ⟨w.heap.size, 0, none⟩) (by simp)]
    go_simp
   ·rw [hb.cell (p := ⟨w.heap.size, 1, none⟩) (by simp)]
    go_simp
   ·rw [hb.cell (p := ⟨w.heap.size, 2, none⟩) (by simp)]
    go_simp
  ·rintro e w' ⟨rfl, hb'⟩
   have hb2 : Below w.heap.size w w' := below_then (below_alloc (Below.refl _ _) _) (by simp) hb'
   have HB2 := Aside0.mk hb2
   clear hb2 hb'
   go_wp2
   go_ret
   exact ⟨rfl, HB2.out⟩
 ·exact absurd h (by simp)
end Go.Proofs.Ytffjfdoghofkdaa.Ext
namespace Go.Proofs.Ytffjfdoghofkdaa.A
open Go.RowKit Go.Proofs.Ytffjfdoghofkdaa.Ext Go.Proofs.YtffjfdoghofkdaaW.PrintWords Go.Proofs.YtffjfdoghofkdaaW.PrintLast Go.Proofs.YtffjfdoghofkdaaW.PrintMore
attribute [local go_sem] max2_int min2_int max_two min_two max_three min_three max_four min_four
mutual
def impl_IsValidConstraint.j0 : Nat → Bool → Int → ByteArray → ByteArray → Int → ByteArray → List (S35) → List Int → Int → Option (Bool)
 | 0, _, _, _, _, _, _, _, _, _ => none
 | k + 1, x16, x24002000, x24002001, x24002002, x24002003, x24002004, x24002005, x24002006, x24002007 => if x16 = true then (some false) else (if x24002000 = 1 then (impl_IsValidConstraint.j1 k x24002000 (x24002000 == 1) x24002000 x24002001 x24002002 x24002003 x24002004 x24002005 x24002006 x24002007) else (impl_IsValidConstraint.j1 k x24002000 (x24002000 == 2) x24002000 x24002001 x24002002 x24002003 x24002004 x24002005 x24002006 x24002007))
def impl_IsValidConstraint.j1 : Nat → Int → Bool → Int → ByteArray → ByteArray → Int → ByteArray → List (S35) → List Int → Int → Option (Bool)
 | 0, _, _, _, _, _, _, _, _, _, _ => none
 | k + 1, x18, x19, x24002000, x24002001, x24002002, x24002003, x24002004, x24002005, x24002006, x24002007 => if x19 = true then ((impl_IsTerm.f k x24002001).bind fun t24002 => (if t24002 = true then ((impl_IsTerm.f k x24002002).bind fun t24003 => (if t24003 = true then ((impl_isZeroRegex.f x24002003 x24002004 x24002005).bind fun t24004 => (some t24004)) else (some false))) else (some false))) else (if x18 = 3 then (impl_IsValidConstraint.j2 k x18 (x18 == 3) x24002000 x24002001 x24002002 x24002003 x24002004 x24002005 x24002006 x24002007) else (impl_IsValidConstraint.j2 k x18 (x18 == 4) x24002000 x24002001 x24002002 x24002003 x24002004 x24002005 x24002006 x24002007))
def impl_IsValidConstraint.j2 : Nat → Int → Bool → Int → ByteArray → ByteArray → Int → ByteArray → List (S35) → List Int → Int → Option (Bool)
 | 0, _, _, _, _, _, _, _, _, _, _ => none
 | k + 1, x18, x35, x24002000, x24002001, x24002002, x24002003, x24002004, x24002005, x24002006, x24002007 => if x35 = true then ((impl_IsTerm.f k x24002001).bind fun t24005 => (if t24005 = true then (if x24002002.toList = ([] : List UInt8) then ((impl_IsValidRegex.f k x24002003 x24002004 x24002005).bind fun t24006 => (some t24006)) else (some false)) else (some false))) else (if x18 = 5 then (if x24002001.toList = ([] : List UInt8) then (if x24002002.toList = ([] : List UInt8) then ((impl_isZeroRegex.f x24002003 x24002004 x24002005).bind fun t24007 => (if t24007 = true then (if (x24002006.length : Int) = 3 then ((impl_within.f x24002007 (-99) 99).bind fun t24008 => (if t24008 = true then ((slices_ContainsFunc_int_int.f k x24002006).bind fun t24009 => (some (!t24009))) else (some false))) else (some false)) else (some false))) else (some false)) else (some false)) else (some false))
end
def impl_IsValidConstraint.f (k : Nat) (a0_0 : Int) (a0_1 : ByteArray) (a0_2 : ByteArray) (a0_3 : Int) (a0_4 : ByteArray) (l0_5 : List (S35)) (l0_6 : List Int) (a0_7 : Int) : Option (Bool) := if a0_0 = 5 then (impl_IsValidConstraint.j0 k false a0_0 a0_1 a0_2 a0_3 a0_4 l0_5 l0_6 a0_7) else (if (l0_6.length : Int) = 0 then (impl_IsValidConstraint.j0 k (a0_7 != 0) a0_0 a0_1 a0_2 a0_3 a0_4 l0_5 l0_6 a0_7) else (impl_IsValidConstraint.j0 k true a0_0 a0_1 a0_2 a0_3 a0_4 l0_5 l0_6 a0_7))
theorem impl_IsValidConstraint.mono_l : ∀ k, (∀ y0 y1 y2 y3 y4 y5 y6 y7 y8, LeO (impl_IsValidConstraint.j0 k y0 y1 y2 y3 y4 y5 y6 y7 y8) (impl_IsValidConstraint.j0 (k + 1) y0 y1 y2 y3 y4 y5 y6 y7 y8)) ∧ (∀ y0 y1 y2 y3 y4 y5 y6 y7 y8 y9, LeO (impl_IsValidConstraint.j1 k y0 y1 y2 y3 y4 y5 y6 y7 y8 y9) (impl_IsValidConstraint.j1 (k + 1) y0 y1 y2 y3 y4 y5 y6 y7 y8 y9)) ∧ (∀ y0 y1 y2 y3 y4 y5 y6 y7 y8 y9, LeO (impl_IsValidConstraint.j2 k y0 y1 y2 y3 y4 y5 y6 y7 y8 y9) (impl_IsValidConstraint.j2 (k + 1) y0 y1 y2 y3 y4 y5 y6 y7 y8 y9))
 | 0 => ⟨fun _ _ _ _ _ _ _ _ _ r h => by simp [impl_IsValidConstraint.j0] at h, fun _ _ _ _ _ _ _ _ _ _ r h => by simp [impl_IsValidConstraint.j1] at h, fun _ _ _ _ _ _ _ _ _ _ r h => by simp [impl_IsValidConstraint.j2] at h⟩
 | k + 1 => by
  obtain ⟨ih0, ih1, ih2⟩ := impl_IsValidConstraint.mono_l k
  refine ⟨?_, ?_, ?_⟩
  ·intro y0 y1 y2 y3 y4 y5 y6 y7 y8
   unfold impl_IsValidConstraint.j0
   repeat' first
   | with_reducible first | exact ih0 _ _ _ _ _ _ _ _ _ | exact ih1 _ _ _ _ _ _ _ _ _ _ | exact ih2 _ _ _ _ _ _ _ _ _ _ | exact impl_IsTerm.mono _ _ | exact impl_IsValidRegex.mono _ _ _ _ | exact slices_ContainsFunc_int_int.mono _ _ | exact LeO.refl _ | exact LeO.none _ | refine LeO.ite ?_ ?_ | refine LeO.bind ?_ (fun _ => ?_)
  ·intro y0 y1 y2 y3 y4 y5 y6 y7 y8 y9
   unfold impl_IsValidConstraint.j1
   repeat' first
   | with_reducible first | exact ih0 _ _ _ _ _ _ _ _ _ | exact ih1 _ _ _ _ _ _ _ _ _ _ | exact ih2 _ _ _ _ _ _ _ _ _ _ | exact impl_IsTerm.mono _ _ | exact impl_IsValidRegex.mono _ _ _ _ | exact slices_ContainsFunc_int_int.mono _ _ | exact LeO.refl _ | exact LeO.none _ | refine LeO.ite ?_ ?_ | refine LeO.bind ?_ (fun _ => ?_)
  ·intro y0 y1 y2 y3 y4 y5 y6 y7 y8 y9
   unfold impl_IsValidConstraint.j2
   repeat' first
   | with_reducible first | exact ih0 _ _ _ _ _ _ _ _ _ | exact ih1 _ _ _ _ _ _ _ _ _ _ | exact ih2 _ _ _ _ _ _ _ _ _ _ | exact impl_IsTerm.mono _ _ | exact impl_IsValidRegex.mono _ _ _ _ | exact slices_ContainsFunc_int_int.mono _ _ | exact LeO.refl _ | exact LeO.none _ | refine LeO.ite ?_ ?_ | refine LeO.bind ?_ (fun _ => ?_)
theorem impl_IsValidConstraint.mono : ∀ a0 a1 a2 a3 a4 a5 a6 a7 k, LeO (impl_IsValidConstraint.f k a0 a1 a2 a3 a4 a5 a6 a7) (impl_IsValidConstraint.f (k + 1) a0 a1 a2 a3 a4 a5 a6 a7) := by
 intro a0 a1 a2 a3 a4 a5 a6 a7 k
 obtain ⟨ih0, ih1, ih2⟩ := impl_IsValidConstraint.mono_l k
 unfold impl_IsValidConstraint.f
 repeat' first
   | with_reducible first | exact ih0 _ _ _ _ _ _ _ _ _ | exact ih1 _ _ _ _ _ _ _ _ _ _ | exact ih2 _ _ _ _ _ _ _ _ _ _ | exact impl_IsTerm.mono _ _ | exact impl_IsValidRegex.mono _ _ _ _ | exact slices_ContainsFunc_int_int.mono _ _ | exact LeO.refl _ | exact LeO.none _ | refine LeO.ite ?_ ?_ | refine LeO.bind ?_ (fun _ => ?_)
theorem impl_IsValidConstraint.calls (k : Nat) (a0_0 : Int) (a0_1 : ByteArray) (a0_2 : ByteArray) (a0_3 : Int) (a0_4 : ByteArray) (A0_5 : Option Addr) (c0_5 : Nat) (l0_5 : List (S35)) (A0_6 : Option Addr) (c0_6 : Nat) (l0_6 : List Int) (a0_7 : Int) (r : Bool) (w : World) (hr0_5 : Kd.C k35 w A0_5 l0_5.length l0_5) (hc0_5 : l0_5.length ≤ c0_5) (hr0_6 : Kd.C (Kd.int .i64) w A0_6 l0_6.length l0_6) (hc0_6 : l0_6.length ≤ c0_6) (h : impl_IsValidConstraint.f k a0_0 a0_1 a0_2 a0_3 a0_4 l0_5 l0_6 a0_7 = some r) :
  Calls Try.prog 24 #[.agg #[.int .i64 a0_0, .string a0_1, .string a0_2, .int .i64 a0_3, .string a0_4, .slice A0_5 l0_5.length c0_5, .slice A0_6 l0_6.length c0_6, .int .i64 a0_7]] w fun e w' => e = .returned (.bool r) ∧ Below w.heap.size w w' := by
 have hu37 := Try.underlying37
 have hu35 := Try.underlying35
 have HR0_5 := Aside0.mk hr0_5
 have HC0_5 := Aside0.mk hc0_5
 clear hr0_5 hc0_5
 have HR0_6 := Aside0.mk hr0_6
 have HC0_6 := Aside0.mk hc0_6
 clear hr0_6 hc0_6
 have HB := Aside0.mk (Below.refl w.heap.size w)
 have H : (if a0_0 = 5 then (impl_IsValidConstraint.j0 k false a0_0 a0_1 a0_2 a0_3 a0_4 l0_5 l0_6 a0_7) else (if (l0_6.length : Int) = 0 then (impl_IsValidConstraint.j0 k (a0_7 != 0) a0_0 a0_1 a0_2 a0_3 a0_4 l0_5 l0_6 a0_7) else (impl_IsValidConstraint.j0 k true a0_0 a0_1 a0_2 a0_3 a0_4 l0_5 l0_6 a0_7))) = some r := h
 clear h
 have HC2 := Aside0.mk H
 clear H
 go_enter Try.func24, Try.ntmps24
 go_upto_region 1 with (first | ((with_reducible refine gate_dst (N := 1) rfl ?_); (try (refine gate_guard (by rfl) ?_; dsimp only)); refine box_event ?hg (N := 1) ?hd (cs := #[.int .i64 a0_0, .string a0_1, .string a0_2, .int .i64 a0_3, .string a0_4, .slice A0_5 l0_5.length c0_5, .slice A0_6 l0_6.length c0_6, .int .i64 a0_7]) (t := 37) ?hr ?_; (case hd => rfl); (case hg => rfl); (case hr => first | (go_simp; done) | (go_simp; rfl)); intro gb24001 hg w3 hbox hb; have n0_ := Aside0.mk (below_step za2 hb); have n1_ := Aside0.mk (hbox); have n2_ := Aside0.mk ((by rw [hg]; exact (below_size za2) : w.heap.size ≤ gb24001)); have n3_ := Aside0.mk ((by rw [hg]; exact (below_size za2) : w.heap.size ≤ gb24001)); clear HB; have HB := n0_; have BK24001 := n1_; have GW24001 := n2_; have GE24001 := n3_; clear n0_ n1_ n2_ n3_; clear hb hbox hg))
 (try simp only [Act.put, List.setIfInBounds_toArray, List.set_cons_zero, List.set_cons_succ])
 go_cut [16] (fun v16 wc => ∃ (kq : Nat) (x16_1 : Bool), v16 = .bool x16_1 ∧ Aside0 (impl_IsValidConstraint.j0 kq x16_1 a0_0 a0_1 a0_2 a0_3 a0_4 l0_5 l0_6 a0_7 = some r) ∧ Aside0 (kq ≤ k) ∧ Aside0 (wc.heap[gb24001]? = some (.cells #[.int .i64 a0_0, .string a0_1, .string a0_2, .int .i64 a0_3, .string a0_4, (.slice A0_5 l0_5.length c0_5), (.slice A0_6 l0_6.length c0_6), .int .i64 a0_7] 37 (0, 0))) ∧ Aside0 (Below w.heap.size w wc))
 case first =>
  have H := HC2.out
  clear HC2
  by_cases c4 : a0_0 = 5
  ·rw [if_pos c4] at H
   have c4b0 : (a0_0 == 5) = true := beq_iff_eq.mpr c4
   have c4b1 : (a0_0 != 5) = false := bne_eq_false_iff_eq.mpr c4
   clear c4
   (first | rw [c4b0] | (simp only [i64_w, i32_w]; rw [c4b0]) | skip)
   have H' := Aside0.mk H
   clear H
   obtain ⟨hcz5_0, hcz5_1, hcz5_2, hcz5_3, hcz5_4, hcz5_5, hcz5_6, hcz5_7, hfz5_0, hfz5_1, hfz5_2, hfz5_3, hfz5_4, hfz5_5, hfz5_6, hfz5_7⟩ := blk8 BK24001.out
   go_wp2
   go_meet
   case rel => exact ⟨_, (false), za6, H', ⟨za18⟩, ⟨za0 BK24001.out⟩, ⟨za2⟩⟩
  rw [if_neg c4] at H
  have c4b0 : (a0_0 == 5) = false := beq_eq_false_iff_ne.mpr c4
  have c4b1 : (a0_0 != 5) = true := bne_iff_ne.mpr c4
  (first | rw [c4b0] | (simp only [i64_w, i32_w]; rw [c4b0]) | skip)
  by_cases c6 : (l0_6.length : Int) = 0
  ·rw [if_pos c6] at H
   have c6b0 : ((l0_6.length : Int) == 0) = true := beq_iff_eq.mpr c6
   have c6b1 : ((l0_6.length : Int) != 0) = false := bne_eq_false_iff_eq.mpr c6
   clear c6
   have H' := Aside0.mk H
   clear H
   obtain ⟨hcz7_0, hcz7_1, hcz7_2, hcz7_3, hcz7_4, hcz7_5, hcz7_6, hcz7_7, hfz7_0, hfz7_1, hfz7_2, hfz7_3, hfz7_4, hfz7_5, hfz7_6, hfz7_7⟩ := blk8 BK24001.out
   go_wp2
   go_meet
   case rel => exact ⟨_, ((a0_7 != 0)), za6, H', ⟨za18⟩, ⟨za0 BK24001.out⟩, ⟨za2⟩⟩
  ·rw [if_neg c6] at H
   have c6b0 : ((l0_6.length : Int) == 0) = false := beq_eq_false_iff_ne.mpr c6
   have c6b1 : ((l0_6.length : Int) != 0) = true := bne_iff_ne.mpr c6
   have c6b2 : ¬ (l0_6 = []) := fun h_ => c6 (by rw [h_]; rfl)
   have H' := Aside0.mk H
   clear H
   obtain ⟨hcz8_0, hcz8_1, hcz8_2, hcz8_3, hcz8_4, hcz8_5, hcz8_6, hcz8_7, hfz8_0, hfz8_1, hfz8_2, hfz8_3, hfz8_4, hfz8_5, hfz8_6, hfz8_7⟩ := blk8 BK24001.out
   go_wp2
   go_meet
   case rel => exact ⟨_, (true), za6, H', ⟨za18⟩, ⟨za0 BK24001.out⟩, ⟨za2⟩⟩
 case rest =>
  clear HC2
  obtain ⟨kq, x16_1, rfl, HA, HJ1, BK24001, HB⟩ := hcut
  cases kq with
  | zero => exact absurd HA.out (by simp [impl_IsValidConstraint.j0])
  | succ kj1 =>
  have H := HA.out
  clear HA
  simp only [impl_IsValidConstraint.j0] at H
  by_cases c9 : x16_1 = true
  ·subst c9
   have H1 : (some false) = some r := by rw [if_pos rfl] at H; exact H
   clear H
   have H := H1
   clear H1
   obtain rfl := Option.some.inj H
   go_wp2
   go_ret
   exact ⟨za5, za2⟩
  ·replace c9 := Bool.eq_false_iff.mpr c9
   subst c9
   have H1 : (if a0_0 = 1 then (impl_IsValidConstraint.j1 kj1 a0_0 (a0_0 == 1) a0_0 a0_1 a0_2 a0_3 a0_4 l0_5 l0_6 a0_7) else (impl_IsValidConstraint.j1 kj1 a0_0 (a0_0 == 2) a0_0 a0_1 a0_2 a0_3 a0_4 l0_5 l0_6 a0_7)) = some r := by rw [if_neg (show ¬ (false = true) by decide)] at H; exact H
   clear H
   have H := H1
   clear H1
   have HC10 := Aside0.mk H
   clear H
   obtain ⟨hcz11_0, hcz11_1, hcz11_2, hcz11_3, hcz11_4, hcz11_5, hcz11_6, hcz11_7, hfz11_0, hfz11_1, hfz11_2, hfz11_3, hfz11_4, hfz11_5, hfz11_6, hfz11_7⟩ := blk8 BK24001.out
   go_upto_if 19 with (fail)
   go_cut [19] (fun v19 wc => ∃ (kq : Nat) (x19_9 : Bool), v19 = .bool x19_9 ∧ Aside0 (impl_IsValidConstraint.j1 kq a0_0 x19_9 a0_0 a0_1 a0_2 a0_3 a0_4 l0_5 l0_6 a0_7 = some r) ∧ Aside0 (kq ≤ kj1) ∧ Aside0 (wc.heap[gb24001]? = some (.cells #[.int .i64 a0_0, .string a0_1, .string a0_2, .int .i64 a0_3, .string a0_4, (.slice A0_5 l0_5.length c0_5), (.slice A0_6 l0_6.length c0_6), .int .i64 a0_7] 37 (0, 0))) ∧ Aside0 (Below w.heap.size w wc))
   case first =>
    have H := HC10.out
    clear HC10
    by_cases c12 : a0_0 = 1
    ·rw [if_pos c12] at H
     have c12b0 : (a0_0 == 1) = true := beq_iff_eq.mpr c12
     have c12b1 : (a0_0 != 1) = false := bne_eq_false_iff_eq.mpr c12
     clear c12
     (first | rw [c12b0] | (simp only [i64_w, i32_w]; rw [c12b0]) | skip)
     have H' := Aside0.mk H
     clear H
     go_wp2
     go_meet
     case rel => exact ⟨_, ((a0_0 == 1)), za6, H', ⟨by have := HJ1.out; first | omega | exact Nat.le_refl _⟩, ⟨za0 BK24001.out⟩, ⟨za2⟩⟩
    ·rw [if_neg c12] at H
     have c12b0 : (a0_0 == 1) = false := beq_eq_false_iff_ne.mpr c12
     have c12b1 : (a0_0 != 1) = true := bne_iff_ne.mpr c12
     (first | rw [c12b0] | (simp only [i64_w, i32_w]; rw [c12b0]) | skip)
     have H' := Aside0.mk H
     clear H
     go_wp2
     go_meet
     case rel => exact ⟨_, ((a0_0 == 2)), za6, H', ⟨by have := HJ1.out; first | omega | exact Nat.le_refl _⟩, ⟨za0 BK24001.out⟩, ⟨za2⟩⟩
   case rest =>
    clear HC10
    try clear c9
    try clear hcz11_0
    try clear hcz11_1
    try clear hcz11_2
    try clear hcz11_3
    try clear hcz11_4
    try clear hcz11_5
    try clear hcz11_6
    try clear hcz11_7
    try clear hfz11_0
    try clear hfz11_1
    try clear hfz11_2
    try clear hfz11_3
    try clear hfz11_4
    try clear hfz11_5
    try clear hfz11_6
    try clear hfz11_7
    obtain ⟨kq, x19_9, rfl, HA, HJ9, BK24001, HB⟩ := hcut
    cases kq with
    | zero => exact absurd HA.out (by simp [impl_IsValidConstraint.j1])
    | succ kj9 =>
    have H := HA.out
    clear HA
    simp only [impl_IsValidConstraint.j1] at H
    by_cases c13 : x19_9 = true
    subst c13
    have H1 : ((impl_IsTerm.f kj9 a0_1).bind fun t24002 => (if t24002 = true then ((impl_IsTerm.f kj9 a0_2).bind fun t24003 => (if t24003 = true then ((impl_isZeroRegex.f a0_3 a0_4 l0_5).bind fun t24004 => (some t24004)) else (some false))) else (some false))) = some r := by rw [if_pos rfl] at H; exact H
    clear H
    have H := H1
    clear H1
    replace H := Option.bind_eq_some_iff.mp H
    obtain ⟨t24002, A140, H⟩ := H
    replace H : (if t24002 = true then ((impl_IsTerm.f kj9 a0_2).bind fun t24003 => (if t24003 = true then ((impl_isZeroRegex.f a0_3 a0_4 l0_5).bind fun t24004 => (some t24004)) else (some false))) else (some false)) = some r := H
    have A14 := Aside0.mk A140
    clear A140
    by_cases c15 : t24002 = true
    subst c15
    have H1 : ((impl_IsTerm.f kj9 a0_2).bind fun t24003 => (if t24003 = true then ((impl_isZeroRegex.f a0_3 a0_4 l0_5).bind fun t24004 => (some t24004)) else (some false))) = some r := by rw [if_pos rfl] at H; exact H
    clear H
    have H := H1
    clear H1
    replace H := Option.bind_eq_some_iff.mp H
    obtain ⟨t24003, A160, H⟩ := H
    replace H : (if t24003 = true then ((impl_isZeroRegex.f a0_3 a0_4 l0_5).bind fun t24004 => (some t24004)) else (some false)) = some r := H
    have A16 := Aside0.mk A160
    clear A160
    by_cases c17 : t24003 = true
    subst c17
    have H1 : ((impl_isZeroRegex.f a0_3 a0_4 l0_5).bind fun t24004 => (some t24004)) = some r := by rw [if_pos rfl] at H; exact H
    clear H
    have H := H1
    clear H1
    replace H := Option.bind_eq_some_iff.mp H
    obtain ⟨t24004, A180, H⟩ := H
    replace H : (some t24004) = some r := H
    have A18 := Aside0.mk A180
    clear A180
    rotate_left
    replace c17 := Bool.eq_false_iff.mpr c17
    subst c17
    have H1 : (some false) = some r := by rw [if_neg (show ¬ (false = true) by decide)] at H; exact H
    clear H
    have H := H1
    clear H1
    rotate_left
    replace c15 := Bool.eq_false_iff.mpr c15
    subst c15
    have H1 : (some false) = some r := by rw [if_neg (show ¬ (false = true) by decide)] at H; exact H
    clear H
    have H := H1
    clear H1
    rotate_left
    ·replace c13 := Bool.eq_false_iff.mpr c13
     subst c13
     have H1 : (if a0_0 = 3 then (impl_IsValidConstraint.j2 kj9 a0_0 (a0_0 == 3) a0_0 a0_1 a0_2 a0_3 a0_4 l0_5 l0_6 a0_7) else (impl_IsValidConstraint.j2 kj9 a0_0 (a0_0 == 4) a0_0 a0_1 a0_2 a0_3 a0_4 l0_5 l0_6 a0_7)) = some r := by rw [if_neg (show ¬ (false = true) by decide)] at H; exact H
     clear H
     have H := H1
     clear H1
     have HC23 := Aside0.mk H
     clear H
     go_upto_if 35 with (fail)
     go_cut [35] (fun v35 wc => ∃ (kq : Nat) (x35_22 : Bool), v35 = .bool x35_22 ∧ Aside0 (impl_IsValidConstraint.j2 kq a0_0 x35_22 a0_0 a0_1 a0_2 a0_3 a0_4 l0_5 l0_6 a0_7 = some r) ∧ Aside0 (kq ≤ kj9) ∧ Aside0 (wc.heap[gb24001]? = some (.cells #[.int .i64 a0_0, .string a0_1, .string a0_2, .int .i64 a0_3, .string a0_4, (.slice A0_5 l0_5.length c0_5), (.slice A0_6 l0_6.length c0_6), .int .i64 a0_7] 37 (0, 0))) ∧ Aside0 (Below w.heap.size w wc))
     case first =>
      have H := HC23.out
      clear HC23
      by_cases c24 : a0_0 = 3
      ·rw [if_pos c24] at H
       have c24b0 : (a0_0 == 3) = true := beq_iff_eq.mpr c24
       have c24b1 : (a0_0 != 3) = false := bne_eq_false_iff_eq.mpr c24
       clear c24
       (first | rw [c24b0] | (simp only [i64_w, i32_w]; rw [c24b0]) | skip)
       have H' := Aside0.mk H
       clear H
       go_wp2
       go_meet
       case rel => exact ⟨_, ((a0_0 == 3)), za6, H', ⟨by have := HJ1.out; have := HJ9.out; first | omega | exact Nat.le_refl _⟩, ⟨za0 BK24001.out⟩, ⟨za2⟩⟩
      ·rw [if_neg c24] at H
       have c24b0 : (a0_0 == 3) = false := beq_eq_false_iff_ne.mpr c24
       have c24b1 : (a0_0 != 3) = true := bne_iff_ne.mpr c24
       (first | rw [c24b0] | (simp only [i64_w, i32_w]; rw [c24b0]) | skip)
       have H' := Aside0.mk H
       clear H
       go_wp2
       go_meet
       case rel => exact ⟨_, ((a0_0 == 4)), za6, H', ⟨by have := HJ1.out; have := HJ9.out; first | omega | exact Nat.le_refl _⟩, ⟨za0 BK24001.out⟩, ⟨za2⟩⟩
     case rest =>
      clear HC23
      try clear c9
      try clear c13
      try clear hcz11_0
      try clear hcz11_1
      try clear hcz11_2
      try clear hcz11_3
      try clear hcz11_4
      try clear hcz11_5
      try clear hcz11_6
      try clear hcz11_7
      try clear hfz11_0
      try clear hfz11_1
      try clear hfz11_2
      try clear hfz11_3
      try clear hfz11_4
      try clear hfz11_5
      try clear hfz11_6
      try clear hfz11_7
      obtain ⟨kq, x35_22, rfl, HA, HJ22, BK24001, HB⟩ := hcut
      cases kq with
      | zero => exact absurd HA.out (by simp [impl_IsValidConstraint.j2])
      | succ kj22 =>
      have H := HA.out
      clear HA
      simp only [impl_IsValidConstraint.j2] at H
      by_cases c25 : x35_22 = true
      subst c25
      have H1 : ((impl_IsTerm.f kj22 a0_1).bind fun t24005 => (if t24005 = true then (if a0_2.toList = ([] : List UInt8) then ((impl_IsValidRegex.f kj22 a0_3 a0_4 l0_5).bind fun t24006 => (some t24006)) else (some false)) else (some false))) = some r := by rw [if_pos rfl] at H; exact H
      clear H
      have H := H1
      clear H1
      replace H := Option.bind_eq_some_iff.mp H
      obtain ⟨t24005, A260, H⟩ := H
      replace H : (if t24005 = true then (if a0_2.toList = ([] : List UInt8) then ((impl_IsValidRegex.f kj22 a0_3 a0_4 l0_5).bind fun t24006 => (some t24006)) else (some false)) else (some false)) = some r := H
      have A26 := Aside0.mk A260
      clear A260
      by_cases c27 : t24005 = true
      subst c27
      have H1 : (if a0_2.toList = ([] : List UInt8) then ((impl_IsValidRegex.f kj22 a0_3 a0_4 l0_5).bind fun t24006 => (some t24006)) else (some false)) = some r := by rw [if_pos rfl] at H; exact H
      clear H
      have H := H1
      clear H1
      by_cases c28 : a0_2.toList = ([] : List UInt8)
      rw [if_pos c28] at H
      have c28b0 : (a0_2.toList == ([] : List UInt8)) = true := beq_iff_eq.mpr c28
      have c28b1 : (a0_2.toList != ([] : List UInt8)) = false := bne_eq_false_iff_eq.mpr c28
      clear c28
      replace H := Option.bind_eq_some_iff.mp H
      obtain ⟨t24006, A290, H⟩ := H
      replace H : (some t24006) = some r := H
      have A29 := Aside0.mk A290
      clear A290
      rotate_left
      rw [if_neg c28] at H
      have c28b0 : (a0_2.toList == ([] : List UInt8)) = false := beq_eq_false_iff_ne.mpr c28
      have c28b1 : (a0_2.toList != ([] : List UInt8)) = true := bne_iff_ne.mpr c28
      rotate_left
      replace c27 := Bool.eq_false_iff.mpr c27
      subst c27
      have H1 : (some false) = some r := by rw [if_neg (show ¬ (false = true) by decide)] at H; exact H
      clear H
      have H := H1
      clear H1
      rotate_left
      replace c25 := Bool.eq_false_iff.mpr c25
      subst c25
      have H1 : (if a0_0 = 5 then (if a0_1.toList = ([] : List UInt8) then (if a0_2.toList = ([] : List UInt8) then ((impl_isZeroRegex.f a0_3 a0_4 l0_5).bind fun t24007 => (if t24007 = true then (if (l0_6.length : Int) = 3 then ((impl_within.f a0_7 (-99) 99).bind fun t24008 => (if t24008 = true then ((slices_ContainsFunc_int_int.f kj22 l0_6).bind fun t24009 => (some (!t24009))) else (some false))) else (some false)) else (some false))) else (some false)) else (some false)) else (some false)) = some r := by rw [if_neg (show ¬ (false = true) by decide)] at H; exact H
      clear H
      have H := H1
      clear H1
      by_cases c34 : a0_0 = 5
      rw [if_pos c34] at H
      have c34b0 : (a0_0 == 5) = true := beq_iff_eq.mpr c34
      have c34b1 : (a0_0 != 5) = false := bne_eq_false_iff_eq.mpr c34
      clear c34
      by_cases c35 : a0_1.toList = ([] : List UInt8)
      rw [if_pos c35] at H
      have c35b0 : (a0_1.toList == ([] : List UInt8)) = true := beq_iff_eq.mpr c35
      have c35b1 : (a0_1.toList != ([] : List UInt8)) = false := bne_eq_false_iff_eq.mpr c35
      clear c35
      by_cases c36 : a0_2.toList = ([] : List UInt8)
      rw [if_pos c36] at H
      have c36b0 : (a0_2.toList == ([] : List UInt8)) = true := beq_iff_eq.mpr c36
      have c36b1 : (a0_2.toList != ([] : List UInt8)) = false := bne_eq_false_iff_eq.mpr c36
      clear c36
      replace H := Option.bind_eq_some_iff.mp H
      obtain ⟨t24007, A370, H⟩ := H
      replace H : (if t24007 = true then (if (l0_6.length : Int) = 3 then ((impl_within.f a0_7 (-99) 99).bind fun t24008 => (if t24008 = true then ((slices_ContainsFunc_int_int.f kj22 l0_6).bind fun t24009 => (some (!t24009))) else (some false))) else (some false)) else (some false)) = some r := H
      have A37 := Aside0.mk A370
      clear A370
      by_cases c38 : t24007 = true
      subst c38
      have H1 : (if (l0_6.length : Int) = 3 then ((impl_within.f a0_7 (-99) 99).bind fun t24008 => (if t24008 = true then ((slices_ContainsFunc_int_int.f kj22 l0_6).bind fun t24009 => (some (!t24009))) else (some false))) else (some false)) = some r := by rw [if_pos rfl] at H; exact H
      clear H
      have H := H1
      clear H1
      by_cases c39 : (l0_6.length : Int) = 3
      rw [if_pos c39] at H
      have c39b0 : ((l0_6.length : Int) == 3) = true := beq_iff_eq.mpr c39
      have c39b1 : ((l0_6.length : Int) != 3) = false := bne_eq_false_iff_eq.mpr c39
      clear c39
      replace H := Option.bind_eq_some_iff.mp H
      obtain ⟨t24008, A400, H⟩ := H
      replace H : (if t24008 = true then ((slices_ContainsFunc_int_int.f kj22 l0_6).bind fun t24009 => (some (!t24009))) else (some false)) = some r := H
      have A40 := Aside0.mk A400
      clear A400
      by_cases c41 : t24008 = true
      subst c41
      have H1 : ((slices_ContainsFunc_int_int.f kj22 l0_6).bind fun t24009 => (some (!t24009))) = some r := by rw [if_pos rfl] at H; exact H
      clear H
      have H := H1
      clear H1
      replace H := Option.bind_eq_some_iff.mp H
      obtain ⟨t24009, A420, H⟩ := H
      replace H : (some (!t24009)) = some r := H
      have A42 := Aside0.mk A420
      clear A420
      rotate_left
      replace c41 := Bool.eq_false_iff.mpr c41
      subst c41
      have H1 : (some false) = some r := by rw [if_neg (show ¬ (false = true) by decide)] at H; exact H
      clear H
      have H := H1
      clear H1
      rotate_left
      rw [if_neg c39] at H
      have c39b0 : ((l0_6.length : Int) == 3) = false := beq_eq_false_iff_ne.mpr c39
      have c39b1 : ((l0_6.length : Int) != 3) = true := bne_iff_ne.mpr c39
      rotate_left
      replace c38 := Bool.eq_false_iff.mpr c38
      subst c38
      have H1 : (some false) = some r := by rw [if_neg (show ¬ (false = true) by decide)] at H; exact H
      clear H
      have H := H1
      clear H1
      rotate_left
      rw [if_neg c36] at H
      have c36b0 : (a0_2.toList == ([] : List UInt8)) = false := beq_eq_false_iff_ne.mpr c36
      have c36b1 : (a0_2.toList != ([] : List UInt8)) = true := bne_iff_ne.mpr c36
      rotate_left
      rw [if_neg c35] at H
      have c35b0 : (a0_1.toList == ([] : List UInt8)) = false := beq_eq_false_iff_ne.mpr c35
      have c35b1 : (a0_1.toList != ([] : List UInt8)) = true := bne_iff_ne.mpr c35
      rotate_left
      ·rw [if_neg c34] at H
       have c34b0 : (a0_0 == 5) = false := beq_eq_false_iff_ne.mpr c34
       have c34b1 : (a0_0 != 5) = true := bne_iff_ne.mpr c34
       obtain rfl := Option.some.inj H
       go_wp2
       go_ret
       exact ⟨za5, za2⟩
      all_goals
       obtain rfl := Option.some.inj H
       obtain ⟨hcz43_0, hcz43_1, hcz43_2, hcz43_3, hcz43_4, hcz43_5, hcz43_6, hcz43_7, hfz43_0, hfz43_1, hfz43_2, hfz43_3, hfz43_4, hfz43_5, hfz43_6, hfz43_7⟩ := blk8 BK24001.out
       go_wp2_with (first | (go_at_call 53; (with_reducible refine (impl_isZeroRegex.calls a0_3 a0_4 _ _ l0_5 _ _ ?side1 ?side2 A37.out).mono ?_); (case side1 => repeat (first | exact (Kd.C_below HR0_5.out HB.out) | (with_reducible refine Kd.C_alloc ?_ _) | (with_reducible refine Kd.C_drewN ?_ _) | (with_reducible refine Kd.C_drew ?_))); (case side2 => exact HC0_5.out); rintro e w44 ⟨rfl, hb⟩; have n0_ := Aside0.mk (blk_below (g := gb24001) (o := .cells #[.int .i64 a0_0, .string a0_1, .string a0_2, .int .i64 a0_3, .string a0_4, .slice A0_5 l0_5.length c0_5, .slice A0_6 l0_6.length c0_6, .int .i64 a0_7] 37 (0, 0)) (za0 BK24001.out) hb); have n1_ := Aside0.mk (below_step za2 hb); clear BK24001; clear HB; have BK24001 := n0_; have HB := n1_; clear n0_ n1_; (try clear hb); (try clear hb2); (try clear hk); (try clear hi); obtain ⟨hcz45_0, hcz45_1, hcz45_2, hcz45_3, hcz45_4, hcz45_5, hcz45_6, hcz45_7, hfz45_0, hfz45_1, hfz45_2, hfz45_3, hfz45_4, hfz45_5, hfz45_6, hfz45_7⟩ := blk8 BK24001.out) | (go_at_call 55; (with_reducible refine (impl_within.calls a0_7 (-99) 99 _ _ A40.out).mono ?_); rintro e w' ⟨rfl, ⟨nd, rfl⟩⟩) | ((with_reducible refine gate_callee (f := 56) rfl ?_); refine goesL_ (some 81) rfl rfl Try.func56 (by kernel_rfl) rfl #[.slice A0_6 l0_6.length c0_6, .func (.func 57) #[] #[]] rfl za3 ?_; (with_reducible refine (slices_ContainsFunc_int_int.calls kj22 _ _ l0_6 t24009 _ ?side1 ?side2 A42.out).mono ?_); (case side1 => repeat (first | exact (Kd.C_below HR0_6.out za2) | (with_reducible refine Kd.C_alloc ?_ _) | (with_reducible refine Kd.C_drewN ?_ _) | (with_reducible refine Kd.C_drew ?_))); (case side2 => exact HC0_6.out); rintro e w' ⟨rfl, ⟨nd, rfl⟩⟩; refine ⟨_, rfl, ?_⟩) | ((with_reducible refine gate_callee (f := 52) rfl ?_); refine goesL_ (some 40) rfl rfl Try.func52 (by kernel_rfl) rfl #[.string a0_1] rfl za3 ?_; (with_reducible refine (impl_IsTerm.calls kj22 a0_1 _ _ A26.out).mono ?_); rintro e w' ⟨rfl, ⟨nd, rfl⟩⟩; refine ⟨_, rfl, ?_⟩) | (go_at_call 54; (with_reducible refine (impl_IsValidRegex.calls kj22 a0_3 a0_4 _ _ l0_5 t24006 _ ?side1 ?side2 A29.out).mono ?_); (case side1 => repeat (first | exact (Kd.C_below HR0_5.out za2) | (with_reducible refine Kd.C_alloc ?_ _) | (with_reducible refine Kd.C_drewN ?_ _) | (with_reducible refine Kd.C_drew ?_))); (case side2 => exact HC0_5.out); rintro e w31 ⟨rfl, hb⟩; have n0_ := Aside0.mk (blk_below (g := gb24001) (o := .cells #[.int .i64 a0_0, .string a0_1, .string a0_2, .int .i64 a0_3, .string a0_4, .slice A0_5 l0_5.length c0_5, .slice A0_6 l0_6.length c0_6, .int .i64 a0_7] 37 (0, 0)) (za0 BK24001.out) hb); have n1_ := Aside0.mk (below_step za2 hb); clear BK24001; clear HB; have BK24001 := n0_; have HB := n1_; clear n0_ n1_; (try clear hb); (try clear hb2); (try clear hk); (try clear hi)))
       go_ret
       exact ⟨za5, za2⟩
    all_goals
     obtain rfl := Option.some.inj H
     obtain ⟨hcz19_0, hcz19_1, hcz19_2, hcz19_3, hcz19_4, hcz19_5, hcz19_6, hcz19_7, hfz19_0, hfz19_1, hfz19_2, hfz19_3, hfz19_4, hfz19_5, hfz19_6, hfz19_7⟩ := blk8 BK24001.out
     go_wp2_with (first | ((with_reducible refine gate_callee (f := 52) rfl ?_); refine goesL_ (some 24) rfl rfl Try.func52 (by kernel_rfl) rfl #[.string a0_1] rfl za3 ?_; (with_reducible refine (impl_IsTerm.calls kj9 a0_1 _ _ A14.out).mono ?_); rintro e w' ⟨rfl, ⟨nd, rfl⟩⟩; refine ⟨_, rfl, ?_⟩) | (go_at_call 52; (with_reducible refine (impl_IsTerm.calls kj9 a0_2 _ _ A16.out).mono ?_); rintro e w' ⟨rfl, ⟨nd, rfl⟩⟩) | (go_at_call 53; (with_reducible refine (impl_isZeroRegex.calls a0_3 a0_4 _ _ l0_5 t24004 _ ?side1 ?side2 A18.out).mono ?_); (case side1 => repeat (first | exact (Kd.C_below HR0_5.out za2) | (with_reducible refine Kd.C_alloc ?_ _) | (with_reducible refine Kd.C_drewN ?_ _) | (with_reducible refine Kd.C_drew ?_))); (case side2 => exact HC0_5.out); rintro e w20 ⟨rfl, hb⟩; have n0_ := Aside0.mk (blk_below (g := gb24001) (o := .cells #[.int .i64 a0_0, .string a0_1, .string a0_2, .int .i64 a0_3, .string a0_4, .slice A0_5 l0_5.length c0_5, .slice A0_6 l0_6.length c0_6, .int .i64 a0_7] 37 (0, 0)) (za0 BK24001.out) hb); have n1_ := Aside0.mk (below_step za2 hb); clear BK24001; clear HB; have BK24001 := n0_; have HB := n1_; clear n0_ n1_; (try clear hb); (try clear hb2); (try clear hk); (try clear hi)))
     go_ret
     exact ⟨za5, za2⟩
end Go.Proofs.Ytffjfdoghofkdaa.A
namespace Go.Proofs.Ytffjfdoghofkdaa.A
open Go.RowKit Go.Proofs.Ytffjfdoghofkdaa.Ext Go.Proofs.YtffjfdoghofkdaaW.PrintWords Go.Proofs.YtffjfdoghofkdaaW.PrintLast Go.Proofs.YtffjfdoghofkdaaW.PrintMore
attribute [local go_sem] max2_int min2_int max_two min_two max_three min_three max_four min_four
def impl_holds.f (a0_0 : Int) (a0_1 : ByteArray) (a0_2 : ByteArray) (a0_3 : Int) (a0_4 : ByteArray) (l0_5 : List (S35)) (l0_6 : List Int) (a0_7 : Int) (a1_0 : ByteArray) (a1_1 : ByteArray) (a1_2 : ByteArray) : Option (Bool) := (impl_ApplyValues.f a0_1 a1_0 a1_1 a1_2).bind fun t26003 => (if a0_0 = 1 then ((impl_ApplyValues.f a0_2 a1_0 a1_1 a1_2).bind fun t26004 => (some (t26003.toList == t26004.toList))) else (if a0_0 = 2 then ((impl_ApplyValues.f a0_2 a1_0 a1_1 a1_2).bind fun t26005 => (some (t26003.toList != t26005.toList))) else (if a0_0 = 3 then ((impl_matches.f a0_3 a0_4 l0_5 t26003).bind fun t26006 => (some t26006)) else (if a0_0 = 4 then ((impl_matches.f a0_3 a0_4 l0_5 t26003).bind fun t26007 => (some (!t26007))) else (if 0 < (l0_6.length : Int) then (if 1 < (l0_6.length : Int) then (if 2 < (l0_6.length : Int) then (some (decide ((wrap64 ((wrap64 ((wrap64 ((rd l0_6 0) * (a1_0.size : Int))) + (wrap64 ((rd l0_6 1) * (a1_1.size : Int))))) + (wrap64 ((rd l0_6 2) * (a1_2.size : Int))))) ≤ a0_7))) else (none)) else (none)) else (none))))))
theorem impl_holds.calls (a0_0 : Int) (a0_1 : ByteArray) (a0_2 : ByteArray) (a0_3 : Int) (a0_4 : ByteArray) (A0_5 : Option Addr) (c0_5 : Nat) (l0_5 : List (S35)) (A0_6 : Option Addr) (c0_6 : Nat) (l0_6 : List Int) (a0_7 : Int) (a1_0 : ByteArray) (a1_1 : ByteArray) (a1_2 : ByteArray) (r : Bool) (w : World) (hr0_5 : Kd.C k35 w A0_5 l0_5.length l0_5) (hc0_5 : l0_5.length ≤ c0_5) (hr0_6 : Kd.C (Kd.int .i64) w A0_6 l0_6.length l0_6) (hc0_6 : l0_6.length ≤ c0_6) (h : impl_holds.f a0_0 a0_1 a0_2 a0_3 a0_4 l0_5 l0_6 a0_7 a1_0 a1_1 a1_2 = some r) :
  Calls Try.prog 26 #[.agg #[.int .i64 a0_0, .string a0_1, .string a0_2, .int .i64 a0_3, .string a0_4, .slice A0_5 l0_5.length c0_5, .slice A0_6 l0_6.length c0_6, .int .i64 a0_7], .agg #[.string a1_0, .string a1_1, .string a1_2]] w fun e w' => e = .returned (.bool r) ∧ Below w.heap.size w w' := by
 have hu37 := Try.underlying37
 have hu39 := Try.underlying39
 have hu35 := Try.underlying35
 have HR0_5 := Aside0.mk hr0_5
 have HC0_5 := Aside0.mk hc0_5
 clear hr0_5 hc0_5
 have HR0_6 := Aside0.mk hr0_6
 have HC0_6 := Aside0.mk hc0_6
 clear hr0_6 hc0_6
 have HB := Aside0.mk (Below.refl w.heap.size w)
 have H : ((impl_ApplyValues.f a0_1 a1_0 a1_1 a1_2).bind fun t26003 => (if a0_0 = 1 then ((impl_ApplyValues.f a0_2 a1_0 a1_1 a1_2).bind fun t26004 => (some (t26003.toList == t26004.toList))) else (if a0_0 = 2 then ((impl_ApplyValues.f a0_2 a1_0 a1_1 a1_2).bind fun t26005 => (some (t26003.toList != t26005.toList))) else (if a0_0 = 3 then ((impl_matches.f a0_3 a0_4 l0_5 t26003).bind fun t26006 => (some t26006)) else (if a0_0 = 4 then ((impl_matches.f a0_3 a0_4 l0_5 t26003).bind fun t26007 => (some (!t26007))) else (if 0 < (l0_6.length : Int) then (if 1 < (l0_6.length : Int) then (if 2 < (l0_6.length : Int) then (some (decide ((wrap64 ((wrap64 ((wrap64 ((rd l0_6 0) * (a1_0.size : Int))) + (wrap64 ((rd l0_6 1) * (a1_1.size : Int))))) + (wrap64 ((rd l0_6 2) * (a1_2.size : Int))))) ≤ a0_7))) else (none)) else (none)) else (none))))))) = some r := h
 clear h
 replace H := Option.bind_eq_some_iff.mp H
 obtain ⟨t26003, A30, H⟩ := H
 replace H : (if a0_0 = 1 then ((impl_ApplyValues.f a0_2 a1_0 a1_1 a1_2).bind fun t26004 => (some (t26003.toList == t26004.toList))) else (if a0_0 = 2 then ((impl_ApplyValues.f a0_2 a1_0 a1_1 a1_2).bind fun t26005 => (some (t26003.toList != t26005.toList))) else (if a0_0 = 3 then ((impl_matches.f a0_3 a0_4 l0_5 t26003).bind fun t26006 => (some t26006)) else (if a0_0 = 4 then ((impl_matches.f a0_3 a0_4 l0_5 t26003).bind fun t26007 => (some (!t26007))) else (if 0 < (l0_6.length : Int) then (if 1 < (l0_6.length : Int) then (if 2 < (l0_6.length : Int) then (some (decide ((wrap64 ((wrap64 ((wrap64 ((rd l0_6 0) * (a1_0.size : Int))) + (wrap64 ((rd l0_6 1) * (a1_1.size : Int))))) + (wrap64 ((rd l0_6 2) * (a1_2.size : Int))))) ≤ a0_7))) else (none)) else (none)) else (none)))))) = some r := H
 have A3 := Aside0.mk A30
 clear A30
 by_cases c4 : a0_0 = 1
 ·rw [if_pos c4] at H
  have c4b0 : (a0_0 == 1) = true := beq_iff_eq.mpr c4
  have c4b1 : (a0_0 != 1) = false := bne_eq_false_iff_eq.mpr c4
  clear c4
  replace H := Option.bind_eq_some_iff.mp H
  obtain ⟨t26004, A50, H⟩ := H
  replace H : (some (t26003.toList == t26004.toList)) = some r := H
  have A5 := Aside0.mk A50
  clear A50
  obtain rfl := Option.some.inj H
  go_enter Try.func26, Try.ntmps26
  go_wp2_with (first | ((with_reducible refine gate_dst (N := 2) rfl ?_); refine box_event ?hg (N := 2) ?hd (cs := #[.int .i64 a0_0, .string a0_1, .string a0_2, .int .i64 a0_3, .string a0_4, .slice A0_5 l0_5.length c0_5, .slice A0_6 l0_6.length c0_6, .int .i64 a0_7]) (t := 37) ?hr ?_; (case hd => rfl); (case hg => rfl); (case hr => first | (go_simp; done) | (go_simp; rfl)); intro gb26001 hg w6 hbox hb; have n0_ := Aside0.mk (below_step za2 hb); have n1_ := Aside0.mk (hbox); have n2_ := Aside0.mk ((by rw [hg]; exact (below_size za2) : w.heap.size ≤ gb26001)); have n3_ := Aside0.mk ((by rw [hg]; exact (below_size za2) : w.heap.size ≤ gb26001)); clear HB; have HB := n0_; have BK26001 := n1_; have GW26001 := n2_; have GE26001 := n3_; clear n0_ n1_ n2_ n3_; clear hb hbox hg) | ((with_reducible refine gate_dst (N := 3) rfl ?_); refine box_event ?hg (N := 3) ?hd (cs := #[.string a1_0, .string a1_1, .string a1_2]) (t := 39) ?hr ?_; (case hd => rfl); (case hg => rfl); (case hr => first | (go_simp; done) | (go_simp; rfl)); intro gb26002 hg w7 hbox hb; have n0_ := Aside0.mk (blk_below (g := gb26001) (o := .cells #[.int .i64 a0_0, .string a0_1, .string a0_2, .int .i64 a0_3, .string a0_4, .slice A0_5 l0_5.length c0_5, .slice A0_6 l0_6.length c0_6, .int .i64 a0_7] 37 (0, 0)) (za0 BK26001.out) hb); have n1_ := Aside0.mk (below_step za2 hb); have n2_ := Aside0.mk (hbox); have n3_ := Aside0.mk ((by rw [hg]; exact (below_size za2) : w.heap.size ≤ gb26002)); have n4_ := Aside0.mk ((by rw [hg]; exact (below_size za2) : w.heap.size ≤ gb26002)); have n5_ := Aside0.mk ((by rw [hg]; exact Nat.ne_of_lt (blk_lt (g := gb26001) (o := .cells #[.int .i64 a0_0, .string a0_1, .string a0_2, .int .i64 a0_3, .string a0_4, .slice A0_5 l0_5.length c0_5, .slice A0_6 l0_6.length c0_6, .int .i64 a0_7] 37 (0, 0)) (za0 BK26001.out)) : gb26001 ≠ gb26002)); have n6_ := Aside0.mk ((by rw [hg]; exact Nat.ne_of_gt (blk_lt (g := gb26001) (o := .cells #[.int .i64 a0_0, .string a0_1, .string a0_2, .int .i64 a0_3, .string a0_4, .slice A0_5 l0_5.length c0_5, .slice A0_6 l0_6.length c0_6, .int .i64 a0_7] 37 (0, 0)) (za0 BK26001.out)) : gb26002 ≠ gb26001)); clear BK26001; clear HB; have BK26001 := n0_; have HB := n1_; have BK26002 := n2_; have GW26002 := n3_; have GE26002 := n4_; have NB26001_26002 := n5_; have NB26002_26001 := n6_; clear n0_ n1_ n2_ n3_ n4_ n5_ n6_; clear hb hbox hg; have hnb8 := NB26001_26002.out; have hnc8 := NB26002_26001.out; obtain ⟨hcz9_0, hcz9_1, hcz9_2, hcz9_3, hcz9_4, hcz9_5, hcz9_6, hcz9_7, hfz9_0, hfz9_1, hfz9_2, hfz9_3, hfz9_4, hfz9_5, hfz9_6, hfz9_7⟩ := blk8 BK26001.out; obtain ⟨hcz10_0, hcz10_1, hcz10_2, hfz10_0, hfz10_1, hfz10_2⟩ := blk3 BK26002.out) | (go_at_call 59; (with_reducible refine (impl_ApplyValues.calls a0_1 a1_0 a1_1 a1_2 t26003 _ A3.out).mono ?_); rintro e w11 ⟨rfl, hb⟩; have n0_ := Aside0.mk (blk_below (g := gb26001) (o := .cells #[.int .i64 a0_0, .string a0_1, .string a0_2, .int .i64 a0_3, .string a0_4, .slice A0_5 l0_5.length c0_5, .slice A0_6 l0_6.length c0_6, .int .i64 a0_7] 37 (0, 0)) (za0 BK26001.out) hb); have n1_ := Aside0.mk (blk_below (g := gb26002) (o := .cells #[.string a1_0, .string a1_1, .string a1_2] 39 (0, 0)) (za0 BK26002.out) hb); have n2_ := Aside0.mk (below_step za2 hb); clear BK26001; clear BK26002; clear HB; have BK26001 := n0_; have BK26002 := n1_; have HB := n2_; clear n0_ n1_ n2_; (try clear hb); (try clear hb2); (try clear hk); (try clear hi); obtain ⟨hcz12_0, hcz12_1, hcz12_2, hcz12_3, hcz12_4, hcz12_5, hcz12_6, hcz12_7, hfz12_0, hfz12_1, hfz12_2, hfz12_3, hfz12_4, hfz12_5, hfz12_6, hfz12_7⟩ := blk8 BK26001.out; obtain ⟨hcz13_0, hcz13_1, hcz13_2, hfz13_0, hfz13_1, hfz13_2⟩ := blk3 BK26002.out) | (go_at_call 59; (with_reducible refine (impl_ApplyValues.calls a0_2 a1_0 a1_1 a1_2 t26004 _ A5.out).mono ?_); rintro e w14 ⟨rfl, hb⟩; have n0_ := Aside0.mk (blk_below (g := gb26001) (o := .cells #[.int .i64 a0_0, .string a0_1, .string a0_2, .int .i64 a0_3, .string a0_4, .slice A0_5 l0_5.length c0_5, .slice A0_6 l0_6.length c0_6, .int .i64 a0_7] 37 (0, 0)) (za0 BK26001.out) hb); have n1_ := Aside0.mk (blk_below (g := gb26002) (o := .cells #[.string a1_0, .string a1_1, .string a1_2] 39 (0, 0)) (za0 BK26002.out) hb); have n2_ := Aside0.mk (below_step za2 hb); clear BK26001; clear BK26002; clear HB; have BK26001 := n0_; have BK26002 := n1_; have HB := n2_; clear n0_ n1_ n2_; (try clear hb); (try clear hb2); (try clear hk); (try clear hi)))
  repeat (go_quiet (first | ((with_reducible refine gate_dst (N := 2) rfl ?_); refine box_event ?hg (N := 2) ?hd (cs := #[.int .i64 a0_0, .string a0_1, .string a0_2, .int .i64 a0_3, .string a0_4, .slice A0_5 l0_5.length c0_5, .slice A0_6 l0_6.length c0_6, .int .i64 a0_7]) (t := 37) ?hr ?_; (case hd => rfl); (case hg => rfl); (case hr => first | (go_simp; done) | (go_simp; rfl)); intro gb26001 hg w6 hbox hb; have n0_ := Aside0.mk (below_step za2 hb); have n1_ := Aside0.mk (hbox); have n2_ := Aside0.mk ((by rw [hg]; exact (below_size za2) : w.heap.size ≤ gb26001)); have n3_ := Aside0.mk ((by rw [hg]; exact (below_size za2) : w.heap.size ≤ gb26001)); clear HB; have HB := n0_; have BK26001 := n1_; have GW26001 := n2_; have GE26001 := n3_; clear n0_ n1_ n2_ n3_; clear hb hbox hg) | ((with_reducible refine gate_dst (N := 3) rfl ?_); refine box_event ?hg (N := 3) ?hd (cs := #[.string a1_0, .string a1_1, .string a1_2]) (t := 39) ?hr ?_; (case hd => rfl); (case hg => rfl); (case hr => first | (go_simp; done) | (go_simp; rfl)); intro gb26002 hg w7 hbox hb; have n0_ := Aside0.mk (blk_below (g := gb26001) (o := .cells #[.int .i64 a0_0, .string a0_1, .string a0_2, .int .i64 a0_3, .string a0_4, .slice A0_5 l0_5.length c0_5, .slice A0_6 l0_6.length c0_6, .int .i64 a0_7] 37 (0, 0)) (za0 BK26001.out) hb); have n1_ := Aside0.mk (below_step za2 hb); have n2_ := Aside0.mk (hbox); have n3_ := Aside0.mk ((by rw [hg]; exact (below_size za2) : w.heap.size ≤ gb26002)); have n4_ := Aside0.mk ((by rw [hg]; exact (below_size za2) : w.heap.size ≤ gb26002)); have n5_ := Aside0.mk ((by rw [hg]; exact Nat.ne_of_lt (blk_lt (g := gb26001) (o := .cells #[.int .i64 a0_0, .string a0_1, .string a0_2, .int .i64 a0_3, .string a0_4, .slice A0_5 l0_5.length c0_5, .slice A0_6 l0_6.length c0_6, .int .i64 a0_7] 37 (0, 0)) (za0 BK26001.out)) : gb26001 ≠ gb26002)); have n6_ := Aside0.mk ((by rw [hg]; exact Nat.ne_of_gt (blk_lt (g := gb26001) (o := .cells #[.int .i64 a0_0, .string a0_1, .string a0_2, .int .i64 a0_3, .string a0_4, .slice A0_5 l0_5.length c0_5, .slice A0_6 l0_6.length c0_6, .int .i64 a0_7] 37 (0, 0)) (za0 BK26001.out)) : gb26002 ≠ gb26001)); clear BK26001; clear HB; have BK26001 := n0_; have HB := n1_; have BK26002 := n2_; have GW26002 := n3_; have GE26002 := n4_; have NB26001_26002 := n5_; have NB26002_26001 := n6_; clear n0_ n1_ n2_ n3_ n4_ n5_ n6_; clear hb hbox hg; have hnb8 := NB26001_26002.out; have hnc8 := NB26002_26001.out; obtain ⟨hcz9_0, hcz9_1, hcz9_2, hcz9_3, hcz9_4, hcz9_5, hcz9_6, hcz9_7, hfz9_0, hfz9_1, hfz9_2, hfz9_3, hfz9_4, hfz9_5, hfz9_6, hfz9_7⟩ := blk8 BK26001.out; obtain ⟨hcz10_0, hcz10_1, hcz10_2, hfz10_0, hfz10_1, hfz10_2⟩ := blk3 BK26002.out) | (go_at_call 59; (with_reducible refine (impl_ApplyValues.calls a0_1 a1_0 a1_1 a1_2 t26003 _ A3.out).mono ?_); rintro e w11 ⟨rfl, hb⟩; have n0_ := Aside0.mk (blk_below (g := gb26001) (o := .cells #[.int .i64 a0_0, .string a0_1, .string a0_2, .int .i64 a0_3, .string a0_4, .slice A0_5 l0_5.length c0_5, .slice A0_6 l0_6.length c0_6, .int .i64 a0_7] 37 (0, 0)) (za0 BK26001.out) hb); have n1_ := Aside0.mk (blk_below (g := gb26002) (o := .cells #[.string a1_0, .string a1_1, .string a1_2] 39 (0, 0)) (za0 BK26002.out) hb); have n2_ := Aside0.mk (below_step za2 hb); clear BK26001; clear BK26002; clear HB; have BK26001 := n0_; have BK26002 := n1_; have HB := n2_; clear n0_ n1_ n2_; (try clear hb); (try clear hb2); (try clear hk); (try clear hi); obtain ⟨hcz12_0, hcz12_1, hcz12_2, hcz12_3, hcz12_4, hcz12_5, hcz12_6, hcz12_7, hfz12_0, hfz12_1, hfz12_2, hfz12_3, hfz12_4, hfz12_5, hfz12_6, hfz12_7⟩ := blk8 BK26001.out; obtain ⟨hcz13_0, hcz13_1, hcz13_2, hfz13_0, hfz13_1, hfz13_2⟩ := blk3 BK26002.out) | (go_at_call 59; (with_reducible refine (impl_ApplyValues.calls a0_2 a1_0 a1_1 a1_2 t26004 _ A5.out).mono ?_); rintro e w14 ⟨rfl, hb⟩; have n0_ := Aside0.mk (blk_below (g := gb26001) (o := .cells #[.int .i64 a0_0, .string a0_1, .string a0_2, .int .i64 a0_3, .string a0_4, .slice A0_5 l0_5.length c0_5, .slice A0_6 l0_6.length c0_6, .int .i64 a0_7] 37 (0, 0)) (za0 BK26001.out) hb); have n1_ := Aside0.mk (blk_below (g := gb26002) (o := .cells #[.string a1_0, .string a1_1, .string a1_2] 39 (0, 0)) (za0 BK26002.out) hb); have n2_ := Aside0.mk (below_step za2 hb); clear BK26001; clear BK26002; clear HB; have BK26001 := n0_; have BK26002 := n1_; have HB := n2_; clear n0_ n1_ n2_; (try clear hb); (try clear hb2); (try clear hk); (try clear hi))); try go_wp2_with (first | ((with_reducible refine gate_dst (N := 2) rfl ?_); refine box_event ?hg (N := 2) ?hd (cs := #[.int .i64 a0_0, .string a0_1, .string a0_2, .int .i64 a0_3, .string a0_4, .slice A0_5 l0_5.length c0_5, .slice A0_6 l0_6.length c0_6, .int .i64 a0_7]) (t := 37) ?hr ?_; (case hd => rfl); (case hg => rfl); (case hr => first | (go_simp; done) | (go_simp; rfl)); intro gb26001 hg w6 hbox hb; have n0_ := Aside0.mk (below_step za2 hb); have n1_ := Aside0.mk (hbox); have n2_ := Aside0.mk ((by rw [hg]; exact (below_size za2) : w.heap.size ≤ gb26001)); have n3_ := Aside0.mk ((by rw [hg]; exact (below_size za2) : w.heap.size ≤ gb26001)); clear HB; have HB := n0_; have BK26001 := n1_; have GW26001 := n2_; have GE26001 := n3_; clear n0_ n1_ n2_ n3_; clear hb hbox hg) | ((with_reducible refine gate_dst (N := 3) rfl ?_); refine box_event ?hg (N := 3) ?hd (cs := #[.string a1_0, .string a1_1, .string a1_2]) (t := 39) ?hr ?_; (case hd => rfl); (case hg => rfl); (case hr => first | (go_simp; done) | (go_simp; rfl)); intro gb26002 hg w7 hbox hb; have n0_ := Aside0.mk (blk_below (g := gb26001) (o := .cells #[.int .i64 a0_0, .string a0_1, .string a0_2, .int .i64 a0_3, .string a0_4, .slice A0_5 l0_5.length c0_5, .slice A0_6 l0_6.length c0_6, .int .i64 a0_7] 37 (0, 0)) (za0 BK26001.out) hb); have n1_ := Aside0.mk (below_step za2 hb); have n2_ := Aside0.mk (hbox); have n3_ := Aside0.mk ((by rw [hg]; exact (below_size za2) : w.heap.size ≤ gb26002)); have n4_ := Aside0.mk ((by rw [hg]; exact (below_size za2) : w.heap.size ≤ gb26002)); have n5_ := Aside0.mk ((by rw [hg]; exact Nat.ne_of_lt (blk_lt (g := gb26001) (o := .cells #[.int .i64 a0_0, .string a0_1, .string a0_2, .int .i64 a0_3, .string a0_4, .slice A0_5 l0_5.length c0_5, .slice A0_6 l0_6.length c0_6, .int .i64 a0_7] 37 (0, 0)) (za0 BK26001.out)) : gb26001 ≠ gb26002)); have n6_ := Aside0.mk ((by rw [hg]; exact Nat.ne_of_gt (blk_lt (g := gb26001) (o := .cells #[.int .i64 a0_0, .string a0_1, .string a0_2, .int .i64 a0_3, .string a0_4, .slice A0_5 l0_5.length c0_5, .slice A0_6 l0_6.length c0_6, .int .i64 a0_7] 37 (0, 0)) (za0 BK26001.out)) : gb26002 ≠ gb26001)); clear BK26001; clear HB; have BK26001 := n0_; have HB := n1_; have BK26002 := n2_; have GW26002 := n3_; have GE26002 := n4_; have NB26001_26002 := n5_; have NB26002_26001 := n6_; clear n0_ n1_ n2_ n3_ n4_ n5_ n6_; clear hb hbox hg; have hnb8 := NB26001_26002.out; have hnc8 := NB26002_26001.out; obtain ⟨hcz9_0, hcz9_1, hcz9_2, hcz9_3, hcz9_4, hcz9_5, hcz9_6, hcz9_7, hfz9_0, hfz9_1, hfz9_2, hfz9_3, hfz9_4, hfz9_5, hfz9_6, hfz9_7⟩ := blk8 BK26001.out; obtain ⟨hcz10_0, hcz10_1, hcz10_2, hfz10_0, hfz10_1, hfz10_2⟩ := blk3 BK26002.out) | (go_at_call 59; (with_reducible refine (impl_ApplyValues.calls a0_1 a1_0 a1_1 a1_2 t26003 _ A3.out).mono ?_); rintro e w11 ⟨rfl, hb⟩; have n0_ := Aside0.mk (blk_below (g := gb26001) (o := .cells #[.int .i64 a0_0, .string a0_1, .string a0_2, .int .i64 a0_3, .string a0_4, .slice A0_5 l0_5.length c0_5, .slice A0_6 l0_6.length c0_6, .int .i64 a0_7] 37 (0, 0)) (za0 BK26001.out) hb); have n1_ := Aside0.mk (blk_below (g := gb26002) (o := .cells #[.string a1_0, .string a1_1, .string a1_2] 39 (0, 0)) (za0 BK26002.out) hb); have n2_ := Aside0.mk (below_step za2 hb); clear BK26001; clear BK26002; clear HB; have BK26001 := n0_; have BK26002 := n1_; have HB := n2_; clear n0_ n1_ n2_; (try clear hb); (try clear hb2); (try clear hk); (try clear hi); obtain ⟨hcz12_0, hcz12_1, hcz12_2, hcz12_3, hcz12_4, hcz12_5, hcz12_6, hcz12_7, hfz12_0, hfz12_1, hfz12_2, hfz12_3, hfz12_4, hfz12_5, hfz12_6, hfz12_7⟩ := blk8 BK26001.out; obtain ⟨hcz13_0, hcz13_1, hcz13_2, hfz13_0, hfz13_1, hfz13_2⟩ := blk3 BK26002.out) | (go_at_call 59; (with_reducible refine (impl_ApplyValues.calls a0_2 a1_0 a1_1 a1_2 t26004 _ A5.out).mono ?_); rintro e w14 ⟨rfl, hb⟩; have n0_ := Aside0.mk (blk_below (g := gb26001) (o := .cells #[.int .i64 a0_0, .string a0_1, .string a0_2, .int .i64 a0_3, .string a0_4, .slice A0_5 l0_5.length c0_5, .slice A0_6 l0_6.length c0_6, .int .i64 a0_7] 37 (0, 0)) (za0 BK26001.out) hb); have n1_ := Aside0.mk (blk_below (g := gb26002) (o := .cells #[.string a1_0, .string a1_1, .string a1_2] 39 (0, 0)) (za0 BK26002.out) hb); have n2_ := Aside0.mk (below_step za2 hb); clear BK26001; clear BK26002; clear HB; have BK26001 := n0_; have BK26002 := n1_; have HB := n2_; clear n0_ n1_ n2_; (try clear hb); (try clear hb2); (try clear hk); (try clear hi))))
  go_ret
  exact ⟨za5, za2⟩
 rw [if_neg c4] at H
 have c4b0 : (a0_0 == 1) = false := beq_eq_false_iff_ne.mpr c4
 have c4b1 : (a0_0 != 1) = true := bne_iff_ne.mpr c4
 by_cases c15 : a0_0 = 2
 ·rw [if_pos c15] at H
  have c15b0 : (a0_0 == 2) = true := beq_iff_eq.mpr c15
  have c15b1 : (a0_0 != 2) = false := bne_eq_false_iff_eq.mpr c15
  clear c15
  replace H := Option.bind_eq_some_iff.mp H
  obtain ⟨t26005, A160, H⟩ := H
  replace H : (some (t26003.toList != t26005.toList)) = some r := H
  have A16 := Aside0.mk A160
  clear A160
  obtain rfl := Option.some.inj H
  go_enter Try.func26, Try.ntmps26
  go_wp2_with (first | ((with_reducible refine gate_dst (N := 2) rfl ?_); refine box_event ?hg (N := 2) ?hd (cs := #[.int .i64 a0_0, .string a0_1, .string a0_2, .int .i64 a0_3, .string a0_4, .slice A0_5 l0_5.length c0_5, .slice A0_6 l0_6.length c0_6, .int .i64 a0_7]) (t := 37) ?hr ?_; (case hd => rfl); (case hg => rfl); (case hr => first | (go_simp; done) | (go_simp; rfl)); intro gb26001 hg w17 hbox hb; have n0_ := Aside0.mk (below_step za2 hb); have n1_ := Aside0.mk (hbox); have n2_ := Aside0.mk ((by rw [hg]; exact (below_size za2) : w.heap.size ≤ gb26001)); have n3_ := Aside0.mk ((by rw [hg]; exact (below_size za2) : w.heap.size ≤ gb26001)); clear HB; have HB := n0_; have BK26001 := n1_; have GW26001 := n2_; have GE26001 := n3_; clear n0_ n1_ n2_ n3_; clear hb hbox hg) | ((with_reducible refine gate_dst (N := 3) rfl ?_); refine box_event ?hg (N := 3) ?hd (cs := #[.string a1_0, .string a1_1, .string a1_2]) (t := 39) ?hr ?_; (case hd => rfl); (case hg => rfl); (case hr => first | (go_simp; done) | (go_simp; rfl)); intro gb26002 hg w18 hbox hb; have n0_ := Aside0.mk (blk_below (g := gb26001) (o := .cells #[.int .i64 a0_0, .string a0_1, .string a0_2, .int .i64 a0_3, .string a0_4, .slice A0_5 l0_5.length c0_5, .slice A0_6 l0_6.length c0_6, .int .i64 a0_7] 37 (0, 0)) (za0 BK26001.out) hb); have n1_ := Aside0.mk (below_step za2 hb); have n2_ := Aside0.mk (hbox); have n3_ := Aside0.mk ((by rw [hg]; exact (below_size za2) : w.heap.size ≤ gb26002)); have n4_ := Aside0.mk ((by rw [hg]; exact (below_size za2) : w.heap.size ≤ gb26002)); have n5_ := Aside0.mk ((by rw [hg]; exact Nat.ne_of_lt (blk_lt (g := gb26001) (o := .cells #[.int .i64 a0_0, .string a0_1, .string a0_2, .int .i64 a0_3, .string a0_4, .slice A0_5 l0_5.length c0_5, .slice A0_6 l0_6.length c0_6, .int .i64 a0_7] 37 (0, 0)) (za0 BK26001.out)) : gb26001 ≠ gb26002)); have n6_ := Aside0.mk ((by rw [hg]; exact Nat.ne_of_gt (blk_lt (g := gb26001) (o := .cells #[.int .i64 a0_0, .string a0_1, .string a0_2, .int .i64 a0_3, .string a0_4, .slice A0_5 l0_5.length c0_5, .slice A0_6 l0_6.length c0_6, .int .i64 a0_7] 37 (0, 0)) (za0 BK26001.out)) : gb26002 ≠ gb26001)); clear BK26001; clear HB; have BK26001 := n0_; have HB := n1_; have BK26002 := n2_; have GW26002 := n3_; have GE26002 := n4_; have NB26001_26002 := n5_; have NB26002_26001 := n6_; clear n0_ n1_ n2_ n3_ n4_ n5_ n6_; clear hb hbox hg; have hnb19 := NB26001_26002.out; have hnc19 := NB26002_26001.out; obtain ⟨hcz20_0, hcz20_1, hcz20_2, hcz20_3, hcz20_4, hcz20_5, hcz20_6, hcz20_7, hfz20_0, hfz20_1, hfz20_2, hfz20_3, hfz20_4, hfz20_5, hfz20_6, hfz20_7⟩ := blk8 BK26001.out; obtain ⟨hcz21_0, hcz21_1, hcz21_2, hfz21_0, hfz21_1, hfz21_2⟩ := blk3 BK26002.out) | (go_at_call 59; (with_reducible refine (impl_ApplyValues.calls a0_1 a1_0 a1_1 a1_2 t26003 _ A3.out).mono ?_); rintro e w22 ⟨rfl, hb⟩; have n0_ := Aside0.mk (blk_below (g := gb26001) (o := .cells #[.int .i64 a0_0, .string a0_1, .string a0_2, .int .i64 a0_3, .string a0_4, .slice A0_5 l0_5.length c0_5, .slice A0_6 l0_6.length c0_6, .int .i64 a0_7] 37 (0, 0)) (za0 BK26001.out) hb); have n1_ := Aside0.mk (blk_below (g := gb26002) (o := .cells #[.string a1_0, .string a1_1, .string a1_2] 39 (0, 0)) (za0 BK26002.out) hb); have n2_ := Aside0.mk (below_step za2 hb); clear BK26001; clear BK26002; clear HB; have BK26001 := n0_; have BK26002 := n1_; have HB := n2_; clear n0_ n1_ n2_; (try clear hb); (try clear hb2); (try clear hk); (try clear hi); obtain ⟨hcz23_0, hcz23_1, hcz23_2, hcz23_3, hcz23_4, hcz23_5, hcz23_6, hcz23_7, hfz23_0, hfz23_1, hfz23_2, hfz23_3, hfz23_4, hfz23_5, hfz23_6, hfz23_7⟩ := blk8 BK26001.out; obtain ⟨hcz24_0, hcz24_1, hcz24_2, hfz24_0, hfz24_1, hfz24_2⟩ := blk3 BK26002.out) | (go_at_call 59; (with_reducible refine (impl_ApplyValues.calls a0_2 a1_0 a1_1 a1_2 t26005 _ A16.out).mono ?_); rintro e w25 ⟨rfl, hb⟩; have n0_ := Aside0.mk (blk_below (g := gb26001) (o := .cells #[.int .i64 a0_0, .string a0_1, .string a0_2, .int .i64 a0_3, .string a0_4, .slice A0_5 l0_5.length c0_5, .slice A0_6 l0_6.length c0_6, .int .i64 a0_7] 37 (0, 0)) (za0 BK26001.out) hb); have n1_ := Aside0.mk (blk_below (g := gb26002) (o := .cells #[.string a1_0, .string a1_1, .string a1_2] 39 (0, 0)) (za0 BK26002.out) hb); have n2_ := Aside0.mk (below_step za2 hb); clear BK26001; clear BK26002; clear HB; have BK26001 := n0_; have BK26002 := n1_; have HB := n2_; clear n0_ n1_ n2_; (try clear hb); (try clear hb2); (try clear hk); (try clear hi)))
  repeat (go_quiet (first | ((with_reducible refine gate_dst (N := 2) rfl ?_); refine box_event ?hg (N := 2) ?hd (cs := #[.int .i64 a0_0, .string a0_1, .string a0_2, .int .i64 a0_3, .string a0_4, .slice A0_5 l0_5.length c0_5, .slice A0_6 l0_6.length c0_6, .int .i64 a0_7]) (t := 37) ?hr ?_; (case hd => rfl); (case hg => rfl); (case hr => first | (go_simp; done) | (go_simp; rfl)); intro gb26001 hg w17 hbox hb; have n0_ := Aside0.mk (below_step za2 hb); have n1_ := Aside0.mk (hbox); have n2_ := Aside0.mk ((by rw [hg]; exact (below_size za2) : w.heap.size ≤ gb26001)); have n3_ := Aside0.mk ((by rw [hg]; exact (below_size za2) : w.heap.size ≤ gb26001)); clear HB; have HB := n0_; have BK26001 := n1_; have GW26001 := n2_; have GE26001 := n3_; clear n0_ n1_ n2_ n3_; clear hb hbox hg) | ((with_reducible refine gate_dst (N := 3) rfl ?_); refine box_event ?hg (N := 3) ?hd (cs := #[.string a1_0, .string a1_1, .string a1_2]) (t := 39) ?hr ?_; (case hd => rfl); (case hg => rfl); (case hr => first | (go_simp; done) | (go_simp; rfl)); intro gb26002 hg w18 hbox hb; have n0_ := Aside0.mk (blk_below (g := gb26001) (o := .cells #[.int .i64 a0_0, .string a0_1, .string a0_2, .int .i64 a0_3, .string a0_4, .slice A0_5 l0_5.length c0_5, .slice A0_6 l0_6.length c0_6, .int .i64 a0_7] 37 (0, 0)) (za0 BK26001.out) hb); have n1_ := Aside0.mk (below_step za2 hb); have n2_ := Aside0.mk (hbox); have n3_ := Aside0.mk ((by rw [hg]; exact (below_size za2) : w.heap.size ≤ gb26002)); have n4_ := Aside0.mk ((by rw [hg]; exact (below_size za2) : w.heap.size ≤ gb26002)); have n5_ := Aside0.mk ((by rw [hg]; exact Nat.ne_of_lt (blk_lt (g := gb26001) (o := .cells #[.int .i64 a0_0, .string a0_1, .string a0_2, .int .i64 a0_3, .string a0_4, .slice A0_5 l0_5.length c0_5, .slice A0_6 l0_6.length c0_6, .int .i64 a0_7] 37 (0, 0)) (za0 BK26001.out)) : gb26001 ≠ gb26002)); have n6_ := Aside0.mk ((by rw [hg]; exact Nat.ne_of_gt (blk_lt (g := gb26001) (o := .cells #[.int .i64 a0_0, .string a0_1, .string a0_2, .int .i64 a0_3, .string a0_4, .slice A0_5 l0_5.length c0_5, .slice A0_6 l0_6.length c0_6, .int .i64 a0_7] 37 (0, 0)) (za0 BK26001.out)) : gb26002 ≠ gb26001)); clear BK26001; clear HB; have BK26001 := n0_; have HB := n1_; have BK26002 := n2_; have GW26002 := n3_; have GE26002 := n4_; have NB26001_26002 := n5_; have NB26002_26001 := n6_; clear n0_ n1_ n2_ n3_ n4_ n5_ n6_; clear hb hbox hg; have hnb19 := NB26001_26002.out; have hnc19 := NB26002_26001.out; obtain ⟨hcz20_0, hcz20_1, hcz20_2, hcz20_3, hcz20_4, hcz20_5, hcz20_6, hcz20_7, hfz20_0, hfz20_1, hfz20_2, hfz20_3, hfz20_4, hfz20_5, hfz20_6, hfz20_7⟩ := blk8 BK26001.out; obtain ⟨hcz21_0, hcz21_1, hcz21_2, hfz21_0, hfz21_1, hfz21_2⟩ := blk3 BK26002.out) | (go_at_call 59; (with_reducible refine (impl_ApplyValues.calls a0_1 a1_0 a1_1 a1_2 t26003 _ A3.out).mono ?_); rintro e w22 ⟨rfl, hb⟩; have n0_ := Aside0.mk (blk_below (g := gb26001) (o := .cells #[.int .i64 a0_0, .string a0_1, .string a0_2, .int .i64 a0_3, .string a0_4, .slice A0_5 l0_5.length c0_5, .slice A0_6 l0_6.length c0_6, .int .i64 a0_7] 37 (0, 0)) (za0 BK26001.out) hb); have n1_ := Aside0.mk (blk_below (g := gb26002) (o := .cells #[.string a1_0, .string a1_1, .string a1_2] 39 (0, 0)) (za0 BK26002.out) hb); have n2_ := Aside0.mk (below_step za2 hb); clear BK26001; clear BK26002; clear HB; have BK26001 := n0_; have BK26002 := n1_; have HB := n2_; clear n0_ n1_ n2_; (try clear hb); (try clear hb2); (try clear hk); (try clear hi); obtain ⟨hcz23_0, hcz23_1, hcz23_2, hcz23_3, hcz23_4, hcz23_5, hcz23_6, hcz23_7, hfz23_0, hfz23_1, hfz23_2, hfz23_3, hfz23_4, hfz23_5, hfz23_6, hfz23_7⟩ := blk8 BK26001.out; obtain ⟨hcz24_0, hcz24_1, hcz24_2, hfz24_0, hfz24_1, hfz24_2⟩ := blk3 BK26002.out) | (go_at_call 59; (with_reducible refine (impl_ApplyValues.calls a0_2 a1_0 a1_1 a1_2 t26005 _ A16.out).mono ?_); rintro e w25 ⟨rfl, hb⟩; have n0_ := Aside0.mk (blk_below (g := gb26001) (o := .cells #[.int .i64 a0_0, .string a0_1, .string a0_2, .int .i64 a0_3, .string a0_4, .slice A0_5 l0_5.length c0_5, .slice A0_6 l0_6.length c0_6, .int .i64 a0_7] 37 (0, 0)) (za0 BK26001.out) hb); have n1_ := Aside0.mk (blk_below (g := gb26002) (o := .cells #[.string a1_0, .string a1_1, .string a1_2] 39 (0, 0)) (za0 BK26002.out) hb); have n2_ := Aside0.mk (below_step za2 hb); clear BK26001; clear BK26002; clear HB; have BK26001 := n0_; have BK26002 := n1_; have HB := n2_; clear n0_ n1_ n2_; (try clear hb); (try clear hb2); (try clear hk); (try clear hi))); try go_wp2_with (first | ((with_reducible refine gate_dst (N := 2) rfl ?_); refine box_event ?hg (N := 2) ?hd (cs := #[.int .i64 a0_0, .string a0_1, .string a0_2, .int .i64 a0_3, .string a0_4, .slice A0_5 l0_5.length c0_5, .slice A0_6 l0_6.length c0_6, .int .i64 a0_7]) (t := 37) ?hr ?_; (case hd => rfl); (case hg => rfl); (case hr => first | (go_simp; done) | (go_simp; rfl)); intro gb26001 hg w17 hbox hb; have n0_ := Aside0.mk (below_step za2 hb); have n1_ := Aside0.mk (hbox); have n2_ := Aside0.mk ((by rw [hg]; exact (below_size za2) : w.heap.size ≤ gb26001)); have n3_ := Aside0.mk ((by rw [hg]; exact (below_size za2) : w.heap.size ≤ gb26001)); clear HB; have HB := n0_; have BK26001 := n1_; have GW26001 := n2_; have GE26001 := n3_; clear n0_ n1_ n2_ n3_; clear hb hbox hg) | ((with_reducible refine gate_dst (N := 3) rfl ?_); refine box_event ?hg (N := 3) ?hd (cs := #[.string a1_0, .string a1_1, .string a1_2]) (t := 39) ?hr ?_; (case hd => rfl); (case hg => rfl); (case hr => first | (go_simp; done) | (go_simp; rfl)); intro gb26002 hg w18 hbox hb; have n0_ := Aside0.mk (blk_below (g := gb26001) (o := .cells #[.int .i64 a0_0, .string a0_1, .string a0_2, .int .i64 a0_3, .string a0_4, .slice A0_5 l0_5.length c0_5, .slice A0_6 l0_6.length c0_6, .int .i64 a0_7] 37 (0, 0)) (za0 BK26001.out) hb); have n1_ := Aside0.mk (below_step za2 hb); have n2_ := Aside0.mk (hbox); have n3_ := Aside0.mk ((by rw [hg]; exact (below_size za2) : w.heap.size ≤ gb26002)); have n4_ := Aside0.mk ((by rw [hg]; exact (below_size za2) : w.heap.size ≤ gb26002)); have n5_ := Aside0.mk ((by rw [hg]; exact Nat.ne_of_lt (blk_lt (g := gb26001) (o := .cells #[.int .i64 a0_0, .string a0_1, .string a0_2, .int .i64 a0_3, .string a0_4, .slice A0_5 l0_5.length c0_5, .slice A0_6 l0_6.length c0_6, .int .i64 a0_7] 37 (0, 0)) (za0 BK26001.out)) : gb26001 ≠ gb26002)); have n6_ := Aside0.mk ((by rw [hg]; exact Nat.ne_of_gt (blk_lt (g := gb26001) (o := .cells #[.int .i64 a0_0, .string a0_1, .string a0_2, .int .i64 a0_3, .string a0_4, .slice A0_5 l0_5.length c0_5, .slice A0_6 l0_6.length c0_6, .int .i64 a0_7] 37 (0, 0)) (za0 BK26001.out)) : gb26002 ≠ gb26001)); clear BK26001; clear HB; have BK26001 := n0_; have HB := n1_; have BK26002 := n2_; have GW26002 := n3_; have GE26002 := n4_; have NB26001_26002 := n5_; have NB26002_26001 := n6_; clear n0_ n1_ n2_ n3_ n4_ n5_ n6_; clear hb hbox hg; have hnb19 := NB26001_26002.out; have hnc19 := NB26002_26001.out; obtain ⟨hcz20_0, hcz20_1, hcz20_2, hcz20_3, hcz20_4, hcz20_5, hcz20_6, hcz20_7, hfz20_0, hfz20_1, hfz20_2, hfz20_3, hfz20_4, hfz20_5, hfz20_6, hfz20_7⟩ := blk8 BK26001.out; obtain ⟨hcz21_0, hcz21_1, hcz21_2, hfz21_0, hfz21_1, hfz21_2⟩ := blk3 BK26002.out) | (go_at_call 59; (with_reducible refine (impl_ApplyValues.calls a0_1 a1_0 a1_1 a1_2 t26003 _ A3.out).mono ?_); rintro e w22 ⟨rfl, hb⟩; have n0_ := Aside0.mk (blk_below (g := gb26001) (o := .cells #[.int .i64 a0_0, .string a0_1, .string a0_2, .int .i64 a0_3, .string a0_4, .slice A0_5 l0_5.length c0_5, .slice A0_6 l0_6.length c0_6, .int .i64 a0_7] 37 (0, 0)) (za0 BK26001.out) hb); have n1_ := Aside0.mk (blk_below (g := gb26002) (o := .cells #[.string a1_0, .string a1_1, .string a1_2] 39 (0, 0)) (za0 BK26002.out) hb); have n2_ := Aside0.mk (below_step za2 hb); clear BK26001; clear BK26002; clear HB; have BK26001 := n0_; have BK26002 := n1_; have HB := n2_; clear n0_ n1_ n2_; (try clear hb); (try clear hb2); (try clear hk); (try clear hi); obtain ⟨hcz23_0, hcz23_1, hcz23_2, hcz23_3, hcz23_4, hcz23_5, hcz23_6, hcz23_7, hfz23_0, hfz23_1, hfz23_2, hfz23_3, hfz23_4, hfz23_5, hfz23_6, hfz23_7⟩ := blk8 BK26001.out; obtain ⟨hcz24_0, hcz24_1, hcz24_2, hfz24_0, hfz24_1, hfz24_2⟩ := blk3 BK26002.out) | (go_at_call 59; (with_reducible refine (impl_ApplyValues.calls a0_2 a1_0 a1_1 a1_2 t26005 _ A16.out).mono ?_); rintro e w25 ⟨rfl, hb⟩; have n0_ := Aside0.mk (blk_below (g := gb26001) (o := .cells #[.int .i64 a0_0, .string a0_1, .string a0_2, .int .i64 a0_3, .string a0_4, .slice A0_5 l0_5.length c0_5, .slice A0_6 l0_6.length c0_6, .int .i64 a0_7] 37 (0, 0)) (za0 BK26001.out) hb); have n1_ := Aside0.mk (blk_below (g := gb26002) (o := .cells #[.string a1_0, .string a1_1, .string a1_2] 39 (0, 0)) (za0 BK26002.out) hb); have n2_ := Aside0.mk (below_step za2 hb); clear BK26001; clear BK26002; clear HB; have BK26001 := n0_; have BK26002 := n1_; have HB := n2_; clear n0_ n1_ n2_; (try clear hb); (try clear hb2); (try clear hk); (try clear hi))))
  go_ret
  exact ⟨za5, za2⟩
 rw [if_neg c15] at H
 have c15b0 : (a0_0 == 2) = false := beq_eq_false_iff_ne.mpr c15
 have c15b1 : (a0_0 != 2) = true := bne_iff_ne.mpr c15
 by_cases c26 : a0_0 = 3
 ·rw [if_pos c26] at H
  have c26b0 : (a0_0 == 3) = true := beq_iff_eq.mpr c26
  have c26b1 : (a0_0 != 3) = false := bne_eq_false_iff_eq.mpr c26
  clear c26
  replace H := Option.bind_eq_some_iff.mp H
  obtain ⟨t26006, A270, H⟩ := H
  replace H : (some t26006) = some r := H
  have A27 := Aside0.mk A270
  clear A270
  obtain rfl := Option.some.inj H
  go_enter Try.func26, Try.ntmps26
  go_wp2_with (first | ((with_reducible refine gate_dst (N := 2) rfl ?_); refine box_event ?hg (N := 2) ?hd (cs := #[.int .i64 a0_0, .string a0_1, .string a0_2, .int .i64 a0_3, .string a0_4, .slice A0_5 l0_5.length c0_5, .slice A0_6 l0_6.length c0_6, .int .i64 a0_7]) (t := 37) ?hr ?_; (case hd => rfl); (case hg => rfl); (case hr => first | (go_simp; done) | (go_simp; rfl)); intro gb26001 hg w28 hbox hb; have n0_ := Aside0.mk (below_step za2 hb); have n1_ := Aside0.mk (hbox); have n2_ := Aside0.mk ((by rw [hg]; exact (below_size za2) : w.heap.size ≤ gb26001)); have n3_ := Aside0.mk ((by rw [hg]; exact (below_size za2) : w.heap.size ≤ gb26001)); clear HB; have HB := n0_; have BK26001 := n1_; have GW26001 := n2_; have GE26001 := n3_; clear n0_ n1_ n2_ n3_; clear hb hbox hg) | ((with_reducible refine gate_dst (N := 3) rfl ?_); refine box_event ?hg (N := 3) ?hd (cs := #[.string a1_0, .string a1_1, .string a1_2]) (t := 39) ?hr ?_; (case hd => rfl); (case hg => rfl); (case hr => first | (go_simp; done) | (go_simp; rfl)); intro gb26002 hg w29 hbox hb; have n0_ := Aside0.mk (blk_below (g := gb26001) (o := .cells #[.int .i64 a0_0, .string a0_1, .string a0_2, .int .i64 a0_3, .string a0_4, .slice A0_5 l0_5.length c0_5, .slice A0_6 l0_6.length c0_6, .int .i64 a0_7] 37 (0, 0)) (za0 BK26001.out) hb); have n1_ := Aside0.mk (below_step za2 hb); have n2_ := Aside0.mk (hbox); have n3_ := Aside0.mk ((by rw [hg]; exact (below_size za2) : w.heap.size ≤ gb26002)); have n4_ := Aside0.mk ((by rw [hg]; exact (below_size za2) : w.heap.size ≤ gb26002)); have n5_ := Aside0.mk ((by rw [hg]; exact Nat.ne_of_lt (blk_lt (g := gb26001) (o := .cells #[.int .i64 a0_0, .string a0_1, .string a0_2, .int .i64 a0_3, .string a0_4, .slice A0_5 l0_5.length c0_5, .slice A0_6 l0_6.length c0_6, .int .i64 a0_7] 37 (0, 0)) (za0 BK26001.out)) : gb26001 ≠ gb26002)); have n6_ := Aside0.mk ((by rw [hg]; exact Nat.ne_of_gt (blk_lt (g := gb26001) (o := .cells #[.int .i64 a0_0, .string a0_1, .string a0_2, .int .i64 a0_3, .string a0_4, .slice A0_5 l0_5.length c0_5, .slice A0_6 l0_6.length c0_6, .int .i64 a0_7] 37 (0, 0)) (za0 BK26001.out)) : gb26002 ≠ gb26001)); clear BK26001; clear HB; have BK26001 := n0_; have HB := n1_; have BK26002 := n2_; have GW26002 := n3_; have GE26002 := n4_; have NB26001_26002 := n5_; have NB26002_26001 := n6_; clear n0_ n1_ n2_ n3_ n4_ n5_ n6_; clear hb hbox hg; have hnb30 := NB26001_26002.out; have hnc30 := NB26002_26001.out; obtain ⟨hcz31_0, hcz31_1, hcz31_2, hcz31_3, hcz31_4, hcz31_5, hcz31_6, hcz31_7, hfz31_0, hfz31_1, hfz31_2, hfz31_3, hfz31_4, hfz31_5, hfz31_6, hfz31_7⟩ := blk8 BK26001.out; obtain ⟨hcz32_0, hcz32_1, hcz32_2, hfz32_0, hfz32_1, hfz32_2⟩ := blk3 BK26002.out) | (go_at_call 59; (with_reducible refine (impl_ApplyValues.calls a0_1 a1_0 a1_1 a1_2 t26003 _ A3.out).mono ?_); rintro e w33 ⟨rfl, hb⟩; have n0_ := Aside0.mk (blk_below (g := gb26001) (o := .cells #[.int .i64 a0_0, .string a0_1, .string a0_2, .int .i64 a0_3, .string a0_4, .slice A0_5 l0_5.length c0_5, .slice A0_6 l0_6.length c0_6, .int .i64 a0_7] 37 (0, 0)) (za0 BK26001.out) hb); have n1_ := Aside0.mk (blk_below (g := gb26002) (o := .cells #[.string a1_0, .string a1_1, .string a1_2] 39 (0, 0)) (za0 BK26002.out) hb); have n2_ := Aside0.mk (below_step za2 hb); clear BK26001; clear BK26002; clear HB; have BK26001 := n0_; have BK26002 := n1_; have HB := n2_; clear n0_ n1_ n2_; (try clear hb); (try clear hb2); (try clear hk); (try clear hi); obtain ⟨hcz34_0, hcz34_1, hcz34_2, hcz34_3, hcz34_4, hcz34_5, hcz34_6, hcz34_7, hfz34_0, hfz34_1, hfz34_2, hfz34_3, hfz34_4, hfz34_5, hfz34_6, hfz34_7⟩ := blk8 BK26001.out) | (go_at_call 60; (with_reducible refine (impl_matches.calls a0_3 a0_4 _ _ l0_5 t26003 t26006 _ ?side1 ?side2 A27.out).mono ?_); (case side1 => repeat (first | exact (Kd.C_below HR0_5.out HB.out) | (with_reducible refine Kd.C_alloc ?_ _) | (with_reducible refine Kd.C_drewN ?_ _) | (with_reducible refine Kd.C_drew ?_))); (case side2 => exact HC0_5.out); rintro e w35 ⟨rfl, hb⟩; have n0_ := Aside0.mk (blk_below (g := gb26001) (o := .cells #[.int .i64 a0_0, .string a0_1, .string a0_2, .int .i64 a0_3, .string a0_4, .slice A0_5 l0_5.length c0_5, .slice A0_6 l0_6.length c0_6, .int .i64 a0_7] 37 (0, 0)) (za0 BK26001.out) hb); have n1_ := Aside0.mk (blk_below (g := gb26002) (o := .cells #[.string a1_0, .string a1_1, .string a1_2] 39 (0, 0)) (za0 BK26002.out) hb); have n2_ := Aside0.mk (below_step za2 hb); clear BK26001; clear BK26002; clear HB; have BK26001 := n0_; have BK26002 := n1_; have HB := n2_; clear n0_ n1_ n2_; (try clear hb); (try clear hb2); (try clear hk); (try clear hi)))
  repeat (go_quiet (first | ((with_reducible refine gate_dst (N := 2) rfl ?_); refine box_event ?hg (N := 2) ?hd (cs := #[.int .i64 a0_0, .string a0_1, .string a0_2, .int .i64 a0_3, .string a0_4, .slice A0_5 l0_5.length c0_5, .slice A0_6 l0_6.length c0_6, .int .i64 a0_7]) (t := 37) ?hr ?_; (case hd => rfl); (case hg => rfl); (case hr => first | (go_simp; done) | (go_simp; rfl)); intro gb26001 hg w28 hbox hb; have n0_ := Aside0.mk (below_step za2 hb); have n1_ := Aside0.mk (hbox); have n2_ := Aside0.mk ((by rw [hg]; exact (below_size za2) : w.heap.size ≤ gb26001)); have n3_ := Aside0.mk ((by rw [hg]; exact (below_size za2) : w.heap.size ≤ gb26001)); clear HB; have HB := n0_; have BK26001 := n1_; have GW26001 := n2_; have GE26001 := n3_; clear n0_ n1_ n2_ n3_; clear hb hbox hg) | ((with_reducible refine gate_dst (N := 3) rfl ?_); refine box_event ?hg (N := 3) ?hd (cs := #[.string a1_0, .string a1_1, .string a1_2]) (t := 39) ?hr ?_; (case hd => rfl); (case hg => rfl); (case hr => first | (go_simp; done) | (go_simp; rfl)); intro gb26002 hg w29 hbox hb; have n0_ := Aside0.mk (blk_below (g := gb26001) (o := .cells #[.int .i64 a0_0, .string a0_1, .string a0_2, .int .i64 a0_3, .string a0_4, .slice A0_5 l0_5.length c0_5, .slice A0_6 l0_6.length c0_6, .int .i64 a0_7] 37 (0, 0)) (za0 BK26001.out) hb); have n1_ := Aside0.mk (below_step za2 hb); have n2_ := Aside0.mk (hbox); have n3_ := Aside0.mk ((by rw [hg]; exact (below_size za2) : w.heap.size ≤ gb26002)); have n4_ := Aside0.mk ((by rw [hg]; exact (below_size za2) : w.heap.size ≤ gb26002)); have n5_ := Aside0.mk ((by rw [hg]; exact Nat.ne_of_lt (blk_lt (g := gb26001) (o := .cells #[.int .i64 a0_0, .string a0_1, .string a0_2, .int .i64 a0_3, .string a0_4, .slice A0_5 l0_5.length c0_5, .slice A0_6 l0_6.length c0_6, .int .i64 a0_7] 37 (0, 0)) (za0 BK26001.out)) : gb26001 ≠ gb26002)); have n6_ := Aside0.mk ((by rw [hg]; exact Nat.ne_of_gt (blk_lt (g := gb26001) (o := .cells #[.int .i64 a0_0, .string a0_1, .string a0_2, .int .i64 a0_3, .string a0_4, .slice A0_5 l0_5.length c0_5, .slice A0_6 l0_6.length c0_6, .int .i64 a0_7] 37 (0, 0)) (za0 BK26001.out)) : gb26002 ≠ gb26001)); clear BK26001; clear HB; have BK26001 := n0_; have HB := n1_; have BK26002 := n2_; have GW26002 := n3_; have GE26002 := n4_; have NB26001_26002 := n5_; have NB26002_26001 := n6_; clear n0_ n1_ n2_ n3_ n4_ n5_ n6_; clear hb hbox hg; have hnb30 := NB26001_26002.out; have hnc30 := NB26002_26001.out; obtain ⟨hcz31_0, hcz31_1, hcz31_2, hcz31_3, hcz31_4, hcz31_5, hcz31_6, hcz31_7, hfz31_0, hfz31_1, hfz31_2, hfz31_3, hfz31_4, hfz31_5, hfz31_6, hfz31_7⟩ := blk8 BK26001.out; obtain ⟨hcz32_0, hcz32_1, hcz32_2, hfz32_0, hfz32_1, hfz32_2⟩ := blk3 BK26002.out) | (go_at_call 59; (with_reducible refine (impl_ApplyValues.calls a0_1 a1_0 a1_1 a1_2 t26003 _ A3.out).mono ?_); rintro e w33 ⟨rfl, hb⟩; have n0_ := Aside0.mk (blk_below (g := gb26001) (o := .cells #[.int .i64 a0_0, .string a0_1, .string a0_2, .int .i64 a0_3, .string a0_4, .slice A0_5 l0_5.length c0_5, .slice A0_6 l0_6.length c0_6, .int .i64 a0_7] 37 (0, 0)) (za0 BK26001.out) hb); have n1_ := Aside0.mk (blk_below (g := gb26002) (o := .cells #[.string a1_0, .string a1_1, .string a1_2] 39 (0, 0)) (za0 BK26002.out) hb); have n2_ := Aside0.mk (below_step za2 hb); clear BK26001; clear BK26002; clear HB; have BK26001 := n0_; have BK26002 := n1_; have HB := n2_; clear n0_ n1_ n2_; (try clear hb); (try clear hb2); (try clear hk); (try clear hi); obtain ⟨hcz34_0, hcz34_1, hcz34_2, hcz34_3, hcz34_4, hcz34_5, hcz34_6, hcz34_7, hfz34_0, hfz34_1, hfz34_2, hfz34_3, hfz34_4, hfz34_5, hfz34_6, hfz34_7⟩ := blk8 BK26001.out) | (go_at_call 60; (with_reducible refine (impl_matches.calls a0_3 a0_4 _ _ l0_5 t26003 t26006 _ ?side1 ?side2 A27.out).mono ?_); (case side1 => repeat (first | exact (Kd.C_below HR0_5.out HB.out) | (with_reducible refine Kd.C_alloc ?_ _) | (with_reducible refine Kd.C_drewN ?_ _) | (with_reducible refine Kd.C_drew ?_))); (case side2 => exact HC0_5.out); rintro e w35 ⟨rfl, hb⟩; have n0_ := Aside0.mk (blk_below (g := gb26001) (o := .cells #[.int .i64 a0_0, .string a0_1, .string a0_2, .int .i64 a0_3, .string a0_4, .slice A0_5 l0_5.length c0_5, .slice A0_6 l0_6.length c0_6, .int .i64 a0_7] 37 (0, 0)) (za0 BK26001.out) hb); have n1_ := Aside0.mk (blk_below (g := gb26002) (o := .cells #[.string a1_0, .string a1_1, .string a1_2] 39 (0, 0)) (za0 BK26002.out) hb); have n2_ := Aside0.mk (below_step za2 hb); clear BK26001; clear BK26002; clear HB; have BK26001 := n0_; have BK26002 := n1_; have HB := n2_; clear n0_ n1_ n2_; (try clear hb); (try clear hb2); (try clear hk); (try clear hi))); try go_wp2_with (first | ((with_reducible refine gate_dst (N := 2) rfl ?_); refine box_event ?hg (N := 2) ?hd (cs := #[.int .i64 a0_0, .string a0_1, .string a0_2, .int .i64 a0_3, .string a0_4, .slice A0_5 l0_5.length c0_5, .slice A0_6 l0_6.length c0_6, .int .i64 a0_7]) (t := 37) ?hr ?_; (case hd => rfl); (case hg => rfl); (case hr => first | (go_simp; done) | (go_simp; rfl)); intro gb26001 hg w28 hbox hb; have n0_ := Aside0.mk (below_step za2 hb); have n1_ := Aside0.mk (hbox); have n2_ := Aside0.mk ((by rw [hg]; exact (below_size za2) : w.heap.size ≤ gb26001)); have n3_ := Aside0.mk ((by rw [hg]; exact (below_size za2) : w.heap.size ≤ gb26001)); clear HB; have HB := n0_; have BK26001 := n1_; have GW26001 := n2_; have GE26001 := n3_; clear n0_ n1_ n2_ n3_; clear hb hbox hg) | ((with_reducible refine gate_dst (N := 3) rfl ?_); refine box_event ?hg (N := 3) ?hd (cs := #[.string a1_0, .string a1_1, .string a1_2]) (t := 39) ?hr ?_; (case hd => rfl); (case hg => rfl); (case hr => first | (go_simp; done) | (go_simp; rfl)); intro gb26002 hg w29 hbox hb; have n0_ := Aside0.mk (blk_below (g := gb26001) (o := .cells #[.int .i64 a0_0, .string a0_1, .string a0_2, .int .i64 a0_3, .string a0_4, .slice A0_5 l0_5.length c0_5, .slice A0_6 l0_6.length c0_6, .int .i64 a0_7] 37 (0, 0)) (za0 BK26001.out) hb); have n1_ := Aside0.mk (below_step za2 hb); have n2_ := Aside0.mk (hbox); have n3_ := Aside0.mk ((by rw [hg]; exact (below_size za2) : w.heap.size ≤ gb26002)); have n4_ := Aside0.mk ((by rw [hg]; exact (below_size za2) : w.heap.size ≤ gb26002)); have n5_ := Aside0.mk ((by rw [hg]; exact Nat.ne_of_lt (blk_lt (g := gb26001) (o := .cells #[.int .i64 a0_0, .string a0_1, .string a0_2, .int .i64 a0_3, .string a0_4, .slice A0_5 l0_5.length c0_5, .slice A0_6 l0_6.length c0_6, .int .i64 a0_7] 37 (0, 0)) (za0 BK26001.out)) : gb26001 ≠ gb26002)); have n6_ := Aside0.mk ((by rw [hg]; exact Nat.ne_of_gt (blk_lt (g := gb26001) (o := .cells #[.int .i64 a0_0, .string a0_1, .string a0_2, .int .i64 a0_3, .string a0_4, .slice A0_5 l0_5.length c0_5, .slice A0_6 l0_6.length c0_6, .int .i64 a0_7] 37 (0, 0)) (za0 BK26001.out)) : gb26002 ≠ gb26001)); clear BK26001; clear HB; have BK26001 := n0_; have HB := n1_; have BK26002 := n2_; have GW26002 := n3_; have GE26002 := n4_; have NB26001_26002 := n5_; have NB26002_26001 := n6_; clear n0_ n1_ n2_ n3_ n4_ n5_ n6_; clear hb hbox hg; have hnb30 := NB26001_26002.out; have hnc30 := NB26002_26001.out; obtain ⟨hcz31_0, hcz31_1, hcz31_2, hcz31_3, hcz31_4, hcz31_5, hcz31_6, hcz31_7, hfz31_0, hfz31_1, hfz31_2, hfz31_3, hfz31_4, hfz31_5, hfz31_6, hfz31_7⟩ := blk8 BK26001.out; obtain ⟨hcz32_0, hcz32_1, hcz32_2, hfz32_0, hfz32_1, hfz32_2⟩ := blk3 BK26002.out) | (go_at_call 59; (with_reducible refine (impl_ApplyValues.calls a0_1 a1_0 a1_1 a1_2 t26003 _ A3.out).mono ?_); rintro e w33 ⟨rfl, hb⟩; have n0_ := Aside0.mk (blk_below (g := gb26001) (o := .cells #[.int .i64 a0_0, .string a0_1, .string a0_2, .int .i64 a0_3, .string a0_4, .slice A0_5 l0_5.length c0_5, .slice A0_6 l0_6.length c0_6, .int .i64 a0_7] 37 (0, 0)) (za0 BK26001.out) hb); have n1_ := Aside0.mk (blk_below (g := gb26002) (o := .cells #[.string a1_0, .string a1_1, .string a1_2] 39 (0, 0)) (za0 BK26002.out) hb); have n2_ := Aside0.mk (below_step za2 hb); clear BK26001; clear BK26002; clear HB; have BK26001 := n0_; have BK26002 := n1_; have HB := n2_; clear n0_ n1_ n2_; (try clear hb); (try clear hb2); (try clear hk); (try clear hi); obtain ⟨hcz34_0, hcz34_1, hcz34_2, hcz34_3, hcz34_4, hcz34_5, hcz34_6, hcz34_7, hfz34_0, hfz34_1, hfz34_2, hfz34_3, hfz34_4, hfz34_5, hfz34_6, hfz34_7⟩ := blk8 BK26001.out) | (go_at_call 60; (with_reducible refine (impl_matches.calls a0_3 a0_4 _ _ l0_5 t26003 t26006 _ ?side1 ?side2 A27.out).mono ?_); (case side1 => repeat (first | exact (Kd.C_below HR0_5.out HB.out) | (with_reducible refine Kd.C_alloc ?_ _) | (with_reducible refine Kd.C_drewN ?_ _) | (with_reducible refine Kd.C_drew ?_))); (case side2 => exact HC0_5.out); rintro e w35 ⟨rfl, hb⟩; have n0_ := Aside0.mk (blk_below (g := gb26001) (o := .cells #[.int .i64 a0_0, .string a0_1, .string a0_2, .int .i64 a0_3, .string a0_4, .slice A0_5 l0_5.length c0_5, .slice A0_6 l0_6.length c0_6, .int .i64 a0_7] 37 (0, 0)) (za0 BK26001.out) hb); have n1_ := Aside0.mk (blk_below (g := gb26002) (o := .cells #[.string a1_0, .string a1_1, .string a1_2] 39 (0, 0)) (za0 BK26002.out) hb); have n2_ := Aside0.mk (below_step za2 hb); clear BK26001; clear BK26002; clear HB; have BK26001 := n0_; have BK26002 := n1_; have HB := n2_; clear n0_ n1_ n2_; (try clear hb); (try clear hb2); (try clear hk); (try clear hi))))
  go_ret
  exact ⟨za5, za2⟩
 rw [if_neg c26] at H
 have c26b0 : (a0_0 == 3) = false := beq_eq_false_iff_ne.mpr c26
 have c26b1 : (a0_0 != 3) = true := bne_iff_ne.mpr c26
 by_cases c36 : a0_0 = 4
 ·rw [if_pos c36] at H
  have c36b0 : (a0_0 == 4) = true := beq_iff_eq.mpr c36
  have c36b1 : (a0_0 != 4) = false := bne_eq_false_iff_eq.mpr c36
  clear c36
  replace H := Option.bind_eq_some_iff.mp H
  obtain ⟨t26007, A370, H⟩ := H
  replace H : (some (!t26007)) = some r := H
  have A37 := Aside0.mk A370
  clear A370
  obtain rfl := Option.some.inj H
  go_enter Try.func26, Try.ntmps26
  go_wp2_with (first | ((with_reducible refine gate_dst (N := 2) rfl ?_); refine box_event ?hg (N := 2) ?hd (cs := #[.int .i64 a0_0, .string a0_1, .string a0_2, .int .i64 a0_3, .string a0_4, .slice A0_5 l0_5.length c0_5, .slice A0_6 l0_6.length c0_6, .int .i64 a0_7]) (t := 37) ?hr ?_; (case hd => rfl); (case hg => rfl); (case hr => first | (go_simp; done) | (go_simp; rfl)); intro gb26001 hg w38 hbox hb; have n0_ := Aside0.mk (below_step za2 hb); have n1_ := Aside0.mk (hbox); have n2_ := Aside0.mk ((by rw [hg]; exact (below_size za2) : w.heap.size ≤ gb26001)); have n3_ := Aside0.mk ((by rw [hg]; exact (below_size za2) : w.heap.size ≤ gb26001)); clear HB; have HB := n0_; have BK26001 := n1_; have GW26001 := n2_; have GE26001 := n3_; clear n0_ n1_ n2_ n3_; clear hb hbox hg) | ((with_reducible refine gate_dst (N := 3) rfl ?_); refine box_event ?hg (N := 3) ?hd (cs := #[.string a1_0, .string a1_1, .string a1_2]) (t := 39) ?hr ?_; (case hd => rfl); (case hg => rfl); (case hr => first | (go_simp; done) | (go_simp; rfl)); intro gb26002 hg w39 hbox hb; have n0_ := Aside0.mk (blk_below (g := gb26001) (o := .cells #[.int .i64 a0_0, .string a0_1, .string a0_2, .int .i64 a0_3, .string a0_4, .slice A0_5 l0_5.length c0_5, .slice A0_6 l0_6.length c0_6, .int .i64 a0_7] 37 (0, 0)) (za0 BK26001.out) hb); have n1_ := Aside0.mk (below_step za2 hb); have n2_ := Aside0.mk (hbox); have n3_ := Aside0.mk ((by rw [hg]; exact (below_size za2) : w.heap.size ≤ gb26002)); have n4_ := Aside0.mk ((by rw [hg]; exact (below_size za2) : w.heap.size ≤ gb26002)); have n5_ := Aside0.mk ((by rw [hg]; exact Nat.ne_of_lt (blk_lt (g := gb26001) (o := .cells #[.int .i64 a0_0, .string a0_1, .string a0_2, .int .i64 a0_3, .string a0_4, .slice A0_5 l0_5.length c0_5, .slice A0_6 l0_6.length c0_6, .int .i64 a0_7] 37 (0, 0)) (za0 BK26001.out)) : gb26001 ≠ gb26002)); have n6_ := Aside0.mk ((by rw [hg]; exact Nat.ne_of_gt (blk_lt (g := gb26001) (o := .cells #[.int .i64 a0_0, .string a0_1, .string a0_2, .int .i64 a0_3, .string a0_4, .slice A0_5 l0_5.length c0_5, .slice A0_6 l0_6.length c0_6, .int .i64 a0_7] 37 (0, 0)) (za0 BK26001.out)) : gb26002 ≠ gb26001)); clear BK26001; clear HB; have BK26001 := n0_; have HB := n1_; have BK26002 := n2_; have GW26002 := n3_; have GE26002 := n4_; have NB26001_26002 := n5_; have NB26002_26001 := n6_; clear n0_ n1_ n2_ n3_ n4_ n5_ n6_; clear hb hbox hg; have hnb40 := NB26001_26002.out; have hnc40 := NB26002_26001.out; obtain ⟨hcz41_0, hcz41_1, hcz41_2, hcz41_3, hcz41_4, hcz41_5, hcz41_6, hcz41_7, hfz41_0, hfz41_1, hfz41_2, hfz41_3, hfz41_4, hfz41_5, hfz41_6, hfz41_7⟩ := blk8 BK26001.out; obtain ⟨hcz42_0, hcz42_1, hcz42_2, hfz42_0, hfz42_1, hfz42_2⟩ := blk3 BK26002.out) | (go_at_call 59; (with_reducible refine (impl_ApplyValues.calls a0_1 a1_0 a1_1 a1_2 t26003 _ A3.out).mono ?_); rintro e w43 ⟨rfl, hb⟩; have n0_ := Aside0.mk (blk_below (g := gb26001) (o := .cells #[.int .i64 a0_0, .string a0_1, .string a0_2, .int .i64 a0_3, .string a0_4, .slice A0_5 l0_5.length c0_5, .slice A0_6 l0_6.length c0_6, .int .i64 a0_7] 37 (0, 0)) (za0 BK26001.out) hb); have n1_ := Aside0.mk (blk_below (g := gb26002) (o := .cells #[.string a1_0, .string a1_1, .string a1_2] 39 (0, 0)) (za0 BK26002.out) hb); have n2_ := Aside0.mk (below_step za2 hb); clear BK26001; clear BK26002; clear HB; have BK26001 := n0_; have BK26002 := n1_; have HB := n2_; clear n0_ n1_ n2_; (try clear hb); (try clear hb2); (try clear hk); (try clear hi); obtain ⟨hcz44_0, hcz44_1, hcz44_2, hcz44_3, hcz44_4, hcz44_5, hcz44_6, hcz44_7, hfz44_0, hfz44_1, hfz44_2, hfz44_3, hfz44_4, hfz44_5, hfz44_6, hfz44_7⟩ := blk8 BK26001.out) | (go_at_call 60; (with_reducible refine (impl_matches.calls a0_3 a0_4 _ _ l0_5 t26003 t26007 _ ?side1 ?side2 A37.out).mono ?_); (case side1 => repeat (first | exact (Kd.C_below HR0_5.out HB.out) | (with_reducible refine Kd.C_alloc ?_ _) | (with_reducible refine Kd.C_drewN ?_ _) | (with_reducible refine Kd.C_drew ?_))); (case side2 => exact HC0_5.out); rintro e w45 ⟨rfl, hb⟩; have n0_ := Aside0.mk (blk_below (g := gb26001) (o := .cells #[.int .i64 a0_0, .string a0_1, .string a0_2, .int .i64 a0_3, .string a0_4, .slice A0_5 l0_5.length c0_5, .slice A0_6 l0_6.length c0_6, .int .i64 a0_7] 37 (0, 0)) (za0 BK26001.out) hb); have n1_ := Aside0.mk (blk_below (g := gb26002) (o := .cells #[.string a1_0, .string a1_1, .string a1_2] 39 (0, 0)) (za0 BK26002.out) hb); have n2_ := Aside0.mk (below_step za2 hb); clear BK26001; clear BK26002; clear HB; have BK26001 := n0_; have BK26002 := n1_; have HB := n2_; clear n0_ n1_ n2_; (try clear hb); (try clear hb2); (try clear hk); (try clear hi)))
  repeat (go_quiet (first | ((with_reducible refine gate_dst (N := 2) rfl ?_); refine box_event ?hg (N := 2) ?hd (cs := #[.int .i64 a0_0, .string a0_1, .string a0_2, .int .i64 a0_3, .string a0_4, .slice A0_5 l0_5.length c0_5, .slice A0_6 l0_6.length c0_6, .int .i64 a0_7]) (t := 37) ?hr ?_; (case hd => rfl); (case hg => rfl); (case hr => first | (go_simp; done) | (go_simp; rfl)); intro gb26001 hg w38 hbox hb; have n0_ := Aside0.mk (below_step za2 hb); have n1_ := Aside0.mk (hbox); have n2_ := Aside0.mk ((by rw [hg]; exact (below_size za2) : w.heap.size ≤ gb26001)); have n3_ := Aside0.mk ((by rw [hg]; exact (below_size za2) : w.heap.size ≤ gb26001)); clear HB; have HB := n0_; have BK26001 := n1_; have GW26001 := n2_; have GE26001 := n3_; clear n0_ n1_ n2_ n3_; clear hb hbox hg) | ((with_reducible refine gate_dst (N := 3) rfl ?_); refine box_event ?hg (N := 3) ?hd (cs := #[.string a1_0, .string a1_1, .string a1_2]) (t := 39) ?hr ?_; (case hd => rfl); (case hg => rfl); (case hr => first | (go_simp; done) | (go_simp; rfl)); intro gb26002 hg w39 hbox hb; have n0_ := Aside0.mk (blk_below (g := gb26001) (o := .cells #[.int .i64 a0_0, .string a0_1, .string a0_2, .int .i64 a0_3, .string a0_4, .slice A0_5 l0_5.length c0_5, .slice A0_6 l0_6.length c0_6, .int .i64 a0_7] 37 (0, 0)) (za0 BK26001.out) hb); have n1_ := Aside0.mk (below_step za2 hb); have n2_ := Aside0.mk (hbox); have n3_ := Aside0.mk ((by rw [hg]; exact (below_size za2) : w.heap.size ≤ gb26002)); have n4_ := Aside0.mk ((by rw [hg]; exact (below_size za2) : w.heap.size ≤ gb26002)); have n5_ := Aside0.mk ((by rw [hg]; exact Nat.ne_of_lt (blk_lt (g := gb26001) (o := .cells #[.int .i64 a0_0, .string a0_1, .string a0_2, .int .i64 a0_3, .string a0_4, .slice A0_5 l0_5.length c0_5, .slice A0_6 l0_6.length c0_6, .int .i64 a0_7] 37 (0, 0)) (za0 BK26001.out)) : gb26001 ≠ gb26002)); have n6_ := Aside0.mk ((by rw [hg]; exact Nat.ne_of_gt (blk_lt (g := gb26001) (o := .cells #[.int .i64 a0_0, .string a0_1, .string a0_2, .int .i64 a0_3, .string a0_4, .slice A0_5 l0_5.length c0_5, .slice A0_6 l0_6.length c0_6, .int .i64 a0_7] 37 (0, 0)) (za0 BK26001.out)) : gb26002 ≠ gb26001)); clear BK26001; clear HB; have BK26001 := n0_; have HB := n1_; have BK26002 := n2_; have GW26002 := n3_; have GE26002 := n4_; have NB26001_26002 := n5_; have NB26002_26001 := n6_; clear n0_ n1_ n2_ n3_ n4_ n5_ n6_; clear hb hbox hg; have hnb40 := NB26001_26002.out; have hnc40 := NB26002_26001.out; obtain ⟨hcz41_0, hcz41_1, hcz41_2, hcz41_3, hcz41_4, hcz41_5, hcz41_6, hcz41_7, hfz41_0, hfz41_1, hfz41_2, hfz41_3, hfz41_4, hfz41_5, hfz41_6, hfz41_7⟩ := blk8 BK26001.out; obtain ⟨hcz42_0, hcz42_1, hcz42_2, hfz42_0, hfz42_1, hfz42_2⟩ := blk3 BK26002.out) | (go_at_call 59; (with_reducible refine (impl_ApplyValues.calls a0_1 a1_0 a1_1 a1_2 t26003 _ A3.out).mono ?_); rintro e w43 ⟨rfl, hb⟩; have n0_ := Aside0.mk (blk_below (g := gb26001) (o := .cells #[.int .i64 a0_0, .string a0_1, .string a0_2, .int .i64 a0_3, .string a0_4, .slice A0_5 l0_5.length c0_5, .slice A0_6 l0_6.length c0_6, .int .i64 a0_7] 37 (0, 0)) (za0 BK26001.out) hb); have n1_ := Aside0.mk (blk_below (g := gb26002) (o := .cells #[.string a1_0, .string a1_1, .string a1_2] 39 (0, 0)) (za0 BK26002.out) hb); have n2_ := Aside0.mk (below_step za2 hb); clear BK26001; clear BK26002; clear HB; have BK26001 := n0_; have BK26002 := n1_; have HB := n2_; clear n0_ n1_ n2_; (try clear hb); (try clear hb2); (try clear hk); (try clear hi); obtain ⟨hcz44_0, hcz44_1, hcz44_2, hcz44_3, hcz44_4, hcz44_5, hcz44_6, hcz44_7, hfz44_0, hfz44_1, hfz44_2, hfz44_3, hfz44_4, hfz44_5, hfz44_6, hfz44_7⟩ := blk8 BK26001.out) | (go_at_call 60; (with_reducible refine (impl_matches.calls a0_3 a0_4 _ _ l0_5 t26003 t26007 _ ?side1 ?side2 A37.out).mono ?_); (case side1 => repeat (first | exact (Kd.C_below HR0_5.out HB.out) | (with_reducible refine Kd.C_alloc ?_ _) | (with_reducible refine Kd.C_drewN ?_ _) | (with_reducible refine Kd.C_drew ?_))); (case side2 => exact HC0_5.out); rintro e w45 ⟨rfl, hb⟩; have n0_ := Aside0.mk (blk_below (g := gb26001) (o := .cells #[.int .i64 a0_0, .string a0_1, .string a0_2, .int .i64 a0_3, .string a0_4, .slice A0_5 l0_5.length c0_5, .slice A0_6 l0_6.length c0_6, .int .i64 a0_7] 37 (0, 0)) (za0 BK26001.out) hb); have n1_ := Aside0.mk (blk_below (g := gb26002) (o := .cells #[.string a1_0, .string a1_1, .string a1_2] 39 (0, 0)) (za0 BK26002.out) hb); have n2_ := Aside0.mk (below_step za2 hb); clear BK26001; clear BK26002; clear HB; have BK26001 := n0_; have BK26002 := n1_; have HB := n2_; clear n0_ n1_ n2_; (try clear hb); (try clear hb2); (try clear hk); (try clear hi))); try go_wp2_with (first | ((with_reducible refine gate_dst (N := 2) rfl ?_); refine box_event ?hg (N := 2) ?hd (cs := #[.int .i64 a0_0, .string a0_1, .string a0_2, .int .i64 a0_3, .string a0_4, .slice A0_5 l0_5.length c0_5, .slice A0_6 l0_6.length c0_6, .int .i64 a0_7]) (t := 37) ?hr ?_; (case hd => rfl); (case hg => rfl); (case hr => first | (go_simp; done) | (go_simp; rfl)); intro gb26001 hg w38 hbox hb; have n0_ := Aside0.mk (below_step za2 hb); have n1_ := Aside0.mk (hbox); have n2_ := Aside0.mk ((by rw [hg]; exact (below_size za2) : w.heap.size ≤ gb26001)); have n3_ := Aside0.mk ((by rw [hg]; exact (below_size za2) : w.heap.size ≤ gb26001)); clear HB; have HB := n0_; have BK26001 := n1_; have GW26001 := n2_; have GE26001 := n3_; clear n0_ n1_ n2_ n3_; clear hb hbox hg) | ((with_reducible refine gate_dst (N := 3) rfl ?_); refine box_event ?hg (N := 3) ?hd (cs := #[.string a1_0, .string a1_1, .string a1_2]) (t := 39) ?hr ?_; (case hd => rfl); (case hg => rfl); (case hr => first | (go_simp; done) | (go_simp; rfl)); intro gb26002 hg w39 hbox hb; have n0_ := Aside0.mk (blk_below (g := gb26001) (o := .cells #[.int .i64 a0_0, .string a0_1, .string a0_2, .int .i64 a0_3, .string a0_4, .slice A0_5 l0_5.length c0_5, .slice A0_6 l0_6.length c0_6, .int .i64 a0_7] 37 (0, 0)) (za0 BK26001.out) hb); have n1_ := Aside0.mk (below_step za2 hb); have n2_ := Aside0.mk (hbox); have n3_ := Aside0.mk ((by rw [hg]; exact (below_size za2) : w.heap.size ≤ gb26002)); have n4_ := Aside0.mk ((by rw [hg]; exact (below_size za2) : w.heap.size ≤ gb26002)); have n5_ := Aside0.mk ((by rw [hg]; exact Nat.ne_of_lt (blk_lt (g := gb26001) (o := .cells #[.int .i64 a0_0, .string a0_1, .string a0_2, .int .i64 a0_3, .string a0_4, .slice A0_5 l0_5.length c0_5, .slice A0_6 l0_6.length c0_6, .int .i64 a0_7] 37 (0, 0)) (za0 BK26001.out)) : gb26001 ≠ gb26002)); have n6_ := Aside0.mk ((by rw [hg]; exact Nat.ne_of_gt (blk_lt (g := gb26001) (o := .cells #[.int .i64 a0_0, .string a0_1, .string a0_2, .int .i64 a0_3, .string a0_4, .slice A0_5 l0_5.length c0_5, .slice A0_6 l0_6.length c0_6, .int .i64 a0_7] 37 (0, 0)) (za0 BK26001.out)) : gb26002 ≠ gb26001)); clear BK26001; clear HB; have BK26001 := n0_; have HB := n1_; have BK26002 := n2_; have GW26002 := n3_; have GE26002 := n4_; have NB26001_26002 := n5_; have NB26002_26001 := n6_; clear n0_ n1_ n2_ n3_ n4_ n5_ n6_; clear hb hbox hg; have hnb40 := NB26001_26002.out; have hnc40 := NB26002_26001.out; obtain ⟨hcz41_0, hcz41_1, hcz41_2, hcz41_3, hcz41_4, hcz41_5, hcz41_6, hcz41_7, hfz41_0, hfz41_1, hfz41_2, hfz41_3, hfz41_4, hfz41_5, hfz41_6, hfz41_7⟩ := blk8 BK26001.out; obtain ⟨hcz42_0, hcz42_1, hcz42_2, hfz42_0, hfz42_1, hfz42_2⟩ := blk3 BK26002.out) | (go_at_call 59; (with_reducible refine (impl_ApplyValues.calls a0_1 a1_0 a1_1 a1_2 t26003 _ A3.out).mono ?_); rintro e w43 ⟨rfl, hb⟩; have n0_ := Aside0.mk (blk_below (g := gb26001) (o := .cells #[.int .i64 a0_0, .string a0_1, .string a0_2, .int .i64 a0_3, .string a0_4, .slice A0_5 l0_5.length c0_5, .slice A0_6 l0_6.length c0_6, .int .i64 a0_7] 37 (0, 0)) (za0 BK26001.out) hb); have n1_ := Aside0.mk (blk_below (g := gb26002) (o := .cells #[.string a1_0, .string a1_1, .string a1_2] 39 (0, 0)) (za0 BK26002.out) hb); have n2_ := Aside0.mk (below_step za2 hb); clear BK26001; clear BK26002; clear HB; have BK26001 := n0_; have BK26002 := n1_; have HB := n2_; clear n0_ n1_ n2_; (try clear hb); (try clear hb2); (try clear hk); (try clear hi); obtain ⟨hcz44_0, hcz44_1, hcz44_2, hcz44_3, hcz44_4, hcz44_5, hcz44_6, hcz44_7, hfz44_0, hfz44_1, hfz44_2, hfz44_3, hfz44_4, hfz44_5, hfz44_6, hfz44_7⟩ := blk8 BK26001.out) | (go_at_call 60; (with_reducible refine (impl_matches.calls a0_3 a0_4 _ _ l0_5 t26003 t26007 _ ?side1 ?side2 A37.out).mono ?_); (case side1 => repeat (first | exact (Kd.C_below HR0_5.out HB.out) | (with_reducible refine Kd.C_alloc ?_ _) | (with_reducible refine Kd.C_drewN ?_ _) | (with_reducible refine Kd.C_drew ?_))); (case side2 => exact HC0_5.out); rintro e w45 ⟨rfl, hb⟩; have n0_ := Aside0.mk (blk_below (g := gb26001) (o := .cells #[.int .i64 a0_0, .string a0_1, .string a0_2, .int .i64 a0_3, .string a0_4, .slice A0_5 l0_5.length c0_5, .slice A0_6 l0_6.length c0_6, .int .i64 a0_7] 37 (0, 0)) (za0 BK26001.out) hb); have n1_ := Aside0.mk (blk_below (g := gb26002) (o := .cells #[.string a1_0, .string a1_1, .string a1_2] 39 (0, 0)) (za0 BK26002.out) hb); have n2_ := Aside0.mk (below_step za2 hb); clear BK26001; clear BK26002; clear HB; have BK26001 := n0_; have BK26002 := n1_; have HB := n2_; clear n0_ n1_ n2_; (try clear hb); (try clear hb2); (try clear hk); (try clear hi))))
  go_ret
  exact ⟨za5, za2⟩
 rw [if_neg c36] at H
 have c36b0 : (a0_0 == 4) = false := beq_eq_false_iff_ne.mpr c36
 have c36b1 : (a0_0 != 4) = true := bne_iff_ne.mpr c36
 by_cases c46 : 0 < (l0_6.length : Int)
 rw [if_pos c46] at H
 have c46b0 : decide (0 < (l0_6.length : Int)) = true := decide_eq_true c46
 have c46b1 : decide (0 < l0_6.length) = true := decide_eq_true (by omega)
 clear c46
 by_cases c47 : 1 < (l0_6.length : Int)
 rw [if_pos c47] at H
 have c47b0 : decide (1 < (l0_6.length : Int)) = true := decide_eq_true c47
 have c47b1 : decide (1 < l0_6.length) = true := decide_eq_true (by omega)
 clear c47
 by_cases c48 : 2 < (l0_6.length : Int)
 ·rw [if_pos c48] at H
  have c48b0 : decide (2 < (l0_6.length : Int)) = true := decide_eq_true c48
  have c48b1 : decide (2 < l0_6.length) = true := decide_eq_true (by omega)
  clear c48
  obtain rfl := Option.some.inj H
  go_enter Try.func26, Try.ntmps26
  go_wp2_with (first | ((with_reducible refine gate_dst (N := 2) rfl ?_); refine box_event ?hg (N := 2) ?hd (cs := #[.int .i64 a0_0, .string a0_1, .string a0_2, .int .i64 a0_3, .string a0_4, .slice A0_5 l0_5.length c0_5, .slice A0_6 l0_6.length c0_6, .int .i64 a0_7]) (t := 37) ?hr ?_; (case hd => rfl); (case hg => rfl); (case hr => first | (go_simp; done) | (go_simp; rfl)); intro gb26001 hg w49 hbox hb; have n0_ := Aside0.mk (below_step za2 hb); have n1_ := Aside0.mk (hbox); have n2_ := Aside0.mk ((by rw [hg]; exact (below_size za2) : w.heap.size ≤ gb26001)); have n3_ := Aside0.mk ((by rw [hg]; exact (below_size za2) : w.heap.size ≤ gb26001)); clear HB; have HB := n0_; have BK26001 := n1_; have GW26001 := n2_; have GE26001 := n3_; clear n0_ n1_ n2_ n3_; clear hb hbox hg) | ((with_reducible refine gate_dst (N := 3) rfl ?_); refine box_event ?hg (N := 3) ?hd (cs := #[.string a1_0, .string a1_1, .string a1_2]) (t := 39) ?hr ?_; (case hd => rfl); (case hg => rfl); (case hr => first | (go_simp; done) | (go_simp; rfl)); intro gb26002 hg w50 hbox hb; have n0_ := Aside0.mk (blk_below (g := gb26001) (o := .cells #[.int .i64 a0_0, .string a0_1, .string a0_2, .int .i64 a0_3, .string a0_4, .slice A0_5 l0_5.length c0_5, .slice A0_6 l0_6.length c0_6, .int .i64 a0_7] 37 (0, 0)) (za0 BK26001.out) hb); have n1_ := Aside0.mk (below_step za2 hb); have n2_ := Aside0.mk (hbox); have n3_ := Aside0.mk ((by rw [hg]; exact (below_size za2) : w.heap.size ≤ gb26002)); have n4_ := Aside0.mk ((by rw [hg]; exact (below_size za2) : w.heap.size ≤ gb26002)); have n5_ := Aside0.mk ((by rw [hg]; exact Nat.ne_of_lt (blk_lt (g := gb26001) (o := .cells #[.int .i64 a0_0, .string a0_1, .string a0_2, .int .i64 a0_3, .string a0_4, .slice A0_5 l0_5.length c0_5, .slice A0_6 l0_6.length c0_6, .int .i64 a0_7] 37 (0, 0)) (za0 BK26001.out)) : gb26001 ≠ gb26002)); have n6_ := Aside0.mk ((by rw [hg]; exact Nat.ne_of_gt (blk_lt (g := gb26001) (o := .cells #[.int .i64 a0_0, .string a0_1, .string a0_2, .int .i64 a0_3, .string a0_4, .slice A0_5 l0_5.length c0_5, .slice A0_6 l0_6.length c0_6, .int .i64 a0_7] 37 (0, 0)) (za0 BK26001.out)) : gb26002 ≠ gb26001)); clear BK26001; clear HB; have BK26001 := n0_; have HB := n1_; have BK26002 := n2_; have GW26002 := n3_; have GE26002 := n4_; have NB26001_26002 := n5_; have NB26002_26001 := n6_; clear n0_ n1_ n2_ n3_ n4_ n5_ n6_; clear hb hbox hg; have hnb51 := NB26001_26002.out; have hnc51 := NB26002_26001.out; obtain ⟨hcz52_0, hcz52_1, hcz52_2, hcz52_3, hcz52_4, hcz52_5, hcz52_6, hcz52_7, hfz52_0, hfz52_1, hfz52_2, hfz52_3, hfz52_4, hfz52_5, hfz52_6, hfz52_7⟩ := blk8 BK26001.out; obtain ⟨hcz53_0, hcz53_1, hcz53_2, hfz53_0, hfz53_1, hfz53_2⟩ := blk3 BK26002.out) | (go_at_call 59; (with_reducible refine (impl_ApplyValues.calls a0_1 a1_0 a1_1 a1_2 t26003 _ A3.out).mono ?_); rintro e w54 ⟨rfl, hb⟩; have n0_ := Aside0.mk (blk_below (g := gb26001) (o := .cells #[.int .i64 a0_0, .string a0_1, .string a0_2, .int .i64 a0_3, .string a0_4, .slice A0_5 l0_5.length c0_5, .slice A0_6 l0_6.length c0_6, .int .i64 a0_7] 37 (0, 0)) (za0 BK26001.out) hb); have n1_ := Aside0.mk (blk_below (g := gb26002) (o := .cells #[.string a1_0, .string a1_1, .string a1_2] 39 (0, 0)) (za0 BK26002.out) hb); have n2_ := Aside0.mk (below_step za2 hb); clear BK26001; clear BK26002; clear HB; have BK26001 := n0_; have BK26002 := n1_; have HB := n2_; clear n0_ n1_ n2_; (try clear hb); (try clear hb2); (try clear hk); (try clear hi); obtain ⟨hcz55_0, hcz55_1, hcz55_2, hcz55_3, hcz55_4, hcz55_5, hcz55_6, hcz55_7, hfz55_0, hfz55_1, hfz55_2, hfz55_3, hfz55_4, hfz55_5, hfz55_6, hfz55_7⟩ := blk8 BK26001.out; have p26008 : 0 ≤ (0 : Int) := (by omega); have q26008 : 0 < (l0_6.length : Int) := of_decide_eq_true za7; obtain ⟨ad26008, e26008, hx26008_0⟩ := Kd.at_int HR0_6.out 0 p26008 q26008; cases e26008; have qi26008 : (0 < l0_6.length) = True := eq_true (by omega); (try rw [show ((0 : Int)).toNat = 0 from rfl] at hx26008_0); (try rw [Addr.add_zero'] at hx26008_0); replace hx26008_0 := (HB.out.cell (World.block_lt_of_cell? w _ hx26008_0)).trans hx26008_0; replace p26008 := eq_true p26008; replace q26008 := eq_true q26008; obtain ⟨hcz56_0, hcz56_1, hcz56_2, hfz56_0, hfz56_1, hfz56_2⟩ := blk3 BK26002.out; have p26009 : 0 ≤ (1 : Int) := (by omega); have q26009 : 1 < (l0_6.length : Int) := of_decide_eq_true za7; obtain ⟨ad26009, e26009, hx26009_0⟩ := Kd.at_int HR0_6.out 1 p26009 q26009; obtain rfl : ad26008 = ad26009 := (by injection e26009); (try simp only [show (1 : Int).toNat = 1 from rfl, Nat.reduceMul, Nat.reduceEqDiff, Go.Addr.add, ↓reduceIte] at hx26009_0); have qi26009 : (1 < l0_6.length) = True := eq_true (by omega); (try rw [show ((1 : Int)).toNat = 1 from rfl] at hx26009_0); replace hx26009_0 := (HB.out.cell (World.block_lt_of_cell? w _ hx26009_0)).trans hx26009_0; replace p26009 := eq_true p26009; replace q26009 := eq_true q26009; have p26010 : 0 ≤ (2 : Int) := (by omega); have q26010 : 2 < (l0_6.length : Int) := of_decide_eq_true za7; obtain ⟨ad26010, e26010, hx26010_0⟩ := Kd.at_int HR0_6.out 2 p26010 q26010; obtain rfl : ad26008 = ad26010 := (by injection e26010); (try simp only [show (2 : Int).toNat = 2 from rfl, Nat.reduceMul, Nat.reduceEqDiff, Go.Addr.add, ↓reduceIte] at hx26010_0); have qi26010 : (2 < l0_6.length) = True := eq_true (by omega); (try rw [show ((2 : Int)).toNat = 2 from rfl] at hx26010_0); replace hx26010_0 := (HB.out.cell (World.block_lt_of_cell? w _ hx26010_0)).trans hx26010_0; replace p26010 := eq_true p26010; replace q26010 := eq_true q26010))
  repeat (go_quiet (first | ((with_reducible refine gate_dst (N := 2) rfl ?_); refine box_event ?hg (N := 2) ?hd (cs := #[.int .i64 a0_0, .string a0_1, .string a0_2, .int .i64 a0_3, .string a0_4, .slice A0_5 l0_5.length c0_5, .slice A0_6 l0_6.length c0_6, .int .i64 a0_7]) (t := 37) ?hr ?_; (case hd => rfl); (case hg => rfl); (case hr => first | (go_simp; done) | (go_simp; rfl)); intro gb26001 hg w49 hbox hb; have n0_ := Aside0.mk (below_step za2 hb); have n1_ := Aside0.mk (hbox); have n2_ := Aside0.mk ((by rw [hg]; exact (below_size za2) : w.heap.size ≤ gb26001)); have n3_ := Aside0.mk ((by rw [hg]; exact (below_size za2) : w.heap.size ≤ gb26001)); clear HB; have HB := n0_; have BK26001 := n1_; have GW26001 := n2_; have GE26001 := n3_; clear n0_ n1_ n2_ n3_; clear hb hbox hg) | ((with_reducible refine gate_dst (N := 3) rfl ?_); refine box_event ?hg (N := 3) ?hd (cs := #[.string a1_0, .string a1_1, .string a1_2]) (t := 39) ?hr ?_; (case hd => rfl); (case hg => rfl); (case hr => first | (go_simp; done) | (go_simp; rfl)); intro gb26002 hg w50 hbox hb; have n0_ := Aside0.mk (blk_below (g := gb26001) (o := .cells #[.int .i64 a0_0, .string a0_1, .string a0_2, .int .i64 a0_3, .string a0_4, .slice A0_5 l0_5.length c0_5, .slice A0_6 l0_6.length c0_6, .int .i64 a0_7] 37 (0, 0)) (za0 BK26001.out) hb); have n1_ := Aside0.mk (below_step za2 hb); have n2_ := Aside0.mk (hbox); have n3_ := Aside0.mk ((by rw [hg]; exact (below_size za2) : w.heap.size ≤ gb26002)); have n4_ := Aside0.mk ((by rw [hg]; exact (below_size za2) : w.heap.size ≤ gb26002)); have n5_ := Aside0.mk ((by rw [hg]; exact Nat.ne_of_lt (blk_lt (g := gb26001) (o := .cells #[.int .i64 a0_0, .string a0_1, .string a0_2, .int .i64 a0_3, .string a0_4, .slice A0_5 l0_5.length c0_5, .slice A0_6 l0_6.length c0_6, .int .i64 a0_7] 37 (0, 0)) (za0 BK26001.out)) : gb26001 ≠ gb26002)); have n6_ := Aside0.mk ((by rw [hg]; exact Nat.ne_of_gt (blk_lt (g := gb26001) (o := .cells #[.int .i64 a0_0, .string a0_1, .string a0_2, .int .i64 a0_3, .string a0_4, .slice A0_5 l0_5.length c0_5, .slice A0_6 l0_6.length c0_6, .int .i64 a0_7] 37 (0, 0)) (za0 BK26001.out)) : gb26002 ≠ gb26001)); clear BK26001; clear HB; have BK26001 := n0_; have HB := n1_; have BK26002 := n2_; have GW26002 := n3_; have GE26002 := n4_; have NB26001_26002 := n5_; have NB26002_26001 := n6_; clear n0_ n1_ n2_ n3_ n4_ n5_ n6_; clear hb hbox hg; have hnb51 := NB26001_26002.out; have hnc51 := NB26002_26001.out; obtain ⟨hcz52_0, hcz52_1, hcz52_2, hcz52_3, hcz52_4, hcz52_5, hcz52_6, hcz52_7, hfz52_0, hfz52_1, hfz52_2, hfz52_3, hfz52_4, hfz52_5, hfz52_6, hfz52_7⟩ := blk8 BK26001.out; obtain ⟨hcz53_0, hcz53_1, hcz53_2, hfz53_0, hfz53_1, hfz53_2⟩ := blk3 BK26002.out) | (go_at_call 59; (with_reducible refine (impl_ApplyValues.calls a0_1 a1_0 a1_1 a1_2 t26003 _ A3.out).mono ?_); rintro e w54 ⟨rfl, hb⟩; have n0_ := Aside0.mk (blk_below (g := gb26001) (o := .cells #[.int .i64 a0_0, .string a0_1, .string a0_2, .int .i64 a0_3, .string a0_4, .slice A0_5 l0_5.length c0_5, .slice A0_6 l0_6.length c0_6, .int .i64 a0_7] 37 (0, 0)) (za0 BK26001.out) hb); have n1_ := Aside0.mk (blk_below (g := gb26002) (o := .cells #[.string a1_0, .string a1_1, .string a1_2] 39 (0, 0)) (za0 BK26002.out) hb); have n2_ := Aside0.mk (below_step za2 hb); clear BK26001; clear BK26002; clear HB; have BK26001 := n0_; have BK26002 := n1_; have HB := n2_; clear n0_ n1_ n2_; (try clear hb); (try clear hb2); (try clear hk); (try clear hi); obtain ⟨hcz55_0, hcz55_1, hcz55_2, hcz55_3, hcz55_4, hcz55_5, hcz55_6, hcz55_7, hfz55_0, hfz55_1, hfz55_2, hfz55_3, hfz55_4, hfz55_5, hfz55_6, hfz55_7⟩ := blk8 BK26001.out; have p26008 : 0 ≤ (0 : Int) := (by omega); have q26008 : 0 < (l0_6.length : Int) := of_decide_eq_true za7; obtain ⟨ad26008, e26008, hx26008_0⟩ := Kd.at_int HR0_6.out 0 p26008 q26008; cases e26008; have qi26008 : (0 < l0_6.length) = True := eq_true (by omega); (try rw [show ((0 : Int)).toNat = 0 from rfl] at hx26008_0); (try rw [Addr.add_zero'] at hx26008_0); replace hx26008_0 := (HB.out.cell (World.block_lt_of_cell? w _ hx26008_0)).trans hx26008_0; replace p26008 := eq_true p26008; replace q26008 := eq_true q26008; obtain ⟨hcz56_0, hcz56_1, hcz56_2, hfz56_0, hfz56_1, hfz56_2⟩ := blk3 BK26002.out; have p26009 : 0 ≤ (1 : Int) := (by omega); have q26009 : 1 < (l0_6.length : Int) := of_decide_eq_true za7; obtain ⟨ad26009, e26009, hx26009_0⟩ := Kd.at_int HR0_6.out 1 p26009 q26009; obtain rfl : ad26008 = ad26009 := (by injection e26009); (try simp only [show (1 : Int).toNat = 1 from rfl, Nat.reduceMul, Nat.reduceEqDiff, Go.Addr.add, ↓reduceIte] at hx26009_0); have qi26009 : (1 < l0_6.length) = True := eq_true (by omega); (try rw [show ((1 : Int)).toNat = 1 from rfl] at hx26009_0); replace hx26009_0 := (HB.out.cell (World.block_lt_of_cell? w _ hx26009_0)).trans hx26009_0; replace p26009 := eq_true p26009; replace q26009 := eq_true q26009; have p26010 : 0 ≤ (2 : Int) := (by omega); have q26010 : 2 < (l0_6.length : Int) := of_decide_eq_true za7; obtain ⟨ad26010, e26010, hx26010_0⟩ := Kd.at_int HR0_6.out 2 p26010 q26010; obtain rfl : ad26008 = ad26010 := (by injection e26010); (try simp only [show (2 : Int).toNat = 2 from rfl, Nat.reduceMul, Nat.reduceEqDiff, Go.Addr.add, ↓reduceIte] at hx26010_0); have qi26010 : (2 < l0_6.length) = True := eq_true (by omega); (try rw [show ((2 : Int)).toNat = 2 from rfl] at hx26010_0); replace hx26010_0 := (HB.out.cell (World.block_lt_of_cell? w _ hx26010_0)).trans hx26010_0; replace p26010 := eq_true p26010; replace q26010 := eq_true q26010)); try go_wp2_with (first | ((with_reducible refine gate_dst (N := 2) rfl ?_); refine box_event ?hg (N := 2) ?hd (cs := #[.int .i64 a0_0, .string a0_1, .string a0_2, .int .i64 a0_3, .string a0_4, .slice A0_5 l0_5.length c0_5, .slice A0_6 l0_6.length c0_6, .int .i64 a0_7]) (t := 37) ?hr ?_; (case hd => rfl); (case hg => rfl); (case hr => first | (go_simp; done) | (go_simp; rfl)); intro gb26001 hg w49 hbox hb; have n0_ := Aside0.mk (below_step za2 hb); have n1_ := Aside0.mk (hbox); have n2_ := Aside0.mk ((by rw [hg]; exact (below_size za2) : w.heap.size ≤ gb26001)); have n3_ := Aside0.mk ((by rw [hg]; exact (below_size za2) : w.heap.size ≤ gb26001)); clear HB; have HB := n0_; have BK26001 := n1_; have GW26001 := n2_; have GE26001 := n3_; clear n0_ n1_ n2_ n3_; clear hb hbox hg) | ((with_reducible refine gate_dst (N := 3) rfl ?_); refine box_event ?hg (N := 3) ?hd (cs := #[.string a1_0, .string a1_1, .string a1_2]) (t := 39) ?hr ?_; (case hd => rfl); (case hg => rfl); (case hr => first | (go_simp; done) | (go_simp; rfl)); intro gb26002 hg w50 hbox hb; have n0_ := Aside0.mk (blk_below (g := gb26001) (o := .cells #[.int .i64 a0_0, .string a0_1, .string a0_2, .int .i64 a0_3, .string a0_4, .slice A0_5 l0_5.length c0_5, .slice A0_6 l0_6.length c0_6, .int .i64 a0_7] 37 (0, 0)) (za0 BK26001.out) hb); have n1_ := Aside0.mk (below_step za2 hb); have n2_ := Aside0.mk (hbox); have n3_ := Aside0.mk ((by rw [hg]; exact (below_size za2) : w.heap.size ≤ gb26002)); have n4_ := Aside0.mk ((by rw [hg]; exact (below_size za2) : w.heap.size ≤ gb26002)); have n5_ := Aside0.mk ((by rw [hg]; exact Nat.ne_of_lt (blk_lt (g := gb26001) (o := .cells #[.int .i64 a0_0, .string a0_1, .string a0_2, .int .i64 a0_3, .string a0_4, .slice A0_5 l0_5.length c0_5, .slice A0_6 l0_6.length c0_6, .int .i64 a0_7] 37 (0, 0)) (za0 BK26001.out)) : gb26001 ≠ gb26002)); have n6_ := Aside0.mk ((by rw [hg]; exact Nat.ne_of_gt (blk_lt (g := gb26001) (o := .cells #[.int .i64 a0_0, .string a0_1, .string a0_2, .int .i64 a0_3, .string a0_4, .slice A0_5 l0_5.length c0_5, .slice A0_6 l0_6.length c0_6, .int .i64 a0_7] 37 (0, 0)) (za0 BK26001.out)) : gb26002 ≠ gb26001)); clear BK26001; clear HB; have BK26001 := n0_; have HB := n1_; have BK26002 := n2_; have GW26002 := n3_; have GE26002 := n4_; have NB26001_26002 := n5_; have NB26002_26001 := n6_; clear n0_ n1_ n2_ n3_ n4_ n5_ n6_; clear hb hbox hg; have hnb51 := NB26001_26002.out; have hnc51 := NB26002_26001.out; obtain ⟨hcz52_0, hcz52_1, hcz52_2, hcz52_3, hcz52_4, hcz52_5, hcz52_6, hcz52_7, hfz52_0, hfz52_1, hfz52_2, hfz52_3, hfz52_4, hfz52_5, hfz52_6, hfz52_7⟩ := blk8 BK26001.out; obtain ⟨hcz53_0, hcz53_1, hcz53_2, hfz53_0, hfz53_1, hfz53_2⟩ := blk3 BK26002.out) | (go_at_call 59; (with_reducible refine (impl_ApplyValues.calls a0_1 a1_0 a1_1 a1_2 t26003 _ A3.out).mono ?_); rintro e w54 ⟨rfl, hb⟩; have n0_ := Aside0.mk (blk_below (g := gb26001) (o := .cells #[.int .i64 a0_0, .string a0_1, .string a0_2, .int .i64 a0_3, .string a0_4, .slice A0_5 l0_5.length c0_5, .slice A0_6 l0_6.length c0_6, .int .i64 a0_7] 37 (0, 0)) (za0 BK26001.out) hb); have n1_ := Aside0.mk (blk_below (g := gb26002) (o := .cells #[.string a1_0, .string a1_1, .string a1_2] 39 (0, 0)) (za0 BK26002.out) hb); have n2_ := Aside0.mk (below_step za2 hb); clear BK26001; clear BK26002; clear HB; have BK26001 := n0_; have BK26002 := n1_; have HB := n2_; clear n0_ n1_ n2_; (try clear hb); (try clear hb2); (try clear hk); (try clear hi); obtain ⟨hcz55_0, hcz55_1, hcz55_2, hcz55_3, hcz55_4, hcz55_5, hcz55_6, hcz55_7, hfz55_0, hfz55_1, hfz55_2, hfz55_3, hfz55_4, hfz55_5, hfz55_6, hfz55_7⟩ := blk8 BK26001.out; have p26008 : 0 ≤ (0 : Int) := (by omega); have q26008 : 0 < (l0_6.length : Int) := of_decide_eq_true za7; obtain ⟨ad26008, e26008, hx26008_0⟩ := Kd.at_int HR0_6.out 0 p26008 q26008; cases e26008; have qi26008 : (0 < l0_6.length) = True := eq_true (by omega); (try rw [show ((0 : Int)).toNat = 0 from rfl] at hx26008_0); (try rw [Addr.add_zero'] at hx26008_0); replace hx26008_0 := (HB.out.cell (World.block_lt_of_cell? w _ hx26008_0)).trans hx26008_0; replace p26008 := eq_true p26008; replace q26008 := eq_true q26008; obtain ⟨hcz56_0, hcz56_1, hcz56_2, hfz56_0, hfz56_1, hfz56_2⟩ := blk3 BK26002.out; have p26009 : 0 ≤ (1 : Int) := (by omega); have q26009 : 1 < (l0_6.length : Int) := of_decide_eq_true za7; obtain ⟨ad26009, e26009, hx26009_0⟩ := Kd.at_int HR0_6.out 1 p26009 q26009; obtain rfl : ad26008 = ad26009 := (by injection e26009); (try simp only [show (1 : Int).toNat = 1 from rfl, Nat.reduceMul, Nat.reduceEqDiff, Go.Addr.add, ↓reduceIte] at hx26009_0); have qi26009 : (1 < l0_6.length) = True := eq_true (by omega); (try rw [show ((1 : Int)).toNat = 1 from rfl] at hx26009_0); replace hx26009_0 := (HB.out.cell (World.block_lt_of_cell? w _ hx26009_0)).trans hx26009_0; replace p26009 := eq_true p26009; replace q26009 := eq_true q26009; have p26010 : 0 ≤ (2 : Int) := (by omega); have q26010 : 2 < (l0_6.length : Int) := of_decide_eq_true za7; obtain ⟨ad26010, e26010, hx26010_0⟩ := Kd.at_int HR0_6.out 2 p26010 q26010; obtain rfl : ad26008 = ad26010 := (by injection e26010); (try simp only [show (2 : Int).toNat = 2 from rfl, Nat.reduceMul, Nat.reduceEqDiff, Go.Addr.add, ↓reduceIte] at hx26010_0); have qi26010 : (2 < l0_6.length) = True := eq_true (by omega); (try rw [show ((2 : Int)).toNat = 2 from rfl] at hx26010_0); replace hx26010_0 := (HB.out.cell (World.block_lt_of_cell? w _ hx26010_0)).trans hx26010_0; replace p26010 := eq_true p26010; replace q26010 := eq_true q26010)))
  go_ret
  exact ⟨za5, za2⟩
 ·rw [if_neg c48] at H
  exact absurd H (by simp)
 ·rw [if_neg c47] at H
  exact absurd H (by simp)
 ·rw [if_neg c46] at H
  exact absurd H (by simp)
end Go.Proofs.Ytffjfdoghofkdaa.A
namespace Go.Proofs.Ytffjfdoghofkdaa.A
open Go.RowKit Go.Proofs.Ytffjfdoghofkdaa.Ext Go.Proofs.YtffjfdoghofkdaaW.PrintWords Go.Proofs.YtffjfdoghofkdaaW.PrintLast Go.Proofs.YtffjfdoghofkdaaW.PrintMore
attribute [local go_sem] max2_int min2_int max_two min_two max_three min_three max_four min_four
def impl_HoldsFor.f (k : Nat) (a0_0 : Int) (a0_1 : ByteArray) (a0_2 : ByteArray) (a0_3 : Int) (a0_4 : ByteArray) (l0_5 : List (S35)) (l0_6 : List Int) (a0_7 : Int) (a1_0 : ByteArray) (a1_1 : ByteArray) (a1_2 : ByteArray) : Option (Bool) := (impl_IsValidConstraint.f k a0_0 a0_1 a0_2 a0_3 a0_4 l0_5 l0_6 a0_7).bind fun t10003 => (if t10003 = true then ((impl_IsValues.f k a1_0 a1_1 a1_2).bind fun t10004 => (if t10004 = true then ((impl_holds.f a0_0 a0_1 a0_2 a0_3 a0_4 l0_5 l0_6 a0_7 a1_0 a1_1 a1_2).bind fun t10005 => (some t10005)) else (some false))) else (some false))
theorem impl_HoldsFor.mono : ∀ a0 a1 a2 a3 a4 a5 a6 a7 a8 a9 a10 k, LeO (impl_HoldsFor.f k a0 a1 a2 a3 a4 a5 a6 a7 a8 a9 a10) (impl_HoldsFor.f (k + 1) a0 a1 a2 a3 a4 a5 a6 a7 a8 a9 a10) := by
 intro a0 a1 a2 a3 a4 a5 a6 a7 a8 a9 a10 k
 unfold impl_HoldsFor.f
 repeat' first
   | with_reducible first | exact impl_IsValidConstraint.mono _ _ _ _ _ _ _ _ _ | exact impl_IsValues.mono _ _ _ _ | exact LeO.refl _ | exact LeO.none _ | refine LeO.ite ?_ ?_ | refine LeO.bind ?_ (fun _ => ?_)
theorem impl_HoldsFor.calls (k : Nat) (a0_0 : Int) (a0_1 : ByteArray) (a0_2 : ByteArray) (a0_3 : Int) (a0_4 : ByteArray) (A0_5 : Option Addr) (c0_5 : Nat) (l0_5 : List (S35)) (A0_6 : Option Addr) (c0_6 : Nat) (l0_6 : List Int) (a0_7 : Int) (a1_0 : ByteArray) (a1_1 : ByteArray) (a1_2 : ByteArray) (r : Bool) (w : World) (hr0_5 : Kd.C k35 w A0_5 l0_5.length l0_5) (hc0_5 : l0_5.length ≤ c0_5) (hr0_6 : Kd.C (Kd.int .i64) w A0_6 l0_6.length l0_6) (hc0_6 : l0_6.length ≤ c0_6) (h : impl_HoldsFor.f k a0_0 a0_1 a0_2 a0_3 a0_4 l0_5 l0_6 a0_7 a1_0 a1_1 a1_2 = some r) :
  Calls Try.prog 10 #[.agg #[.int .i64 a0_0, .string a0_1, .string a0_2, .int .i64 a0_3, .string a0_4, .slice A0_5 l0_5.length c0_5, .slice A0_6 l0_6.length c0_6, .int .i64 a0_7], .agg #[.string a1_0, .string a1_1, .string a1_2]] w fun e w' => e = .returned (.bool r) ∧ Below w.heap.size w w' := by
 have hu37 := Try.underlying37
 have hu39 := Try.underlying39
 have HR0_5 := Aside0.mk hr0_5
 have HC0_5 := Aside0.mk hc0_5
 clear hr0_5 hc0_5
 have HR0_6 := Aside0.mk hr0_6
 have HC0_6 := Aside0.mk hc0_6
 clear hr0_6 hc0_6
 have HB := Aside0.mk (Below.refl w.heap.size w)
 have H : ((impl_IsValidConstraint.f k a0_0 a0_1 a0_2 a0_3 a0_4 l0_5 l0_6 a0_7).bind fun t10003 => (if t10003 = true then ((impl_IsValues.f k a1_0 a1_1 a1_2).bind fun t10004 => (if t10004 = true then ((impl_holds.f a0_0 a0_1 a0_2 a0_3 a0_4 l0_5 l0_6 a0_7 a1_0 a1_1 a1_2).bind fun t10005 => (some t10005)) else (some false))) else (some false))) = some r := h
 clear h
 replace H := Option.bind_eq_some_iff.mp H
 obtain ⟨t10003, A30, H⟩ := H
 replace H : (if t10003 = true then ((impl_IsValues.f k a1_0 a1_1 a1_2).bind fun t10004 => (if t10004 = true then ((impl_holds.f a0_0 a0_1 a0_2 a0_3 a0_4 l0_5 l0_6 a0_7 a1_0 a1_1 a1_2).bind fun t10005 => (some t10005)) else (some false))) else (some false)) = some r := H
 have A3 := Aside0.mk A30
 clear A30
 by_cases c4 : t10003 = true
 subst c4
 have H1 : ((impl_IsValues.f k a1_0 a1_1 a1_2).bind fun t10004 => (if t10004 = true then ((impl_holds.f a0_0 a0_1 a0_2 a0_3 a0_4 l0_5 l0_6 a0_7 a1_0 a1_1 a1_2).bind fun t10005 => (some t10005)) else (some false))) = some r := by rw [if_pos rfl] at H; exact H
 clear H
 have H := H1
 clear H1
 replace H := Option.bind_eq_some_iff.mp H
 obtain ⟨t10004, A50, H⟩ := H
 replace H : (if t10004 = true then ((impl_holds.f a0_0 a0_1 a0_2 a0_3 a0_4 l0_5 l0_6 a0_7 a1_0 a1_1 a1_2).bind fun t10005 => (some t10005)) else (some false)) = some r := H
 have A5 := Aside0.mk A50
 clear A50
 by_cases c6 : t10004 = true
 subst c6
 have H1 : ((impl_holds.f a0_0 a0_1 a0_2 a0_3 a0_4 l0_5 l0_6 a0_7 a1_0 a1_1 a1_2).bind fun t10005 => (some t10005)) = some r := by rw [if_pos rfl] at H; exact H
 clear H
 have H := H1
 clear H1
 replace H := Option.bind_eq_some_iff.mp H
 obtain ⟨t10005, A70, H⟩ := H
 replace H : (some t10005) = some r := H
 have A7 := Aside0.mk A70
 clear A70
 rotate_left
 replace c6 := Bool.eq_false_iff.mpr c6
 subst c6
 have H1 : (some false) = some r := by rw [if_neg (show ¬ (false = true) by decide)] at H; exact H
 clear H
 have H := H1
 clear H1
 rotate_left
 replace c4 := Bool.eq_false_iff.mpr c4
 subst c4
 have H1 : (some false) = some r := by rw [if_neg (show ¬ (false = true) by decide)] at H; exact H
 clear H
 have H := H1
 clear H1
 rotate_left
 all_goals
  obtain rfl := Option.some.inj H
  go_enter Try.func10, Try.ntmps10
  go_wp2_with (first | ((with_reducible refine gate_dst (N := 2) rfl ?_); refine box_event ?hg (N := 2) ?hd (cs := #[.int .i64 a0_0, .string a0_1, .string a0_2, .int .i64 a0_3, .string a0_4, .slice A0_5 l0_5.length c0_5, .slice A0_6 l0_6.length c0_6, .int .i64 a0_7]) (t := 37) ?hr ?_; (case hd => rfl); (case hg => rfl); (case hr => first | (go_simp; done) | (go_simp; rfl)); intro gb10001 hg w18 hbox hb; have n0_ := Aside0.mk (below_step za2 hb); have n1_ := Aside0.mk (hbox); have n2_ := Aside0.mk ((by rw [hg]; exact (below_size za2) : w.heap.size ≤ gb10001)); have n3_ := Aside0.mk ((by rw [hg]; exact (below_size za2) : w.heap.size ≤ gb10001)); clear HB; have HB := n0_; have BK10001 := n1_; have GW10001 := n2_; have GE10001 := n3_; clear n0_ n1_ n2_ n3_; clear hb hbox hg) | ((with_reducible refine gate_dst (N := 3) rfl ?_); refine box_event ?hg (N := 3) ?hd (cs := #[.string a1_0, .string a1_1, .string a1_2]) (t := 39) ?hr ?_; (case hd => rfl); (case hg => rfl); (case hr => first | (go_simp; done) | (go_simp; rfl)); intro gb10002 hg w19 hbox hb; have n0_ := Aside0.mk (blk_below (g := gb10001) (o := .cells #[.int .i64 a0_0, .string a0_1, .string a0_2, .int .i64 a0_3, .string a0_4, .slice A0_5 l0_5.length c0_5, .slice A0_6 l0_6.length c0_6, .int .i64 a0_7] 37 (0, 0)) (za0 BK10001.out) hb); have n1_ := Aside0.mk (below_step za2 hb); have n2_ := Aside0.mk (hbox); have n3_ := Aside0.mk ((by rw [hg]; exact (below_size za2) : w.heap.size ≤ gb10002)); have n4_ := Aside0.mk ((by rw [hg]; exact (below_size za2) : w.heap.size ≤ gb10002)); have n5_ := Aside0.mk ((by rw [hg]; exact Nat.ne_of_lt (blk_lt (g := gb10001) (o := .cells #[.int .i64 a0_0, .string a0_1, .string a0_2, .int .i64 a0_3, .string a0_4, .slice A0_5 l0_5.length c0_5, .slice A0_6 l0_6.length c0_6, .int .i64 a0_7] 37 (0, 0)) (za0 BK10001.out)) : gb10001 ≠ gb10002)); have n6_ := Aside0.mk ((by rw [hg]; exact Nat.ne_of_gt (blk_lt (g := gb10001) (o := .cells #[.int .i64 a0_0, .string a0_1, .string a0_2, .int .i64 a0_3, .string a0_4, .slice A0_5 l0_5.length c0_5, .slice A0_6 l0_6.length c0_6, .int .i64 a0_7] 37 (0, 0)) (za0 BK10001.out)) : gb10002 ≠ gb10001)); clear BK10001; clear HB; have BK10001 := n0_; have HB := n1_; have BK10002 := n2_; have GW10002 := n3_; have GE10002 := n4_; have NB10001_10002 := n5_; have NB10002_10001 := n6_; clear n0_ n1_ n2_ n3_ n4_ n5_ n6_; clear hb hbox hg; have hnb20 := NB10001_10002.out; have hnc20 := NB10002_10001.out; obtain ⟨hcz21_0, hcz21_1, hcz21_2, hcz21_3, hcz21_4, hcz21_5, hcz21_6, hcz21_7, hfz21_0, hfz21_1, hfz21_2, hfz21_3, hfz21_4, hfz21_5, hfz21_6, hfz21_7⟩ := blk8 BK10001.out) | ((with_reducible refine gate_callee (f := 24) rfl ?_); refine goesL_ (some 6) rfl rfl Try.func24 (by kernel_rfl) rfl #[.agg #[.int .i64 a0_0, .string a0_1, .string a0_2, .int .i64 a0_3, .string a0_4, .slice A0_5 l0_5.length c0_5, .slice A0_6 l0_6.length c0_6, .int .i64 a0_7]] rfl za3 ?_; (with_reducible refine (impl_IsValidConstraint.calls k a0_0 a0_1 a0_2 a0_3 a0_4 _ _ l0_5 _ _ l0_6 a0_7 _ _ ?side1 ?side2 ?side3 ?side4 A3.out).mono ?_); (case side1 => repeat (first | exact (Kd.C_below HR0_5.out HB.out) | (with_reducible refine Kd.C_alloc ?_ _) | (with_reducible refine Kd.C_drewN ?_ _) | (with_reducible refine Kd.C_drew ?_))); (case side2 => exact HC0_5.out); (case side3 => repeat (first | exact (Kd.C_below HR0_6.out HB.out) | (with_reducible refine Kd.C_alloc ?_ _) | (with_reducible refine Kd.C_drewN ?_ _) | (with_reducible refine Kd.C_drew ?_))); (case side4 => exact HC0_6.out); rintro e w12 ⟨rfl, hb⟩; refine ⟨_, rfl, ?_⟩; have n0_ := Aside0.mk (blk_below (g := gb10001) (o := .cells #[.int .i64 a0_0, .string a0_1, .string a0_2, .int .i64 a0_3, .string a0_4, .slice A0_5 l0_5.length c0_5, .slice A0_6 l0_6.length c0_6, .int .i64 a0_7] 37 (0, 0)) (za0 BK10001.out) hb); have n1_ := Aside0.mk (blk_below (g := gb10002) (o := .cells #[.string a1_0, .string a1_1, .string a1_2] 39 (0, 0)) (za0 BK10002.out) hb); have n2_ := Aside0.mk (below_step za2 hb); clear BK10001; clear BK10002; clear HB; have BK10001 := n0_; have BK10002 := n1_; have HB := n2_; clear n0_ n1_ n2_; (try clear hb); (try clear hb2); (try clear hk); (try clear hi); obtain ⟨hcz13_0, hcz13_1, hcz13_2, hfz13_0, hfz13_1, hfz13_2⟩ := blk3 BK10002.out) | (go_at_call 25; (with_reducible refine (impl_IsValues.calls k a1_0 a1_1 a1_2 _ _ A5.out).mono ?_); rintro e w14 ⟨rfl, hb⟩; have n0_ := Aside0.mk (blk_below (g := gb10001) (o := .cells #[.int .i64 a0_0, .string a0_1, .string a0_2, .int .i64 a0_3, .string a0_4, .slice A0_5 l0_5.length c0_5, .slice A0_6 l0_6.length c0_6, .int .i64 a0_7] 37 (0, 0)) (za0 BK10001.out) hb); have n1_ := Aside0.mk (blk_below (g := gb10002) (o := .cells #[.string a1_0, .string a1_1, .string a1_2] 39 (0, 0)) (za0 BK10002.out) hb); have n2_ := Aside0.mk (below_step za2 hb); clear BK10001; clear BK10002; clear HB; have BK10001 := n0_; have BK10002 := n1_; have HB := n2_; clear n0_ n1_ n2_; (try clear hb); (try clear hb2); (try clear hk); (try clear hi); obtain ⟨hcz15_0, hcz15_1, hcz15_2, hcz15_3, hcz15_4, hcz15_5, hcz15_6, hcz15_7, hfz15_0, hfz15_1, hfz15_2, hfz15_3, hfz15_4, hfz15_5, hfz15_6, hfz15_7⟩ := blk8 BK10001.out; obtain ⟨hcz16_0, hcz16_1, hcz16_2, hfz16_0, hfz16_1, hfz16_2⟩ := blk3 BK10002.out) | (go_at_call 26; (with_reducible refine (impl_holds.calls a0_0 a0_1 a0_2 a0_3 a0_4 _ _ l0_5 _ _ l0_6 a0_7 a1_0 a1_1 a1_2 t10005 _ ?side1 ?side2 ?side3 ?side4 A7.out).mono ?_); (case side1 => repeat (first | exact (Kd.C_below HR0_5.out HB.out) | (with_reducible refine Kd.C_alloc ?_ _) | (with_reducible refine Kd.C_drewN ?_ _) | (with_reducible refine Kd.C_drew ?_))); (case side2 => exact HC0_5.out); (case side3 => repeat (first | exact (Kd.C_below HR0_6.out HB.out) | (with_reducible refine Kd.C_alloc ?_ _) | (with_reducible refine Kd.C_drewN ?_ _) | (with_reducible refine Kd.C_drew ?_))); (case side4 => exact HC0_6.out); rintro e w17 ⟨rfl, hb⟩; have n0_ := Aside0.mk (blk_below (g := gb10001) (o := .cells #[.int .i64 a0_0, .string a0_1, .string a0_2, .int .i64 a0_3, .string a0_4, .slice A0_5 l0_5.length c0_5, .slice A0_6 l0_6.length c0_6, .int .i64 a0_7] 37 (0, 0)) (za0 BK10001.out) hb); have n1_ := Aside0.mk (blk_below (g := gb10002) (o := .cells #[.string a1_0, .string a1_1, .string a1_2] 39 (0, 0)) (za0 BK10002.out) hb); have n2_ := Aside0.mk (below_step za2 hb); clear BK10001; clear BK10002; clear HB; have BK10001 := n0_; have BK10002 := n1_; have HB := n2_; clear n0_ n1_ n2_; (try clear hb); (try clear hb2); (try clear hk); (try clear hi)))
  go_ret
  exact ⟨za5, za2⟩
def impl_VarsOfConstraint.l0 : Nat → ByteArray → List Int → Int → Int → Option (ByteArray)
 | 0, _, _, _, _ => none
 | k + 1, x3, x15, x16, x17 => if x17 < x16 then (if 0 ≤ x17 then (if x17 < (x15.length : Int) then (if (rd x15 x17) = 0 then (impl_VarsOfConstraint.l0 k x3 x15 x16 (wrap64 (x17 + 1))) else (if x17 ≤ (wrap64 (x17 + 1)) then (if (wrap64 (x17 + 1)) ≤ 3 then (if x3.size + ((⟨#[88, 89, 90]⟩ : ByteArray).extract (x17 : Int).toNat ((wrap64 (x17 + 1)) : Int).toNat).size ≤ 9223372036854775807 then (impl_VarsOfConstraint.l0 k (x3 ++ ((⟨#[88, 89, 90]⟩ : ByteArray).extract (x17 : Int).toNat ((wrap64 (x17 + 1)) : Int).toNat)) x15 x16 (wrap64 (x17 + 1))) else (none)) else (none)) else (none))) else (none)) else (none)) else ((impl_VarsOf.f k x3).bind fun t67004 => (some t67004))
def impl_VarsOfConstraint.f (k : Nat) (a0_0 : Int) (a0_1 : ByteArray) (a0_2 : ByteArray) (a0_3 : Int) (a0_4 : ByteArray) (l0_5 : List (S35)) (l0_6 : List Int) (a0_7 : Int) : Option (ByteArray) := (impl_IsValidConstraint.f k a0_0 a0_1 a0_2 a0_3 a0_4 l0_5 l0_6 a0_7).bind fun t67002 => (if t67002 = true then (if a0_1.size + a0_2.size ≤ 9223372036854775807 then (impl_VarsOfConstraint.l0 k (a0_1 ++ a0_2) l0_6 (l0_6.length : Int) 0) else (none)) else (some (⟨#[]⟩ : ByteArray)))
theorem impl_VarsOfConstraint.mono_l : ∀ k, (∀ y0 y1 y2 y3, LeO (impl_VarsOfConstraint.l0 k y0 y1 y2 y3) (impl_VarsOfConstraint.l0 (k + 1) y0 y1 y2 y3))
 | 0 => fun _ _ _ _ r h => by simp [impl_VarsOfConstraint.l0] at h
 | k + 1 => by
  have ih0 := impl_VarsOfConstraint.mono_l k
  ·intro y0 y1 y2 y3
   unfold impl_VarsOfConstraint.l0
   repeat' first
   | with_reducible first | exact ih0 _ _ _ _ | exact impl_IsValidConstraint.mono _ _ _ _ _ _ _ _ _ | exact impl_VarsOf.mono _ _ | exact LeO.refl _ | exact LeO.none _ | refine LeO.ite ?_ ?_ | refine LeO.bind ?_ (fun _ => ?_)
theorem impl_VarsOfConstraint.mono : ∀ a0 a1 a2 a3 a4 a5 a6 a7 k, LeO (impl_VarsOfConstraint.f k a0 a1 a2 a3 a4 a5 a6 a7) (impl_VarsOfConstraint.f (k + 1) a0 a1 a2 a3 a4 a5 a6 a7) := by
 intro a0 a1 a2 a3 a4 a5 a6 a7 k
 have ih0 := impl_VarsOfConstraint.mono_l k
 unfold impl_VarsOfConstraint.f
 repeat' first
   | with_reducible first | exact ih0 _ _ _ _ | exact impl_IsValidConstraint.mono _ _ _ _ _ _ _ _ _ | exact impl_VarsOf.mono _ _ | exact LeO.refl _ | exact LeO.none _ | refine LeO.ite ?_ ?_ | refine LeO.bind ?_ (fun _ => ?_)
theorem impl_VarsOfConstraint.calls (k : Nat) (a0_0 : Int) (a0_1 : ByteArray) (a0_2 : ByteArray) (a0_3 : Int) (a0_4 : ByteArray) (A0_5 : Option Addr) (c0_5 : Nat) (l0_5 : List (S35)) (A0_6 : Option Addr) (c0_6 : Nat) (l0_6 : List Int) (a0_7 : Int) (r : ByteArray) (w : World) (hr0_5 : Kd.C k35 w A0_5 l0_5.length l0_5) (hc0_5 : l0_5.length ≤ c0_5) (hr0_6 : Kd.C (Kd.int .i64) w A0_6 l0_6.length l0_6) (hc0_6 : l0_6.length ≤ c0_6) (h : impl_VarsOfConstraint.f k a0_0 a0_1 a0_2 a0_3 a0_4 l0_5 l0_6 a0_7 = some r) :
  Calls Try.prog 67 #[.agg #[.int .i64 a0_0, .string a0_1, .string a0_2, .int .i64 a0_3, .string a0_4, .slice A0_5 l0_5.length c0_5, .slice A0_6 l0_6.length c0_6, .int .i64 a0_7]] w fun e w' => e = .returned (.string r) ∧ Below w.heap.size w w' := by
 have hu37 := Try.underlying37
 have HR0_5 := Aside0.mk hr0_5
 have HC0_5 := Aside0.mk hc0_5
 clear hr0_5 hc0_5
 have HR0_6 := Aside0.mk hr0_6
 have HC0_6 := Aside0.mk hc0_6
 clear hr0_6 hc0_6
 have HB := Aside0.mk (Below.refl w.heap.size w)
 have H : ((impl_IsValidConstraint.f k a0_0 a0_1 a0_2 a0_3 a0_4 l0_5 l0_6 a0_7).bind fun t67002 => (if t67002 = true then (if a0_1.size + a0_2.size ≤ 9223372036854775807 then (impl_VarsOfConstraint.l0 k (a0_1 ++ a0_2) l0_6 (l0_6.length : Int) 0) else (none)) else (some (⟨#[]⟩ : ByteArray)))) = some r := h
 clear h
 replace H := Option.bind_eq_some_iff.mp H
 obtain ⟨t67002, A20, H⟩ := H
 replace H : (if t67002 = true then (if a0_1.size + a0_2.size ≤ 9223372036854775807 then (impl_VarsOfConstraint.l0 k (a0_1 ++ a0_2) l0_6 (l0_6.length : Int) 0) else (none)) else (some (⟨#[]⟩ : ByteArray))) = some r := H
 have A2 := Aside0.mk A20
 clear A20
 by_cases c3 : t67002 = true
 subst c3
 have H1 : (if a0_1.size + a0_2.size ≤ 9223372036854775807 then (impl_VarsOfConstraint.l0 k (a0_1 ++ a0_2) l0_6 (l0_6.length : Int) 0) else (none)) = some r := by rw [if_pos rfl] at H; exact H
 clear H
 have H := H1
 clear H1
 by_cases c4 : a0_1.size + a0_2.size ≤ 9223372036854775807
 ·rw [if_pos c4] at H
  have c4z := c4
  try simp at c4z
  try replace c4z := eq_false (Nat.not_lt.2 c4z)
  have c4b0 := eq_true c4
  have c4b1 : decide (a0_1.size + a0_2.size ≤ 9223372036854775807) = true := decide_eq_true c4
  try have c4b2 : (9223372036854775807 < a0_1.size + a0_2.size) = False := eq_false (Nat.not_lt.2 c4)
  have H' := Aside0.mk H
  clear H
  go_enter Try.func67, Try.ntmps67
  go_wp2_with (first | ((with_reducible refine gate_dst (N := 1) rfl ?_); refine box_event ?hg (N := 1) ?hd (cs := #[.int .i64 a0_0, .string a0_1, .string a0_2, .int .i64 a0_3, .string a0_4, .slice A0_5 l0_5.length c0_5, .slice A0_6 l0_6.length c0_6, .int .i64 a0_7]) (t := 37) ?hr ?_; (case hd => rfl); (case hg => rfl); (case hr => first | (go_simp; done) | (go_simp; rfl)); intro gb67001 hg w5 hbox hb; have n0_ := Aside0.mk (below_step za2 hb); have n1_ := Aside0.mk (hbox); have n2_ := Aside0.mk ((by rw [hg]; exact (below_size za2) : w.heap.size ≤ gb67001)); have n3_ := Aside0.mk ((by rw [hg]; exact (below_size za2) : w.heap.size ≤ gb67001)); clear HB; have HB := n0_; have BK67001 := n1_; have GW67001 := n2_; have GE67001 := n3_; clear n0_ n1_ n2_ n3_; clear hb hbox hg; obtain ⟨hcz6_0, hcz6_1, hcz6_2, hcz6_3, hcz6_4, hcz6_5, hcz6_6, hcz6_7, hfz6_0, hfz6_1, hfz6_2, hfz6_3, hfz6_4, hfz6_5, hfz6_6, hfz6_7⟩ := blk8 BK67001.out) | ((with_reducible refine gate_callee (f := 24) rfl ?_); refine goesL_ (some 7) rfl rfl Try.func24 (by kernel_rfl) rfl #[.agg #[.int .i64 a0_0, .string a0_1, .string a0_2, .int .i64 a0_3, .string a0_4, .slice A0_5 l0_5.length c0_5, .slice A0_6 l0_6.length c0_6, .int .i64 a0_7]] rfl za3 ?_; (with_reducible refine (impl_IsValidConstraint.calls k a0_0 a0_1 a0_2 a0_3 a0_4 _ _ l0_5 _ _ l0_6 a0_7 _ _ ?side1 ?side2 ?side3 ?side4 A2.out).mono ?_); (case side1 => repeat (first | exact (Kd.C_below HR0_5.out HB.out) | (with_reducible refine Kd.C_alloc ?_ _) | (with_reducible refine Kd.C_drewN ?_ _) | (with_reducible refine Kd.C_drew ?_))); (case side2 => exact HC0_5.out); (case side3 => repeat (first | exact (Kd.C_below HR0_6.out HB.out) | (with_reducible refine Kd.C_alloc ?_ _) | (with_reducible refine Kd.C_drewN ?_ _) | (with_reducible refine Kd.C_drew ?_))); (case side4 => exact HC0_6.out); rintro e w7 ⟨rfl, hb⟩; refine ⟨_, rfl, ?_⟩; have n0_ := Aside0.mk (blk_below (g := gb67001) (o := .cells #[.int .i64 a0_0, .string a0_1, .string a0_2, .int .i64 a0_3, .string a0_4, .slice A0_5 l0_5.length c0_5, .slice A0_6 l0_6.length c0_6, .int .i64 a0_7] 37 (0, 0)) (za0 BK67001.out) hb); have n1_ := Aside0.mk (below_step za2 hb); clear BK67001; clear HB; have BK67001 := n0_; have HB := n1_; clear n0_ n1_; (try clear hb); (try clear hb2); (try clear hk); (try clear hi); obtain ⟨hcz8_0, hcz8_1, hcz8_2, hcz8_3, hcz8_4, hcz8_5, hcz8_6, hcz8_7, hfz8_0, hfz8_1, hfz8_2, hfz8_3, hfz8_4, hfz8_5, hfz8_6, hfz8_7⟩ := blk8 BK67001.out))
  first | go_loopg [3, 17] k (fun kq v3 v17 w' => ∃ (x3_1 : ByteArray) (x17_1 : Int), v3 = .string x3_1 ∧ v17 = .int .i64 x17_1 ∧ Aside0 (impl_VarsOfConstraint.l0 kq x3_1 l0_6 (l0_6.length : Int) x17_1 = some r) ∧ Aside0 (kq ≤ k) ∧ Aside0 (w'.heap[gb67001]? = some (.cells #[.int .i64 a0_0, .string a0_1, .string a0_2, .int .i64 a0_3, .string a0_4, (.slice A0_5 l0_5.length c0_5), (.slice A0_6 l0_6.length c0_6), .int .i64 a0_7] 37 (0, 0))) ∧ Aside0 (Below w.heap.size w w')) | (simp only [Act.put, List.setIfInBounds_toArray, List.set_cons_succ, List.set_cons_zero]; go_loopg [3, 17] k (fun kq v3 v17 w' => ∃ (x3_1 : ByteArray) (x17_1 : Int), v3 = .string x3_1 ∧ v17 = .int .i64 x17_1 ∧ Aside0 (impl_VarsOfConstraint.l0 kq x3_1 l0_6 (l0_6.length : Int) x17_1 = some r) ∧ Aside0 (kq ≤ k) ∧ Aside0 (w'.heap[gb67001]? = some (.cells #[.int .i64 a0_0, .string a0_1, .string a0_2, .int .i64 a0_3, .string a0_4, (.slice A0_5 l0_5.length c0_5), (.slice A0_6 l0_6.length c0_6), .int .i64 a0_7] 37 (0, 0))) ∧ Aside0 (Below w.heap.size w w')))
  case atStart => exact ⟨(a0_1 ++ a0_2), (0), za6, za6, H', ⟨Nat.le_refl _⟩, ⟨za0 BK67001.out⟩, ⟨za2⟩⟩
  case round =>
   clear H'
   try clear c4
   try clear c4b0
   try clear c4b1
   try clear c4b2
   try clear hcz6_0
   try clear hcz6_1
   try clear hcz6_2
   try clear hcz6_3
   try clear hcz6_4
   try clear hcz6_5
   try clear hcz6_6
   try clear hcz6_7
   try clear hcz8_0
   try clear hcz8_1
   try clear hcz8_2
   try clear hcz8_3
   try clear hcz8_4
   try clear hcz8_5
   try clear hcz8_6
   try clear hcz8_7
   try clear hfz6_0
   try clear hfz6_1
   try clear hfz6_2
   try clear hfz6_3
   try clear hfz6_4
   try clear hfz6_5
   try clear hfz6_6
   try clear hfz6_7
   try clear hfz8_0
   try clear hfz8_1
   try clear hfz8_2
   try clear hfz8_3
   try clear hfz8_4
   try clear hfz8_5
   try clear hfz8_6
   try clear hfz8_7
   obtain ⟨x3_1, x17_1, rfl, rfl, HA, HK1, BK67001, HB⟩ := hrel
   cases gk with
   | zero => exact absurd HA.out (by simp [impl_VarsOfConstraint.l0])
   | succ k1 =>
   have H := HA.out
   clear HA
   simp only [impl_VarsOfConstraint.l0] at H
   by_cases c9 : x17_1 < (l0_6.length : Int)
   rw [if_pos c9] at H
   have c9b0 : decide (x17_1 < (l0_6.length : Int)) = true := decide_eq_true c9
   clear c9
   by_cases c10 : 0 ≤ x17_1
   rw [if_pos c10] at H
   have c10b0 : decide (0 ≤ x17_1) = true := decide_eq_true c10
   clear c10
   by_cases c11 : x17_1 < (l0_6.length : Int)
   rw [if_pos c11] at H
   have c11b0 : decide (x17_1 < (l0_6.length : Int)) = true := decide_eq_true c11
   clear c11
   by_cases c12 : (rd l0_6 x17_1) = 0
   rw [if_pos c12] at H
   have c12b0 : ((rd l0_6 x17_1) == 0) = true := beq_iff_eq.mpr c12
   have c12b1 : ((rd l0_6 x17_1) != 0) = false := bne_eq_false_iff_eq.mpr c12
   clear c12
   have fin0_ := Aside0.mk trivial
   rotate_left
   rw [if_neg c12] at H
   have c12b0 : ((rd l0_6 x17_1) == 0) = false := beq_eq_false_iff_ne.mpr c12
   have c12b1 : ((rd l0_6 x17_1) != 0) = true := bne_iff_ne.mpr c12
   have c13b0 := eq_true (of_decide_eq_true za7 : 0 ≤ x17_1)
   by_cases c14 : x17_1 ≤ (wrap64 (x17_1 + 1))
   rw [if_pos c14] at H
   have c14b0 := eq_true c14
   have c14b1 : decide (x17_1 ≤ (wrap64 (x17_1 + 1))) = true := decide_eq_true c14
   by_cases c15 : (wrap64 (x17_1 + 1)) ≤ 3
   rw [if_pos c15] at H
   have c15b0 := eq_true c15
   have c15b1 : decide ((wrap64 (x17_1 + 1)) ≤ 3) = true := decide_eq_true c15
   by_cases c16 : x3_1.size + ((⟨#[88, 89, 90]⟩ : ByteArray).extract (x17_1 : Int).toNat ((wrap64 (x17_1 + 1)) : Int).toNat).size ≤ 9223372036854775807
   rw [if_pos c16] at H
   have c16z := c16
   try simp at c16z
   try replace c16z := eq_false (Nat.not_lt.2 c16z)
   have c16b0 := eq_true c16
   have c16b1 : decide (x3_1.size + ((⟨#[88, 89, 90]⟩ : ByteArray).extract (x17_1 : Int).toNat ((wrap64 (x17_1 + 1)) : Int).toNat).size ≤ 9223372036854775807) = true := decide_eq_true c16
   try have c16b2 : (9223372036854775807 < x3_1.size + ((⟨#[88, 89, 90]⟩ : ByteArray).extract (x17_1 : Int).toNat ((wrap64 (x17_1 + 1)) : Int).toNat).size) = False := eq_false (Nat.not_lt.2 c16)
   have fin1_ := Aside0.mk trivial
   rotate_left
   ·rw [if_neg c16] at H
    exact absurd H (by simp)
   ·rw [if_neg c15] at H
    exact absurd H (by simp)
   ·rw [if_neg c14] at H
    exact absurd H (by simp)
   ·rw [if_neg c11] at H
    exact absurd H (by simp)
   ·rw [if_neg c10] at H
    exact absurd H (by simp)
   ·rw [if_neg c9] at H
    have c9b0 : decide (x17_1 < (l0_6.length : Int)) = false := decide_eq_false c9
    clear c9
    replace H := Option.bind_eq_some_iff.mp H
    obtain ⟨t67004, A170, H⟩ := H
    replace H : (some t67004) = some r := H
    have A17 := Aside0.mk A170
    clear A170
    obtain rfl := Option.some.inj H
    go_wp2_with (first | ((with_reducible refine gate_callee (f := 68) rfl ?_); refine goesL_ (some 32) rfl rfl Try.func68 (by kernel_rfl) rfl #[.string x3_1] rfl za3 ?_; (with_reducible refine (impl_VarsOf.calls k1 x3_1 t67004 _ A17.out).mono ?_); rintro e w' ⟨rfl, ⟨nd, rfl⟩⟩; refine ⟨_, rfl, ?_⟩))
    go_ret
    exact ⟨za5, za2⟩
   all_goals
    have H' := Aside0.mk H
    clear H
    have p67003 : 0 ≤ (x17_1 : Int) := of_decide_eq_true za7
    have q67003 : x17_1 < (l0_6.length : Int) := of_decide_eq_true za7
    obtain ⟨ad67003, e67003, hx67003_0⟩ := Kd.at_int HR0_6.out x17_1 p67003 q67003
    cases e67003
    replace hx67003_0 := (HB.out.cell (World.block_lt_of_cell? w _ hx67003_0)).trans hx67003_0
    replace p67003 := eq_true p67003
    replace q67003 := eq_true q67003
    go_wp2
    first
    | (
     clear fin0_
     go_roundg k1
     case measure => have := HK1.out; omega
     case rel => exact ⟨(x3_1), (wrap64 (x17_1 + 1)), za6, za6, H', ⟨za11⟩, ⟨za0 BK67001.out⟩, ⟨za2⟩⟩)
    | (
     clear fin1_
     go_roundg k1
     case measure => have := HK1.out; omega
     case rel => exact ⟨(x3_1 ++ ((⟨#[88, 89, 90]⟩ : ByteArray).extract (x17_1 : Int).toNat ((wrap64 (x17_1 + 1)) : Int).toNat)), (wrap64 (x17_1 + 1)), za6, za6, H', ⟨za11⟩, ⟨za0 BK67001.out⟩, ⟨za2⟩⟩)
 ·rw [if_neg c4] at H
  exact absurd H (by simp)
 ·replace c3 := Bool.eq_false_iff.mpr c3
  subst c3
  have H1 : (some (⟨#[]⟩ : ByteArray)) = some r := by rw [if_neg (show ¬ (false = true) by decide)] at H; exact H
  clear H
  have H := H1
  clear H1
  obtain rfl := Option.some.inj H
  go_enter Try.func67, Try.ntmps67
  go_wp2_with (first | ((with_reducible refine gate_dst (N := 1) rfl ?_); refine box_event ?hg (N := 1) ?hd (cs := #[.int .i64 a0_0, .string a0_1, .string a0_2, .int .i64 a0_3, .string a0_4, .slice A0_5 l0_5.length c0_5, .slice A0_6 l0_6.length c0_6, .int .i64 a0_7]) (t := 37) ?hr ?_; (case hd => rfl); (case hg => rfl); (case hr => first | (go_simp; done) | (go_simp; rfl)); intro gb67001 hg w18 hbox hb; have n0_ := Aside0.mk (below_step za2 hb); have n1_ := Aside0.mk (hbox); have n2_ := Aside0.mk ((by rw [hg]; exact (below_size za2) : w.heap.size ≤ gb67001)); have n3_ := Aside0.mk ((by rw [hg]; exact (below_size za2) : w.heap.size ≤ gb67001)); clear HB; have HB := n0_; have BK67001 := n1_; have GW67001 := n2_; have GE67001 := n3_; clear n0_ n1_ n2_ n3_; clear hb hbox hg; obtain ⟨hcz19_0, hcz19_1, hcz19_2, hcz19_3, hcz19_4, hcz19_5, hcz19_6, hcz19_7, hfz19_0, hfz19_1, hfz19_2, hfz19_3, hfz19_4, hfz19_5, hfz19_6, hfz19_7⟩ := blk8 BK67001.out) | ((with_reducible refine gate_callee (f := 24) rfl ?_); refine goesL_ (some 7) rfl rfl Try.func24 (by kernel_rfl) rfl #[.agg #[.int .i64 a0_0, .string a0_1, .string a0_2, .int .i64 a0_3, .string a0_4, .slice A0_5 l0_5.length c0_5, .slice A0_6 l0_6.length c0_6, .int .i64 a0_7]] rfl za3 ?_; (with_reducible refine (impl_IsValidConstraint.calls k a0_0 a0_1 a0_2 a0_3 a0_4 _ _ l0_5 _ _ l0_6 a0_7 _ _ ?side1 ?side2 ?side3 ?side4 A2.out).mono ?_); (case side1 => repeat (first | exact (Kd.C_below HR0_5.out HB.out) | (with_reducible refine Kd.C_alloc ?_ _) | (with_reducible refine Kd.C_drewN ?_ _) | (with_reducible refine Kd.C_drew ?_))); (case side2 => exact HC0_5.out); (case side3 => repeat (first | exact (Kd.C_below HR0_6.out HB.out) | (with_reducible refine Kd.C_alloc ?_ _) | (with_reducible refine Kd.C_drewN ?_ _) | (with_reducible refine Kd.C_drew ?_))); (case side4 => exact HC0_6.out); rintro e w20 ⟨rfl, hb⟩; refine ⟨_, rfl, ?_⟩; have n0_ := Aside0.mk (blk_below (g := gb67001) (o := .cells #[.int .i64 a0_0, .string a0_1, .string a0_2, .int .i64 a0_3, .string a0_4, .slice A0_5 l0_5.length c0_5, .slice A0_6 l0_6.length c0_6, .int .i64 a0_7] 37 (0, 0)) (za0 BK67001.out) hb); have n1_ := Aside0.mk (below_step za2 hb); clear BK67001; clear HB; have BK67001 := n0_; have HB := n1_; clear n0_ n1_; (try clear hb); (try clear hb2); (try clear hk); (try clear hi)))
  go_ret
  exact ⟨za5, za2⟩
end Go.Proofs.Ytffjfdoghofkdaa.A
-- ALSO loop.example/g00582/impl.IsValidConstraint
namespace Go.Proofs.Ytffjfdoghofkdaa.Ext
open Go.RowKit Go.Proofs.YtffjfdoghofkdaaW.PrintWords Go.Proofs.YtffjfdoghofkdaaW.PrintLast Go.Proofs.Ytffjfdoghofkdaa.A
def ClC (w : World) (l : List S37) (p : Nat → Bool) (g : Nat) (lb : Array Value) : Prop :=
 ∀ (i : Nat) (h : i < l.length) (A5 : Option Addr) (c5 : Nat) (A6 : Option Addr) (c6 : Nat) (W : World), Below w.heap.size w W → l[i].f3.f2.length ≤ c5 → Kd.C k35 w A5 l[i].f3.f2.length l[i].f3.f2 → l[i].f4.length ≤ c6 → (Kd.int .i64).C w A6 l[i].f4.length l[i].f4 →
  Calls Try.prog g (#[.agg #[.int .i64 l[i].f0, .string l[i].f1, .string l[i].f2, .int .i64 l[i].f3.f0, .string l[i].f3.f1, .slice A5 l[i].f3.f2.length c5, .slice A6 l[i].f4.length c6, .int .i64 l[i].f5]] ++ lb) W fun e W' => e = .returned (.bool (p i)) ∧ Below W.heap.size W W'
theorem cs_at {w0 W : World} {A : Option Addr} {l : List S37} (hC : Kd.C k37 w0 A l.length l) (hB : Below w0.heap.size w0 W) (i : Nat) (hi : i < l.length) :
  ∃ ad A5 c5 A6 c6, A = some ad ∧ W.cell? (ad.add (i * 8)) = some (.int .i64 l[i].f0) ∧ W.cell? ⟨(ad.add (i * 8)).block, (ad.add (i * 8)).off + 1, none⟩ = some (.string l[i].f1) ∧ W.cell? ⟨(ad.add (i * 8)).block, (ad.add (i * 8)).off + 2, none⟩ = some (.string l[i].f2) ∧ W.cell? ⟨(ad.add (i * 8)).block, (ad.add (i * 8)).off + 3, none⟩ = some (.int .i64 l[i].f3.f0) ∧ W.cell? ⟨(ad.add (i * 8)).block, (ad.add (i * 8)).off + 4, none⟩ = some (.string l[i].f3.f1) ∧ W.cell? ⟨(ad.add (i * 8)).block, (ad.add (i * 8)).off + 5, none⟩ = some (.slice A5 l[i].f3.f2.length c5) ∧ W.cell? ⟨(ad.add (i * 8)).block, (ad.add (i * 8)).off + 6, none⟩ = some (.slice A6 l[i].f4.length c6) ∧ W.cell? ⟨(ad.add (i * 8)).block, (ad.add (i * 8)).off + 7, none⟩ = some (.int .i64 l[i].f5) ∧ l[i].f3.f2.length ≤ c5 ∧ Kd.C k35 w0 A5 l[i].f3.f2.length l[i].f3.f2 ∧ l[i].f4.length ≤ c6 ∧ (Kd.int .i64).C w0 A6 l[i].f4.length l[i].f4 := by
 obtain ⟨ad, A5, c5, A6, c6, e, h0, h1, h2, h3, h4, h5, h6, h7, g1, g2, g3, g4⟩ := at_T37 hC (i : Int) (by omega) (by omega)
 have he : rd_T37 l (i : Int) = l[i] := by simp [rd_T37, hi]
 rw [he] at h0 h1 h2 h3 h4 h5 h6 h7 g1 g2 g3 g4
 rw [Int.toNat_natCast] at h0 h1 h2 h3 h4 h5 h6 h7
 have up : ∀ {a : Addr} {v : Value}, w0.cell? a = some v → W.cell? a = some v := fun h => (hB.cell (World.block_lt_of_cell? w0 _ h)).trans h
 exact ⟨ad, A5, c5, A6, c6, e, up h0, up h1, up h2, up h3, up h4, up h5, up h6, up h7, g1, g2, g3, g4⟩
set_option maxHeartbeats 2000000 in
theorem idx_cs (p : Nat → Bool) (g : Nat) (lb : Array Value) (eg : ∀ args w, (callFunc g args).run Try.prog w = .ok (.enter g args) w) (A : Option Addr) (l : List S37) (c : Nat) (w : World) (hn : l.length ≤ 9223372036854775806) (hC : Kd.C k37 w A l.length l) (hcl : ClC w l p g lb) :
  Calls Try.prog 69 #[.slice A l.length c, .func (.func g) #[] lb] w fun e w' => e = .returned (.int .i64 (idxN p l.length)) ∧ Below w.heap.size w w' := by
 have HC := Aside0.mk hC
 have HCL := Aside0.mk hcl
 have HB0 := Aside0.mk (Below.refl w.heap.size w)
 clear hC hcl
 go_enter Try.func69, Try.ntmps69
 go_wp2
 go_loopg [8] l.length (fun gk v wr => ∃ (x : Nat), v = .int .i64 (x : Int) ∧ Aside0 (x + gk = l.length) ∧ Aside0 (∀ j : Nat, j < x → p j = false) ∧ Aside0 (Below w.heap.size w wr))
 case atStart => exact ⟨0, rfl, ⟨by omega⟩, ⟨fun j hj => by omega⟩, ⟨by first | exact HB0.out | exact below_drew HB0.out | exact pw_below_drewN HB0.out _⟩⟩
 case round =>
  obtain ⟨x, rfl, HK, HT, HB⟩ := hrel
  by_cases hlt : x < l.length
  ·obtain ⟨ad, A5, c5, A6, c6, hA, e0, e1, e2, e3, e4, e5, e6, e7, g1, g2, g3, g4⟩ := cs_at HC.out HB.out x hlt
   have HCA := Aside0.mk (HCL.out x hlt A5 c5 A6 c6 wr HB.out g1 g2 g3 g4)
   have c4b0 : decide (x < l.length) = true := decide_eq_true hlt
   have HLT := Aside0.mk hlt
   have q4 := eq_true hlt
   generalize l[x] = lx at *
   subst hA
   clear hlt g1 g2 g3 g4
   cases hp : p x with
   | true =>
    have HP := Aside0.mk hp
    rw [hp] at HCA
    clear hp
    go_wp2_with (go_at_fn g; refine HCA.out.mono ?_; rintro e w2 ⟨rfl, hb2⟩; have B2 := Aside0.mk (below_step HB.out hb2); clear hb2)
    go_ret
    exact ⟨congrArg (fun i => Ending.returned (Value.int .i64 i)) (idxN_hit p l.length x HLT.out HT.out HP.out).symm, B2.out⟩
   | false =>
    have HP := Aside0.mk hp
    rw [hp] at HCA
    clear hp
    cases gk with
    | zero => exact absurd HK.out (by have := HLT.out; omega)
    | succ k1 =>
     go_wp2_with (go_at_fn g; refine HCA.out.mono ?_; rintro e w2 ⟨rfl, hb2⟩; have B2 := Aside0.mk (below_step HB.out hb2); clear hb2)
     have hw : wrap64 ((x : Int) + 1) = ((x + 1 : Nat) : Int) := by have := HLT.out; unfold wrap64; omega
     go_roundg k1
     case measure => omega
     case rel =>
      refine ⟨x + 1, by first | rfl | exact congrArg (Value.int IntKind.i64) hw | (simp [*]; done), ⟨by have := HK.out; omega⟩, ⟨fun j hj => ?_⟩, B2⟩
      by_cases e : j < x
      ·exact HT.out j e
      ·obtain rfl : j = x := by omega
       exact HP.out
  ·have c4b0 : decide (x < l.length) = false := decide_eq_false hlt
   have hx : x = l.length := by have := HK.out; omega
   have HE := Aside0.mk (idxN_miss p l.length (fun j hj => HT.out j (by omega)))
   clear hlt hx
   go_wp2
   go_ret
   exact ⟨congrArg (fun i => Ending.returned (Value.int .i64 i)) HE.out.symm, HB.out⟩
set_option maxHeartbeats 1000000 in
theorem any_cs (p : Nat → Bool) (g : Nat) (lb : Array Value) (eg : ∀ args w, (callFunc g args).run Try.prog w = .ok (.enter g args) w) (A : Option Addr) (l : List S37) (c : Nat) (w : World) (hn : l.length ≤ 9223372036854775806) (hC : Kd.C k37 w A l.length l) (hcl : ClC w l p g lb) :
  Calls Try.prog 38 #[.slice A l.length c, .func (.func g) #[] lb] w fun e w' => e = .returned (.bool (anyN p l.length)) ∧ Below w.heap.size w w' := by
 have HI := Aside0.mk (idx_cs p g lb eg A l c w hn hC hcl)
 have HR := Aside0.mk (anyN_idx p l.length)
 clear hC hcl
 go_enter Try.func38, Try.ntmps38
 go_wp2_with (go_at_call 69; refine HI.out.mono ?_; generalize idxN p l.length = m at HR; rintro e w' ⟨rfl, hb⟩)
 go_ret
 exact ⟨congrArg (fun b => Ending.returned (Value.bool b)) HR.out, hb⟩
def anyO (f : S37 → Option Bool) (l : List S37) : Option Bool := if (l.all fun c => (f c).isSome) = true then some (l.any fun c => f c == some true) else none
theorem anyO_at {f : S37 → Option Bool} {l : List S37} {r : Bool} (h : anyO f l = some r) : anyN (fun i => (l[i]?.map fun c => f c == some true).getD false) l.length = r ∧ ∀ (i : Nat) (hi : i < l.length), f l[i] = some ((l[i]?.map fun c => f c == some true).getD false) := by
 unfold anyO at h
 split at h
 ·next ha =>
  rw [List.all_eq_true] at ha
  refine ⟨?_, fun i hi => ?_⟩
  ·rw [← Option.some.inj h]
   unfold anyN
   rw [Bool.eq_iff_iff, List.any_eq_true, List.any_eq_true]
   constructor
   ·rintro ⟨i, hi, e⟩
    rw [List.mem_range] at hi
    rw [List.getElem?_eq_getElem hi] at e
    exact ⟨l[i], List.getElem_mem hi, e⟩
   ·rintro ⟨x, hx, e⟩
    obtain ⟨i, hi, rfl⟩ := List.getElem_of_mem hx
    exact ⟨i, List.mem_range.2 hi, by rw [List.getElem?_eq_getElem hi]; exact e⟩
  ·have := ha l[i] (List.getElem_mem hi)
   rw [List.getElem?_eq_getElem hi]
   cases hf : f l[i] with
   | none => rw [hf] at this; cases this
   | some b => simp only [Option.map_some, Option.getD_some, hf]; cases b <;> rfl
 ·cases h
theorem anyO_mono {f g : S37 → Option Bool} (hfg : ∀ c, LeO (f c) (g c)) (l : List S37) : LeO (anyO f l) (anyO g l) := by
 intro r h
 unfold anyO at h ⊢
 split at h
 ·next ha =>
  have e : ∀ c ∈ l, g c = f c := fun c hc => by
   have := (List.all_eq_true.1 ha) c hc
   cases hf : f c with
   | none => rw [hf] at this; cases this
   | some b => exact hfg c b hf
  have e1 : (l.all fun c => (g c).isSome) = true := List.all_eq_true.2 fun c hc => by rw [e c hc]; exact List.all_eq_true.1 ha c hc
  rw [if_pos e1, ← Option.some.inj h]
  congr 1
  rw [Bool.eq_iff_iff, List.any_eq_true, List.any_eq_true]
  exact ⟨fun ⟨c, hc, h⟩ => ⟨c, hc, by rw [← e c hc]; exact h⟩, fun ⟨c, hc, h⟩ => ⟨c, hc, by rw [e c hc]; exact h⟩⟩
 ·cases h
def notValid (k : Nat) (c : S37) : Option Bool := (impl_IsValidConstraint.f k c.f0 c.f1 c.f2 c.f3.f0 c.f3.f1 c.f3.f2 c.f4 c.f5).bind fun t => some (!t)
set_option maxHeartbeats 1000000 in
theorem clo_valid (k : Nat) (x : S37) (r : Bool) (h : notValid k x = some r) (A5 : Option Addr) (c5 : Nat) (A6 : Option Addr) (c6 : Nat) (W : World) (g1 : x.f3.f2.length ≤ c5) (g2 : Kd.C k35 W A5 x.f3.f2.length x.f3.f2) (g3 : x.f4.length ≤ c6) (g4 : (Kd.int .i64).C W A6 x.f4.length x.f4) :
  Calls Try.prog 64 #[.agg #[.int .i64 x.f0, .string x.f1, .string x.f2, .int .i64 x.f3.f0, .string x.f3.f1, .slice A5 x.f3.f2.length c5, .slice A6 x.f4.length c6, .int .i64 x.f5]] W fun e W' => e = .returned (.bool r) ∧ Below W.heap.size W W' := by
 obtain ⟨t, ht, hr⟩ := Option.bind_eq_some_iff.mp h
 obtain rfl := Option.some.inj hr
 have HV := Aside0.mk (fun (W' : World) (hB : Below W.heap.size W W') => impl_IsValidConstraint.calls k x.f0 x.f1 x.f2 x.f3.f0 x.f3.f1 A5 c5 x.f3.f2 A6 c6 x.f4 x.f5 t W' (Kd.C_below g2 hB) g1 (Kd.C_below g4 hB) g3 ht)
 have HB := Aside0.mk (Below.refl W.heap.size W)
 obtain ⟨f0, f1, f2, ⟨d, e, l⟩, f4, f5⟩ := x
 simp only at HV ⊢
 clear g1 g2 g3 g4 h ht hr
 go_enter Try.func64, Try.ntmps64
 go_wp2_with (first
  | ((with_reducible refine gate_dst (N := 1) rfl ?_); refine box_event ?hg (N := 1) ?hd (cs := #[.int .i64 f0, .string f1, .string f2, .int .i64 d, .string e, .slice A5 l.length c5, .slice A6 f4.length c6, .int .i64 f5]) (t := 37) ?hr ?_; (case hd => rfl); (case hg => rfl); (case hr => first | (go_simp; done) | (go_simp; rfl)); intro gr hgr w3 hbox hb3; have X3 := Aside0.mk hbox; have B3 := Aside0.mk (below_step HB.out hb3); obtain ⟨y0, y1, y2, y3, y4, y5, y6, y7, q0, q1, q2, q3, q4, q5, q6, q7⟩ := blk8 hbox; clear hb3 hbox hgr)
  | (go_at_call 24; (with_reducible refine (HV.out _ (by first | exact B3.out | exact pw_below_drewN B3.out _ | exact below_drew B3.out | exact HB.out)).mono ?_); rintro e w2 ⟨rfl, hb2⟩; have B2 := Aside0.mk (show Below W.heap.size W w2 by first | exact below_step B3.out hb2 | exact below_step HB.out hb2); clear hb2))
 go_ret
 exact ⟨za20, by first | exact B2.out | exact B3.out⟩
-- EXT loop.example/g00582/impl.IsValidProblem rounds making
def impl_IsValidProblem.f (k : Nat) (l0_0 : List S37) : Option Bool := if l0_0.length ≤ 6 then (anyO (notValid k) l0_0).bind fun t => some (!t) else some false
theorem impl_IsValidProblem.mono (a0 : List S37) (k : Nat) : LeO (impl_IsValidProblem.f k a0) (impl_IsValidProblem.f (k + 1) a0) := by
 unfold impl_IsValidProblem.f
 refine LeO.ite (LeO.bind (anyO_mono (fun c => ?_) a0) fun _ => LeO.refl _) (LeO.refl _)
 exact LeO.bind (impl_IsValidConstraint.mono _ _ _ _ _ _ _ _ _) fun _ => LeO.refl _
set_option maxHeartbeats 1000000 in
theorem impl_IsValidProblem.calls (k : Nat) (A0_0 : Option Addr) (c0_0 : Nat) (l0_0 : List S37) (r : Bool) (w : World) (hr0_0 : Kd.C k37 w A0_0 l0_0.length l0_0) (hc0_0 : l0_0.length ≤ c0_0) (h : impl_IsValidProblem.f k l0_0 = some r) :
  Calls Try.prog 35 #[.agg #[.slice A0_0 l0_0.length c0_0]] w fun e w' => e = .returned (.bool r) ∧ Below w.heap.size w w' := by
 have HB := Aside0.mk (Below.refl w.heap.size w)
 have HR := Aside0.mk hr0_0
 have HH := Aside0.mk h
 generalize hn : l0_0.length = n at *
 have HN := Aside0.mk hn
 clear hr0_0 hc0_0 h hn
 go_enter Try.func35, Try.ntmps35
 go_upto_region 1 with (first
  | ((with_reducible refine gate_dst (N := 1) rfl ?_); refine box_event ?hg (N := 1) ?hd (cs := #[.slice A0_0 n c0_0]) (t := 50) ?hr ?_; (case hd => rfl); (case hg => rfl); (case hr => first | (go_simp; done) | (go_simp; rfl)); intro gr hgr w3 hbox hb3; have X3 := Aside0.mk hbox; have B3 := Aside0.mk (below_step HB.out hb3); clear hb3 hbox hgr))
 obtain ⟨y0, g0⟩ := blk1 X3.out
 by_cases h6 : n ≤ 6
 ·have hd6 : decide (n ≤ 6) = true := decide_eq_true h6
  have hd7 : decide ((n : Int) ≤ 6) = true := decide_eq_true (by omega)
  have hf := HH.out
  unfold impl_IsValidProblem.f at hf
  rw [HN.out, if_pos h6] at hf
  obtain ⟨t, ht, hr⟩ := Option.bind_eq_some_iff.mp hf
  obtain rfl := Option.some.inj hr
  obtain ⟨a1, a2⟩ := anyO_at ht
  rw [HN.out] at a1
  have CC := any_cs _ 64 #[] (enters_of Try.func64 (by kernel_rfl) rfl) A0_0 l0_0 c0_0 w3 (by rw [HN.out]; omega) (Kd.C_below (by rw [HN.out]; exact HR.out) B3.out) (fun i hi A5 c5 A6 c6 W hB g1 g2 g3 g4 => clo_valid k l0_0[i] _ (a2 i hi) A5 c5 A6 c6 W g1 (Kd.C_below g2 hB) g3 (Kd.C_below g4 hB))
  rw [HN.out, a1] at CC
  have HCC := Aside0.mk CC
  clear CC a1 a2 ht hr hf h6
  go_wp2_with (go_at_call 38; (with_reducible refine HCC.out.mono ?_); rintro e w2 ⟨rfl, hb2⟩; have B2 := Aside0.mk (below_step B3.out hb2); clear hb2)
  go_ret
  exact ⟨za20, B2.out⟩
 ·have hd6 : decide (n ≤ 6) = false := decide_eq_false h6
  have hd7 : decide ((n : Int) ≤ 6) = false := decide_eq_false (by omega)
  have hf := HH.out
  unfold impl_IsValidProblem.f at hf
  rw [HN.out, if_neg h6] at hf
  obtain rfl := Option.some.inj hf
  clear h6 hf
  go_wp2
  go_ret
  exact ⟨za20, B3.out⟩
end Go.Proofs.Ytffjfdoghofkdaa.Ext
namespace Go.Proofs.Ytffjfdoghofkdaa.A
open Go.RowKit Go.Proofs.Ytffjfdoghofkdaa.Ext Go.Proofs.YtffjfdoghofkdaaW.PrintWords Go.Proofs.YtffjfdoghofkdaaW.PrintLast Go.Proofs.YtffjfdoghofkdaaW.PrintMore
attribute [local go_sem] max2_int min2_int max_two min_two max_three min_three max_four min_four
def impl_cleared.l0 : Nat → ByteArray → Int → ByteArray → ByteArray → ByteArray → Option (ByteArray × ByteArray × ByteArray)
 | 0, _, _, _, _, _ => none
 | k + 1, x1, x6, x36002000, x36002001, x36002002 => if x6 < 3 then (if 0 ≤ x6 then ((strings_IndexByte.f x1 (bt (⟨#[88, 89, 90]⟩ : ByteArray) x6)).bind fun t36003 => (if t36003 < 0 then ((impl_WithValue.f x36002000 x36002001 x36002002 (bt (⟨#[88, 89, 90]⟩ : ByteArray) x6) (⟨#[]⟩ : ByteArray)).bind fun bt36004 => (impl_cleared.l0 k x1 (wrap64 (x6 + 1)) bt36004.1 bt36004.2.1 bt36004.2.2)) else (impl_cleared.l0 k x1 (wrap64 (x6 + 1)) x36002000 x36002001 x36002002))) else (none)) else (some (x36002000, x36002001, x36002002))
def impl_cleared.f (k : Nat) (a0_0 : ByteArray) (a0_1 : ByteArray) (a0_2 : ByteArray) (a1 : ByteArray) : Option (ByteArray × ByteArray × ByteArray) := impl_cleared.l0 k a1 0 a0_0 a0_1 a0_2
theorem impl_cleared.mono_l : ∀ k, (∀ y0 y1 y2 y3 y4, LeO (impl_cleared.l0 k y0 y1 y2 y3 y4) (impl_cleared.l0 (k + 1) y0 y1 y2 y3 y4))
 | 0 => fun _ _ _ _ _ r h => by simp [impl_cleared.l0] at h
 | k + 1 => by
  have ih0 := impl_cleared.mono_l k
  ·intro y0 y1 y2 y3 y4
   unfold impl_cleared.l0
   repeat' first
   | with_reducible first | exact ih0 _ _ _ _ _ | exact LeO.refl _ | exact LeO.none _ | refine LeO.ite ?_ ?_ | refine LeO.bind ?_ (fun _ => ?_)
theorem impl_cleared.mono : ∀ a0 a1 a2 a3 k, LeO (impl_cleared.f k a0 a1 a2 a3) (impl_cleared.f (k + 1) a0 a1 a2 a3) := by
 intro a0 a1 a2 a3 k
 have ih0 := impl_cleared.mono_l k
 unfold impl_cleared.f
 repeat' first
   | with_reducible first | exact ih0 _ _ _ _ _ | exact LeO.refl _ | exact LeO.none _ | refine LeO.ite ?_ ?_ | refine LeO.bind ?_ (fun _ => ?_)
theorem impl_cleared.calls (k : Nat) (a0_0 : ByteArray) (a0_1 : ByteArray) (a0_2 : ByteArray) (a1 : ByteArray) (r1 : ByteArray) (r2 : ByteArray) (r3 : ByteArray) (w : World) (h : impl_cleared.f k a0_0 a0_1 a0_2 a1 = some (r1, r2, r3)) :
  Calls Try.prog 36 #[.agg #[.string a0_0, .string a0_1, .string a0_2], .string a1] w fun e w' => e = .returned (.agg #[.string r1, .string r2, .string r3]) ∧ Below w.heap.size w w' := by
 have hu39 := Try.underlying39
 have HB := Aside0.mk (Below.refl w.heap.size w)
 have H : (impl_cleared.l0 k a1 0 a0_0 a0_1 a0_2) = some (r1, r2, r3) := h
 clear h
 have H' := Aside0.mk H
 clear H
 go_enter Try.func36, Try.ntmps36
 go_wp2_with (first | ((with_reducible refine gate_dst (N := 2) rfl ?_); refine box_event ?hg (N := 2) ?hd (cs := #[.string a0_0, .string a0_1, .string a0_2]) (t := 39) ?hr ?_; (case hd => rfl); (case hg => rfl); (case hr => first | (go_simp; done) | (go_simp; rfl)); intro gb36001 hg w3 hbox hb; have n0_ := Aside0.mk (below_step za2 hb); have n1_ := Aside0.mk (hbox); have n2_ := Aside0.mk ((by rw [hg]; exact (below_size za2) : w.heap.size ≤ gb36001)); have n3_ := Aside0.mk ((by rw [hg]; exact (below_size za2) : w.heap.size ≤ gb36001)); clear HB; have HB := n0_; have BK36001 := n1_; have GW36001 := n2_; have GE36001 := n3_; clear n0_ n1_ n2_ n3_; clear hb hbox hg) | ((with_reducible refine gate_dst (N := 4) rfl ?_); refine box_event ?hg (N := 4) ?hd (cs := #[.string (⟨#[]⟩ : ByteArray), .string (⟨#[]⟩ : ByteArray), .string (⟨#[]⟩ : ByteArray)]) (t := 39) ?hr ?_; (case hd => rfl); (case hg => rfl); (case hr => first | (go_simp; done) | (go_simp; rfl)); intro gb36002 hg w4 hbox hb; have n0_ := Aside0.mk (blk_below (g := gb36001) (o := .cells #[.string a0_0, .string a0_1, .string a0_2] 39 (0, 0)) (za0 BK36001.out) hb); have n1_ := Aside0.mk (below_step za2 hb); have n2_ := Aside0.mk (hbox); have n3_ := Aside0.mk ((by rw [hg]; exact (below_size za2) : w.heap.size ≤ gb36002)); have n4_ := Aside0.mk ((by rw [hg]; exact (below_size za2) : w.heap.size ≤ gb36002)); have n5_ := Aside0.mk ((by rw [hg]; exact Nat.ne_of_lt (blk_lt (g := gb36001) (o := .cells #[.string a0_0, .string a0_1, .string a0_2] 39 (0, 0)) (za0 BK36001.out)) : gb36001 ≠ gb36002)); have n6_ := Aside0.mk ((by rw [hg]; exact Nat.ne_of_gt (blk_lt (g := gb36001) (o := .cells #[.string a0_0, .string a0_1, .string a0_2] 39 (0, 0)) (za0 BK36001.out)) : gb36002 ≠ gb36001)); clear BK36001; clear HB; have BK36001 := n0_; have HB := n1_; have BK36002 := n2_; have GW36002 := n3_; have GE36002 := n4_; have NB36001_36002 := n5_; have NB36002_36001 := n6_; clear n0_ n1_ n2_ n3_ n4_ n5_ n6_; clear hb hbox hg))
 first | go_loopg [6] k (fun kq v6 w' => ∃ (x6_1 : Int) (x36002000_1 : ByteArray) (x36002001_1 : ByteArray) (x36002002_1 : ByteArray), v6 = .int .i64 x6_1 ∧ Aside0 (impl_cleared.l0 kq a1 x6_1 x36002000_1 x36002001_1 x36002002_1 = some (r1, r2, r3)) ∧ Aside0 (kq ≤ k) ∧ Aside0 (w'.heap[gb36001]? = some (.cells #[.string x36002000_1, .string x36002001_1, .string x36002002_1] 39 (0, 0))) ∧ Aside0 (w'.heap[gb36002]? = some (.cells #[.string (⟨#[]⟩ : ByteArray), .string (⟨#[]⟩ : ByteArray), .string (⟨#[]⟩ : ByteArray)] 39 (0, 0))) ∧ Aside0 (Below w.heap.size w w')) | (simp only [Act.put, List.setIfInBounds_toArray, List.set_cons_succ, List.set_cons_zero]; go_loopg [6] k (fun kq v6 w' => ∃ (x6_1 : Int) (x36002000_1 : ByteArray) (x36002001_1 : ByteArray) (x36002002_1 : ByteArray), v6 = .int .i64 x6_1 ∧ Aside0 (impl_cleared.l0 kq a1 x6_1 x36002000_1 x36002001_1 x36002002_1 = some (r1, r2, r3)) ∧ Aside0 (kq ≤ k) ∧ Aside0 (w'.heap[gb36001]? = some (.cells #[.string x36002000_1, .string x36002001_1, .string x36002002_1] 39 (0, 0))) ∧ Aside0 (w'.heap[gb36002]? = some (.cells #[.string (⟨#[]⟩ : ByteArray), .string (⟨#[]⟩ : ByteArray), .string (⟨#[]⟩ : ByteArray)] 39 (0, 0))) ∧ Aside0 (Below w.heap.size w w')))
 case atStart => exact ⟨(0), (a0_0), (a0_1), (a0_2), za6, H', ⟨Nat.le_refl _⟩, ⟨za0 BK36001.out⟩, ⟨za0 BK36002.out⟩, ⟨za2⟩⟩
 case round =>
  clear H'
  obtain ⟨x6_1, x36002000_1, x36002001_1, x36002002_1, rfl, HA, HK1, BK36001, BK36002, HB⟩ := hrel
  cases gk with
  | zero => exact absurd HA.out (by simp [impl_cleared.l0])
  | succ k1 =>
  have H := HA.out
  clear HA
  simp only [impl_cleared.l0] at H
  by_cases c5 : x6_1 < 3
  rw [if_pos c5] at H
  have c5b0 : decide (x6_1 < 3) = true := decide_eq_true c5
  clear c5
  by_cases c6 : 0 ≤ x6_1
  rw [if_pos c6] at H
  have c6b0 : decide (0 ≤ x6_1) = true := decide_eq_true c6
  clear c6
  replace H := Option.bind_eq_some_iff.mp H
  obtain ⟨t36003, A80, H⟩ := H
  replace H : (if t36003 < 0 then ((impl_WithValue.f x36002000_1 x36002001_1 x36002002_1 (bt (⟨#[88, 89, 90]⟩ : ByteArray) x6_1) (⟨#[]⟩ : ByteArray)).bind fun bt36004 => (impl_cleared.l0 k1 a1 (wrap64 (x6_1 + 1)) bt36004.1 bt36004.2.1 bt36004.2.2)) else (impl_cleared.l0 k1 a1 (wrap64 (x6_1 + 1)) x36002000_1 x36002001_1 x36002002_1)) = some (r1, r2, r3) := H
  have A8 := Aside0.mk A80
  clear A80
  by_cases c9 : t36003 < 0
  ·rw [if_pos c9] at H
   have c9b0 : decide (t36003 < 0) = true := decide_eq_true c9
   clear c9
   replace H := Option.bind_eq_some_iff.mp H
   obtain ⟨⟨t36004, t36005, t36006⟩, A110, H⟩ := H
   replace H : (impl_cleared.l0 k1 a1 (wrap64 (x6_1 + 1)) t36004 t36005 t36006) = some (r1, r2, r3) := H
   have A11 := Aside0.mk A110
   clear A110
   have H' := Aside0.mk H
   clear H
   have p7 : 0 ≤ (x6_1 : Int) := of_decide_eq_true za7
   have q7 : x6_1 < (3 : Int) := of_decide_eq_true za7
   have hx7 := bt_at (⟨#[88, 89, 90]⟩ : ByteArray) x6_1
   replace p7 := eq_true p7
   replace q7 := eq_true q7
   try go_wp2_with (first | ((with_reducible refine gate_callee (f := 65) rfl ?_); refine goesL_ (some 12) rfl rfl Try.func65 (by kernel_rfl) rfl #[.string a1, .int .u8 (bt (⟨#[88, 89, 90]⟩ : ByteArray) x6_1)] rfl za3 ?_; (with_reducible refine (strings_IndexByte.calls a1 (bt (⟨#[88, 89, 90]⟩ : ByteArray) x6_1) t36003 _ A8.out).mono ?_); rintro e w' ⟨rfl, ⟨nd, rfl⟩⟩; refine ⟨_, rfl, ?_⟩; (try (rw [drewN_self wr]; generalize hq_ : World.drewN wr _ = wr; have n0_ : Aside0 (wr.heap[gb36001]? = some (.cells #[.string x36002000_1, .string x36002001_1, .string x36002002_1] 39 (0, 0))) := ⟨by rw [← hq_]; exact (za0 BK36001.out)⟩; have n1_ : Aside0 (wr.heap[gb36002]? = some (.cells #[.string (⟨#[]⟩ : ByteArray), .string (⟨#[]⟩ : ByteArray), .string (⟨#[]⟩ : ByteArray)] 39 (0, 0))) := ⟨by rw [← hq_]; exact (za0 BK36002.out)⟩; have n2_ : Aside0 (Below w.heap.size w wr) := ⟨by rw [← hq_]; exact za2⟩; clear BK36001 BK36002 HB hq_; have BK36001 := n0_; have BK36002 := n1_; have HB := n2_; clear n0_ n1_ n2_))))
   have n0_ := Aside0.mk (blk_drew BK36001.out)
   have n1_ := Aside0.mk (blk_drew BK36002.out)
   have n2_ := Aside0.mk (below_drew1 HB.out)
   clear BK36001
   clear BK36002
   clear HB
   have BK36001 := n0_
   have BK36002 := n1_
   have HB := n2_
   clear n0_ n1_ n2_
   have p10 : 0 ≤ (x6_1 : Int) := of_decide_eq_true za7
   have q10 : x6_1 < (3 : Int) := of_decide_eq_true za7
   have hx10 := bt_at (⟨#[88, 89, 90]⟩ : ByteArray) x6_1
   replace p10 := eq_true p10
   replace q10 := eq_true q10
   refine start_ (n := 5) (S := fun w' => w'.cell? ⟨gb36001, 0, none⟩ = some (.string x36002000_1) ∧ w'.cell? ⟨gb36001, 1, none⟩ = some (.string x36002001_1) ∧ w'.cell? ⟨gb36001, 2, none⟩ = some (.string x36002002_1)) (ds := [4]) #[false, false, false, false, false] (by kernel_rfl) rfl rfl ⟨(blk_cell BK36001.out 0).trans rfl, (blk_cell BK36001.out 1).trans rfl, (blk_cell BK36001.out 2).trans rfl⟩ (fun hHeld => ?_)
   generalize wr.drew = w12 at BK36001 BK36002 HB hHeld ⊢
   refine pure_ (i := 1) (N := some 15) (v := ?_) (a' := ?_) #[false, true, false, false, false] rfl rfl (by kernel_rfl) (fun _ _ _ h => h) (Or.inl ⟨by rfl, ?_⟩) ?_ ?_
   rotate_left
   ·intro w'
    go_simp
    first | with_reducible rfl | (rw [if_neg (by omega)]; done) | (rw [if_neg za4]; done)
   rotate_left
   ·simp only [Act.put, List.setIfInBounds_toArray, List.set_cons_zero, List.set_cons_succ, i64_w, i32_w]
    rfl
   refine take_ (i := 0) (N := some 14) (v := ?_) (a' := ?_) #[true, true, false, false, false] rfl rfl (by kernel_rfl) (fun _ _ _ h => h) (Or.inl ⟨by rfl, ?_⟩) hHeld ?_ ?_
   rotate_left
   ·rintro w' ⟨s0, s1, s2⟩
    go_simp
    first | with_reducible rfl | (rw [if_neg (by omega)]; done) | (rw [if_neg za4]; done)
   rotate_left
   ·simp only [Act.put, List.setIfInBounds_toArray, List.set_cons_zero, List.set_cons_succ, i64_w, i32_w]
    rfl
   refine take_ (i := 2) (N := some 16) (v := ?_) (a' := ?_) #[true, true, true, false, false] rfl rfl (by kernel_rfl) (fun _ _ _ h => h) (Or.inl ⟨by rfl, ?_⟩) hHeld ?_ ?_
   rotate_left
   ·rintro w' ⟨s0, s1, s2⟩
    go_simp
    first | with_reducible rfl | (rw [if_neg (by omega)]; done) | (rw [if_neg za4]; done)
   rotate_left
   ·simp only [Act.put, List.setIfInBounds_toArray, List.set_cons_zero, List.set_cons_succ, i64_w, i32_w]
    rfl
   refine one_ (i := 3) (N := some 17) #[true, true, true, true, false] rfl rfl (by kernel_rfl) (by decide) (fun K hK => ?_)
   refine goes_ Try.func66 (by kernel_rfl) rfl #[.agg #[.string x36002000_1, .string x36002001_1, .string x36002002_1], .int .u8 (bt (⟨#[88, 89, 90]⟩ : ByteArray) x6_1), .string (⟨#[]⟩ : ByteArray)] (by rfl) rfl rfl za3 ?_
   with_reducible refine (impl_WithValue.calls x36002000_1 x36002001_1 x36002002_1 (bt (⟨#[88, 89, 90]⟩ : ByteArray) x6_1) (⟨#[]⟩ : ByteArray) t36004 t36005 t36006 _ A11.out).mono ?_
   rintro e w13 ⟨rfl, hb⟩
   refine ⟨_, rfl, ?_⟩
   have n0_ := Aside0.mk (blk_below (g := gb36001) (o := .cells #[.string x36002000_1, .string x36002001_1, .string x36002002_1] 39 (0, 0)) (za0 BK36001.out) hb)
   have n1_ := Aside0.mk (blk_below (g := gb36002) (o := .cells #[.string (⟨#[]⟩ : ByteArray), .string (⟨#[]⟩ : ByteArray), .string (⟨#[]⟩ : ByteArray)] 39 (0, 0)) (za0 BK36002.out) hb)
   have n2_ := Aside0.mk (below_step za2 hb)
   clear BK36001
   clear BK36002
   clear HB
   have BK36001 := n0_
   have BK36002 := n1_
   have HB := n2_
   clear n0_ n1_ n2_
   (try clear hb)
   (try clear hb2)
   (try clear hk)
   (try clear hi)
   refine hK.out _ _ ⟨(blk_cell BK36001.out 0).trans rfl, (blk_cell BK36001.out 1).trans rfl, (blk_cell BK36001.out 2).trans rfl⟩ (fun hHeld => ?_)
   clear hK K
   refine norm_ (a' := ?_) ?_ ?_
   rotate_left
   ·show Act.put _ (some 17) _ = _
    simp only [Act.put, List.setIfInBounds_toArray, List.set_cons_zero, List.set_cons_succ, i64_w, i32_w]
    rfl
   refine last_ (i := 4) (N := none) #[true, true, true, true, true] rfl rfl (by kernel_rfl) (by decide) (fun K hK => ?_)
   have hs14 : w13.cell? ⟨gb36001, 0, none⟩ = some (.string x36002000_1) := (blk_cell BK36001.out 0).trans rfl
   have hfs14 := blk_frozen BK36001.out 0
   have hns14_1 := NB36002_36001.out
   have hms14_1 := NB36001_36002.out
   have hs15 : w13.cell? ⟨gb36001, 1, none⟩ = some (.string x36002001_1) := (blk_cell BK36001.out 1).trans rfl
   have hfs15 := blk_frozen BK36001.out 1
   have hns15_1 := NB36002_36001.out
   have hms15_1 := NB36001_36002.out
   have hs16 : w13.cell? ⟨gb36001, 2, none⟩ = some (.string x36002002_1) := (blk_cell BK36001.out 2).trans rfl
   have hfs16 := blk_frozen BK36001.out 2
   have hns16_1 := NB36002_36001.out
   have hms16_1 := NB36001_36002.out
   refine skip_ (w1 := ?_) (by rfl) rfl ?_ ?_
   rotate_left
   ·go_simp
    rfl
   refine hK.out _ _ ?_
   clear hK K
   refine done_ (by kernel_rfl) ?_
   try go_wp2
   go_roundg k1
   case measure => have := HK1.out; omega
   case rel => exact ⟨(wrap64 (x6_1 + 1)), (t36004), (t36005), (t36006), za6, H', ⟨za11⟩, ⟨by (with_reducible repeat (first | refine blk_drewN ?_ _ | refine blk_drew ?_ | refine blk_alloc ?_ _)); refine blk_put (cs := #[.string t36004, .string t36005, .string x36002002_1]) ?_ 2 _ rfl; (with_reducible repeat (first | refine blk_drewN ?_ _ | refine blk_drew ?_ | refine blk_alloc ?_ _)); refine blk_put (cs := #[.string t36004, .string x36002001_1, .string x36002002_1]) ?_ 1 _ rfl; (with_reducible repeat (first | refine blk_drewN ?_ _ | refine blk_drew ?_ | refine blk_alloc ?_ _)); refine blk_put (cs := #[.string x36002000_1, .string x36002001_1, .string x36002002_1]) ?_ 0 _ rfl; (with_reducible repeat (first | refine blk_drewN ?_ _ | refine blk_drew ?_ | refine blk_alloc ?_ _)); exact BK36001.out⟩, ⟨by (with_reducible repeat (first | refine blk_drewN ?_ _ | refine blk_drew ?_ | refine blk_alloc ?_ _)); refine blk_far ?_ NB36002_36001.out _; (with_reducible repeat (first | refine blk_drewN ?_ _ | refine blk_drew ?_ | refine blk_alloc ?_ _)); refine blk_far ?_ NB36002_36001.out _; (with_reducible repeat (first | refine blk_drewN ?_ _ | refine blk_drew ?_ | refine blk_alloc ?_ _)); refine blk_far ?_ NB36002_36001.out _; (with_reducible repeat (first | refine blk_drewN ?_ _ | refine blk_drew ?_ | refine blk_alloc ?_ _)); exact BK36002.out⟩, ⟨za2⟩⟩
  ·rw [if_neg c9] at H
   have c9b0 : decide (t36003 < 0) = false := decide_eq_false c9
   clear c9
   have H' := Aside0.mk H
   clear H
   have p7 : 0 ≤ (x6_1 : Int) := of_decide_eq_true za7
   have q7 : x6_1 < (3 : Int) := of_decide_eq_true za7
   have hx7 := bt_at (⟨#[88, 89, 90]⟩ : ByteArray) x6_1
   replace p7 := eq_true p7
   replace q7 := eq_true q7
   go_wp2_with (first | ((with_reducible refine gate_callee (f := 65) rfl ?_); refine goesL_ (some 12) rfl rfl Try.func65 (by kernel_rfl) rfl #[.string a1, .int .u8 (bt (⟨#[88, 89, 90]⟩ : ByteArray) x6_1)] rfl za3 ?_; (with_reducible refine (strings_IndexByte.calls a1 (bt (⟨#[88, 89, 90]⟩ : ByteArray) x6_1) t36003 _ A8.out).mono ?_); rintro e w' ⟨rfl, ⟨nd, rfl⟩⟩; refine ⟨_, rfl, ?_⟩))
   go_roundg k1
   case measure => have := HK1.out; omega
   case rel => exact ⟨(wrap64 (x6_1 + 1)), (x36002000_1), (x36002001_1), (x36002002_1), za6, H', ⟨za11⟩, ⟨za0 BK36001.out⟩, ⟨za0 BK36002.out⟩, ⟨za2⟩⟩
  ·rw [if_neg c6] at H
   exact absurd H (by simp)
  ·rw [if_neg c5] at H
   have c5b0 : decide (x6_1 < 3) = false := decide_eq_false c5
   clear c5
   simp only [Option.some.injEq, Prod.mk.injEq] at H
   obtain ⟨rfl, rfl, rfl⟩ := H
   have hnb17 := NB36001_36002.out
   have hnc17 := NB36002_36001.out
   obtain ⟨hcz18_0, hcz18_1, hcz18_2, hfz18_0, hfz18_1, hfz18_2⟩ := blk3 BK36001.out
   obtain ⟨hcz19_0, hcz19_1, hcz19_2, hfz19_0, hfz19_1, hfz19_2⟩ := blk3 BK36002.out
   go_wp2
   refine bodyPost_ret (results_cell_row rfl _ _ gb36002 39 #[.string x36002000_1, .string x36002001_1, .string x36002002_1] (0, 0) _ rfl (by (with_reducible repeat (first | refine blk_drewN ?_ _ | refine blk_drew ?_ | refine blk_alloc ?_ _)); refine blk_put (cs := #[.string x36002000_1, .string x36002001_1, .string (⟨#[]⟩ : ByteArray)]) ?_ 2 _ rfl; (with_reducible repeat (first | refine blk_drewN ?_ _ | refine blk_drew ?_ | refine blk_alloc ?_ _)); refine blk_put (cs := #[.string x36002000_1, .string (⟨#[]⟩ : ByteArray), .string (⟨#[]⟩ : ByteArray)]) ?_ 1 _ rfl; (with_reducible repeat (first | refine blk_drewN ?_ _ | refine blk_drew ?_ | refine blk_alloc ?_ _)); refine blk_put (cs := #[.string (⟨#[]⟩ : ByteArray), .string (⟨#[]⟩ : ByteArray), .string (⟨#[]⟩ : ByteArray)]) ?_ 0 _ rfl; (with_reducible repeat (first | refine blk_drewN ?_ _ | refine blk_drew ?_ | refine blk_alloc ?_ _)); exact BK36002.out) Try.underlying39 rfl (by kernel_rfl)) rfl ?_
   exact ⟨za5, za2⟩
def impl_VarsOfProblem.l0 : Nat → ByteArray → List (S37) → Int → Int → Option (ByteArray)
 | 0, _, _, _, _ => none
 | k + 1, x3, x10, x11, x12 => if x12 < x11 then (if 0 ≤ x12 then (if x12 < (x10.length : Int) then ((impl_VarsOfConstraint.f k ((rd_T37 x10 x12).f0) ((rd_T37 x10 x12).f1) ((rd_T37 x10 x12).f2) ((rd_T37 x10 x12).f3.f0) ((rd_T37 x10 x12).f3.f1) ((rd_T37 x10 x12).f3.f2) ((rd_T37 x10 x12).f4) ((rd_T37 x10 x12).f5)).bind fun t37005 => (if x3.size + t37005.size ≤ 9223372036854775807 then (impl_VarsOfProblem.l0 k (x3 ++ t37005) x10 x11 (wrap64 (x12 + 1))) else (none))) else (none)) else (none)) else ((impl_VarsOf.f k x3).bind fun t37006 => (some t37006))
def impl_VarsOfProblem.f (k : Nat) (l0_0 : List (S37)) : Option (ByteArray) := (impl_IsValidProblem.f k l0_0).bind fun t37002 => (if t37002 = true then (impl_VarsOfProblem.l0 k (⟨#[]⟩ : ByteArray) l0_0 (l0_0.length : Int) 0) else (some (⟨#[]⟩ : ByteArray)))
theorem impl_VarsOfProblem.mono_l : ∀ k, (∀ y0 y1 y2 y3, LeO (impl_VarsOfProblem.l0 k y0 y1 y2 y3) (impl_VarsOfProblem.l0 (k + 1) y0 y1 y2 y3))
 | 0 => fun _ _ _ _ r h => by simp [impl_VarsOfProblem.l0] at h
 | k + 1 => by
  have ih0 := impl_VarsOfProblem.mono_l k
  ·intro y0 y1 y2 y3
   unfold impl_VarsOfProblem.l0
   repeat' first
   | with_reducible first | exact ih0 _ _ _ _ | exact impl_IsValidProblem.mono _ _ | exact impl_VarsOf.mono _ _ | exact impl_VarsOfConstraint.mono _ _ _ _ _ _ _ _ _ | exact LeO.refl _ | exact LeO.none _ | refine LeO.ite ?_ ?_ | refine LeO.bind ?_ (fun _ => ?_)
theorem impl_VarsOfProblem.mono : ∀ a0 k, LeO (impl_VarsOfProblem.f k a0) (impl_VarsOfProblem.f (k + 1) a0) := by
 intro a0 k
 have ih0 := impl_VarsOfProblem.mono_l k
 unfold impl_VarsOfProblem.f
 repeat' first
   | with_reducible first | exact ih0 _ _ _ _ | exact impl_IsValidProblem.mono _ _ | exact impl_VarsOf.mono _ _ | exact impl_VarsOfConstraint.mono _ _ _ _ _ _ _ _ _ | exact LeO.refl _ | exact LeO.none _ | refine LeO.ite ?_ ?_ | refine LeO.bind ?_ (fun _ => ?_)
theorem impl_VarsOfProblem.calls (k : Nat) (A0_0 : Option Addr) (c0_0 : Nat) (l0_0 : List (S37)) (r : ByteArray) (w : World) (hr0_0 : Kd.C k37 w A0_0 l0_0.length l0_0) (hc0_0 : l0_0.length ≤ c0_0) (h : impl_VarsOfProblem.f k l0_0 = some r) :
  Calls Try.prog 37 #[.agg #[.slice A0_0 l0_0.length c0_0]] w fun e w' => e = .returned (.string r) ∧ Below w.heap.size w w' := by
 have hu50 := Try.underlying50
 have hu37 := Try.underlying37
 have HR0_0 := Aside0.mk hr0_0
 have HC0_0 := Aside0.mk hc0_0
 clear hr0_0 hc0_0
 have HB := Aside0.mk (Below.refl w.heap.size w)
 have H : ((impl_IsValidProblem.f k l0_0).bind fun t37002 => (if t37002 = true then (impl_VarsOfProblem.l0 k (⟨#[]⟩ : ByteArray) l0_0 (l0_0.length : Int) 0) else (some (⟨#[]⟩ : ByteArray)))) = some r := h
 clear h
 replace H := Option.bind_eq_some_iff.mp H
 obtain ⟨t37002, A20, H⟩ := H
 replace H : (if t37002 = true then (impl_VarsOfProblem.l0 k (⟨#[]⟩ : ByteArray) l0_0 (l0_0.length : Int) 0) else (some (⟨#[]⟩ : ByteArray))) = some r := H
 have A2 := Aside0.mk A20
 clear A20
 by_cases c3 : t37002 = true
 ·subst c3
  have H1 : (impl_VarsOfProblem.l0 k (⟨#[]⟩ : ByteArray) l0_0 (l0_0.length : Int) 0) = some r := by rw [if_pos rfl] at H; exact H
  clear H
  have H := H1
  clear H1
  have H' := Aside0.mk H
  clear H
  go_enter Try.func37, Try.ntmps37
  go_wp2_with (first | ((with_reducible refine gate_dst (N := 1) rfl ?_); refine box_event ?hg (N := 1) ?hd (cs := #[.slice A0_0 l0_0.length c0_0]) (t := 50) ?hr ?_; (case hd => rfl); (case hg => rfl); (case hr => first | (go_simp; done) | (go_simp; rfl)); intro gb37001 hg w4 hbox hb; have n0_ := Aside0.mk (below_step za2 hb); have n1_ := Aside0.mk (hbox); have n2_ := Aside0.mk ((by rw [hg]; exact (below_size za2) : w.heap.size ≤ gb37001)); have n3_ := Aside0.mk ((by rw [hg]; exact (below_size za2) : w.heap.size ≤ gb37001)); clear HB; have HB := n0_; have BK37001 := n1_; have GW37001 := n2_; have GE37001 := n3_; clear n0_ n1_ n2_ n3_; clear hb hbox hg; obtain ⟨hcz5_0, hfz5_0⟩ := blk1 BK37001.out) | ((with_reducible refine gate_callee (f := 35) rfl ?_); refine goesL_ (some 7) rfl rfl Try.func35 (by kernel_rfl) rfl #[.agg #[.slice A0_0 l0_0.length c0_0]] rfl za3 ?_; (with_reducible refine (impl_IsValidProblem.calls k _ _ l0_0 _ _ ?side1 ?side2 A2.out).mono ?_); (case side1 => repeat (first | exact (Kd.C_below HR0_0.out HB.out) | (with_reducible refine Kd.C_alloc ?_ _) | (with_reducible refine Kd.C_drewN ?_ _) | (with_reducible refine Kd.C_drew ?_))); (case side2 => exact HC0_0.out); rintro e w6 ⟨rfl, hb⟩; refine ⟨_, rfl, ?_⟩; have n0_ := Aside0.mk (blk_below (g := gb37001) (o := .cells #[.slice A0_0 l0_0.length c0_0] 50 (0, 0)) (za0 BK37001.out) hb); have n1_ := Aside0.mk (below_step za2 hb); clear BK37001; clear HB; have BK37001 := n0_; have HB := n1_; clear n0_ n1_; (try clear hb); (try clear hb2); (try clear hk); (try clear hi); obtain ⟨hcz7_0, hfz7_0⟩ := blk1 BK37001.out))
  first | go_loopg [3, 12] k (fun kq v3 v12 w' => ∃ (x3_1 : ByteArray) (x12_1 : Int), v3 = .string x3_1 ∧ v12 = .int .i64 x12_1 ∧ Aside0 (impl_VarsOfProblem.l0 kq x3_1 l0_0 (l0_0.length : Int) x12_1 = some r) ∧ Aside0 (kq ≤ k) ∧ Aside0 (w'.heap[gb37001]? = some (.cells #[(.slice A0_0 l0_0.length c0_0)] 50 (0, 0))) ∧ Aside0 (Below w.heap.size w w')) | (simp only [Act.put, List.setIfInBounds_toArray, List.set_cons_succ, List.set_cons_zero]; go_loopg [3, 12] k (fun kq v3 v12 w' => ∃ (x3_1 : ByteArray) (x12_1 : Int), v3 = .string x3_1 ∧ v12 = .int .i64 x12_1 ∧ Aside0 (impl_VarsOfProblem.l0 kq x3_1 l0_0 (l0_0.length : Int) x12_1 = some r) ∧ Aside0 (kq ≤ k) ∧ Aside0 (w'.heap[gb37001]? = some (.cells #[(.slice A0_0 l0_0.length c0_0)] 50 (0, 0))) ∧ Aside0 (Below w.heap.size w w')))
  case atStart => exact ⟨((⟨#[]⟩ : ByteArray)), (0), za6, za6, H', ⟨Nat.le_refl _⟩, ⟨za0 BK37001.out⟩, ⟨za2⟩⟩
  case round =>
   clear H'
   try clear c3
   try clear hcz5_0
   try clear hcz7_0
   try clear hfz5_0
   try clear hfz7_0
   obtain ⟨x3_1, x12_1, rfl, rfl, HA, HK1, BK37001, HB⟩ := hrel
   cases gk with
   | zero => exact absurd HA.out (by simp [impl_VarsOfProblem.l0])
   | succ k1 =>
   have H := HA.out
   clear HA
   simp only [impl_VarsOfProblem.l0] at H
   by_cases c8 : x12_1 < (l0_0.length : Int)
   rw [if_pos c8] at H
   have c8b0 : decide (x12_1 < (l0_0.length : Int)) = true := decide_eq_true c8
   clear c8
   by_cases c9 : 0 ≤ x12_1
   rw [if_pos c9] at H
   have c9b0 : decide (0 ≤ x12_1) = true := decide_eq_true c9
   clear c9
   by_cases c10 : x12_1 < (l0_0.length : Int)
   rw [if_pos c10] at H
   have c10b0 : decide (x12_1 < (l0_0.length : Int)) = true := decide_eq_true c10
   clear c10
   replace H := Option.bind_eq_some_iff.mp H
   obtain ⟨t37005, A110, H⟩ := H
   replace H : (if x3_1.size + t37005.size ≤ 9223372036854775807 then (impl_VarsOfProblem.l0 k1 (x3_1 ++ t37005) l0_0 (l0_0.length : Int) (wrap64 (x12_1 + 1))) else (none)) = some r := H
   have A11 := Aside0.mk A110
   clear A110
   by_cases c12 : x3_1.size + t37005.size ≤ 9223372036854775807
   rw [if_pos c12] at H
   have c12z := c12
   try simp at c12z
   try replace c12z := eq_false (Nat.not_lt.2 c12z)
   have c12b0 := eq_true c12
   have c12b1 : decide (x3_1.size + t37005.size ≤ 9223372036854775807) = true := decide_eq_true c12
   try have c12b2 : (9223372036854775807 < x3_1.size + t37005.size) = False := eq_false (Nat.not_lt.2 c12)
   have H' := Aside0.mk H
   clear H
   have p37003 : 0 ≤ (x12_1 : Int) := of_decide_eq_true za7
   have q37003 : x12_1 < (l0_0.length : Int) := of_decide_eq_true za7
   obtain ⟨ad37003, A37003_5, c37003_5, A37003_6, c37003_6, e37003, hx37003_0, hx37003_1, hx37003_2, hx37003_3, hx37003_4, hx37003_5, hx37003_6, hx37003_7, hl37003_5, hi37003_5, hl37003_6, hi37003_6⟩ := at_T37 HR0_0.out x12_1 p37003 q37003
   cases e37003
   replace hx37003_0 := (HB.out.cell (World.block_lt_of_cell? w _ hx37003_0)).trans hx37003_0
   replace hx37003_1 := (HB.out.cell (World.block_lt_of_cell? w _ hx37003_1)).trans hx37003_1
   replace hx37003_2 := (HB.out.cell (World.block_lt_of_cell? w _ hx37003_2)).trans hx37003_2
   replace hx37003_3 := (HB.out.cell (World.block_lt_of_cell? w _ hx37003_3)).trans hx37003_3
   replace hx37003_4 := (HB.out.cell (World.block_lt_of_cell? w _ hx37003_4)).trans hx37003_4
   replace hx37003_5 := (HB.out.cell (World.block_lt_of_cell? w _ hx37003_5)).trans hx37003_5
   replace hx37003_6 := (HB.out.cell (World.block_lt_of_cell? w _ hx37003_6)).trans hx37003_6
   replace hx37003_7 := (HB.out.cell (World.block_lt_of_cell? w _ hx37003_7)).trans hx37003_7
   have HR37003_5 := Aside0.mk hi37003_5
   have HC37003_5 := Aside0.mk hl37003_5
   clear hi37003_5 hl37003_5
   have HR37003_6 := Aside0.mk hi37003_6
   have HC37003_6 := Aside0.mk hl37003_6
   clear hi37003_6 hl37003_6
   replace p37003 := eq_true p37003
   replace q37003 := eq_true q37003
   have fin0_ := Aside0.mk trivial
   rotate_left
   ·rw [if_neg c12] at H
    exact absurd H (by simp)
   ·rw [if_neg c10] at H
    exact absurd H (by simp)
   ·rw [if_neg c9] at H
    exact absurd H (by simp)
   rw [if_neg c8] at H
   have c8b0 : decide (x12_1 < (l0_0.length : Int)) = false := decide_eq_false c8
   clear c8
   replace H := Option.bind_eq_some_iff.mp H
   obtain ⟨t37006, A170, H⟩ := H
   replace H : (some t37006) = some r := H
   have A17 := Aside0.mk A170
   clear A170
   obtain rfl := Option.some.inj H
   have fin1_ := Aside0.mk trivial
   rotate_left
   all_goals
    go_wp2_with (first | ((with_reducible refine gate_dst (N := 5) rfl ?_); refine box_event ?hg (N := 5) ?hd (cs := #[.int .i64 0, .string (⟨#[]⟩ : ByteArray), .string (⟨#[]⟩ : ByteArray), .int .i64 0, .string (⟨#[]⟩ : ByteArray), .slice none 0 0, .slice none 0 0, .int .i64 0]) (t := 37) ?hr ?_; (case hd => rfl); (case hg => rfl); (case hr => first | (go_simp; done) | (go_simp; rfl)); intro gb37004 hg w13 hbox hb; have n0_ := Aside0.mk (blk_below (g := gb37001) (o := .cells #[.slice (some ad37003) l0_0.length c0_0] 50 (0, 0)) (za0 BK37001.out) hb); have n1_ := Aside0.mk (below_step za2 hb); have n2_ := Aside0.mk (hbox); have n3_ := Aside0.mk ((by rw [hg]; exact (below_size za2) : w.heap.size ≤ gb37004)); have n4_ := Aside0.mk ((by rw [hg]; exact (below_size za2) : w.heap.size ≤ gb37004)); have n5_ := Aside0.mk ((by rw [hg]; exact Nat.ne_of_lt (blk_lt (g := gb37001) (o := .cells #[.slice (some ad37003) l0_0.length c0_0] 50 (0, 0)) (za0 BK37001.out)) : gb37001 ≠ gb37004)); have n6_ := Aside0.mk ((by rw [hg]; exact Nat.ne_of_gt (blk_lt (g := gb37001) (o := .cells #[.slice (some ad37003) l0_0.length c0_0] 50 (0, 0)) (za0 BK37001.out)) : gb37004 ≠ gb37001)); clear BK37001; clear HB; have BK37001 := n0_; have HB := n1_; have BK37004 := n2_; have GW37004 := n3_; have GE37004 := n4_; have NB37001_37004 := n5_; have NB37004_37001 := n6_; clear n0_ n1_ n2_ n3_ n4_ n5_ n6_; clear hb hbox hg; have hnb14 := NB37004_37001.out; have hnc14 := NB37001_37004.out; obtain ⟨hcz15_0, hcz15_1, hcz15_2, hcz15_3, hcz15_4, hcz15_5, hcz15_6, hcz15_7, hfz15_0, hfz15_1, hfz15_2, hfz15_3, hfz15_4, hfz15_5, hfz15_6, hfz15_7⟩ := blk8 BK37004.out) | ((with_reducible refine gate_callee (f := 67) rfl ?_); refine goesL_ (some 18) rfl rfl Try.func67 (by kernel_rfl) rfl #[.agg #[.int .i64 ((rd_T37 l0_0 x12_1).f0), .string ((rd_T37 l0_0 x12_1).f1), .string ((rd_T37 l0_0 x12_1).f2), .int .i64 ((rd_T37 l0_0 x12_1).f3.f0), .string ((rd_T37 l0_0 x12_1).f3.f1), .slice A37003_5 ((rd_T37 l0_0 x12_1).f3.f2).length c37003_5, .slice A37003_6 ((rd_T37 l0_0 x12_1).f4).length c37003_6, .int .i64 ((rd_T37 l0_0 x12_1).f5)]] rfl za3 ?_; (with_reducible refine (impl_VarsOfConstraint.calls k1 ((rd_T37 l0_0 x12_1).f0) ((rd_T37 l0_0 x12_1).f1) ((rd_T37 l0_0 x12_1).f2) ((rd_T37 l0_0 x12_1).f3.f0) ((rd_T37 l0_0 x12_1).f3.f1) _ _ ((rd_T37 l0_0 x12_1).f3.f2) _ _ ((rd_T37 l0_0 x12_1).f4) ((rd_T37 l0_0 x12_1).f5) t37005 _ ?side1 ?side2 ?side3 ?side4 A11.out).mono ?_); (case side1 => exact Kd.C_below HR37003_5.out za2); (case side2 => exact HC37003_5.out); (case side3 => exact Kd.C_below HR37003_6.out za2); (case side4 => exact HC37003_6.out); rintro e w16 ⟨rfl, hb⟩; refine ⟨_, rfl, ?_⟩; have n0_ := Aside0.mk (blk_below (g := gb37001) (o := .cells #[.slice (some ad37003) l0_0.length c0_0] 50 (0, 0)) (by (with_reducible repeat (first | refine blk_drewN ?_ _ | refine blk_drew ?_ | refine blk_alloc ?_ _)); refine blk_far ?_ NB37001_37004.out _; (with_reducible repeat (first | refine blk_drewN ?_ _ | refine blk_drew ?_ | refine blk_alloc ?_ _)); refine blk_far ?_ NB37001_37004.out _; (with_reducible repeat (first | refine blk_drewN ?_ _ | refine blk_drew ?_ | refine blk_alloc ?_ _)); refine blk_far ?_ NB37001_37004.out _; (with_reducible repeat (first | refine blk_drewN ?_ _ | refine blk_drew ?_ | refine blk_alloc ?_ _)); refine blk_far ?_ NB37001_37004.out _; (with_reducible repeat (first | refine blk_drewN ?_ _ | refine blk_drew ?_ | refine blk_alloc ?_ _)); refine blk_far ?_ NB37001_37004.out _; (with_reducible repeat (first | refine blk_drewN ?_ _ | refine blk_drew ?_ | refine blk_alloc ?_ _)); refine blk_far ?_ NB37001_37004.out _; (with_reducible repeat (first | refine blk_drewN ?_ _ | refine blk_drew ?_ | refine blk_alloc ?_ _)); refine blk_far ?_ NB37001_37004.out _; (with_reducible repeat (first | refine blk_drewN ?_ _ | refine blk_drew ?_ | refine blk_alloc ?_ _)); refine blk_far ?_ NB37001_37004.out _; (with_reducible repeat (first | refine blk_drewN ?_ _ | refine blk_drew ?_ | refine blk_alloc ?_ _)); exact BK37001.out) hb); have n1_ := Aside0.mk (blk_below (g := gb37004) (o := .cells #[.int .i64 ((rd_T37 l0_0 x12_1).f0), .string ((rd_T37 l0_0 x12_1).f1), .string ((rd_T37 l0_0 x12_1).f2), .int .i64 ((rd_T37 l0_0 x12_1).f3.f0), .string ((rd_T37 l0_0 x12_1).f3.f1), .slice A37003_5 ((rd_T37 l0_0 x12_1).f3.f2).length c37003_5, .slice A37003_6 ((rd_T37 l0_0 x12_1).f4).length c37003_6, .int .i64 ((rd_T37 l0_0 x12_1).f5)] 37 (0, 0)) (by (with_reducible repeat (first | refine blk_drewN ?_ _ | refine blk_drew ?_ | refine blk_alloc ?_ _)); refine blk_put (cs := #[.int .i64 ((rd_T37 l0_0 x12_1).f0), .string ((rd_T37 l0_0 x12_1).f1), .string ((rd_T37 l0_0 x12_1).f2), .int .i64 ((rd_T37 l0_0 x12_1).f3.f0), .string ((rd_T37 l0_0 x12_1).f3.f1), .slice A37003_5 ((rd_T37 l0_0 x12_1).f3.f2).length c37003_5, .slice A37003_6 ((rd_T37 l0_0 x12_1).f4).length c37003_6, .int .i64 0]) ?_ 7 _ rfl; (with_reducible repeat (first | refine blk_drewN ?_ _ | refine blk_drew ?_ | refine blk_alloc ?_ _)); refine blk_put (cs := #[.int .i64 ((rd_T37 l0_0 x12_1).f0), .string ((rd_T37 l0_0 x12_1).f1), .string ((rd_T37 l0_0 x12_1).f2), .int .i64 ((rd_T37 l0_0 x12_1).f3.f0), .string ((rd_T37 l0_0 x12_1).f3.f1), .slice A37003_5 ((rd_T37 l0_0 x12_1).f3.f2).length c37003_5, .slice none 0 0, .int .i64 0]) ?_ 6 _ rfl; (with_reducible repeat (first | refine blk_drewN ?_ _ | refine blk_drew ?_ | refine blk_alloc ?_ _)); refine blk_put (cs := #[.int .i64 ((rd_T37 l0_0 x12_1).f0), .string ((rd_T37 l0_0 x12_1).f1), .string ((rd_T37 l0_0 x12_1).f2), .int .i64 ((rd_T37 l0_0 x12_1).f3.f0), .string ((rd_T37 l0_0 x12_1).f3.f1), .slice none 0 0, .slice none 0 0, .int .i64 0]) ?_ 5 _ rfl; (with_reducible repeat (first | refine blk_drewN ?_ _ | refine blk_drew ?_ | refine blk_alloc ?_ _)); refine blk_put (cs := #[.int .i64 ((rd_T37 l0_0 x12_1).f0), .string ((rd_T37 l0_0 x12_1).f1), .string ((rd_T37 l0_0 x12_1).f2), .int .i64 ((rd_T37 l0_0 x12_1).f3.f0), .string (⟨#[]⟩ : ByteArray), .slice none 0 0, .slice none 0 0, .int .i64 0]) ?_ 4 _ rfl; (with_reducible repeat (first | refine blk_drewN ?_ _ | refine blk_drew ?_ | refine blk_alloc ?_ _)); refine blk_put (cs := #[.int .i64 ((rd_T37 l0_0 x12_1).f0), .string ((rd_T37 l0_0 x12_1).f1), .string ((rd_T37 l0_0 x12_1).f2), .int .i64 0, .string (⟨#[]⟩ : ByteArray), .slice none 0 0, .slice none 0 0, .int .i64 0]) ?_ 3 _ rfl; (with_reducible repeat (first | refine blk_drewN ?_ _ | refine blk_drew ?_ | refine blk_alloc ?_ _)); refine blk_put (cs := #[.int .i64 ((rd_T37 l0_0 x12_1).f0), .string ((rd_T37 l0_0 x12_1).f1), .string (⟨#[]⟩ : ByteArray), .int .i64 0, .string (⟨#[]⟩ : ByteArray), .slice none 0 0, .slice none 0 0, .int .i64 0]) ?_ 2 _ rfl; (with_reducible repeat (first | refine blk_drewN ?_ _ | refine blk_drew ?_ | refine blk_alloc ?_ _)); refine blk_put (cs := #[.int .i64 ((rd_T37 l0_0 x12_1).f0), .string (⟨#[]⟩ : ByteArray), .string (⟨#[]⟩ : ByteArray), .int .i64 0, .string (⟨#[]⟩ : ByteArray), .slice none 0 0, .slice none 0 0, .int .i64 0]) ?_ 1 _ rfl; (with_reducible repeat (first | refine blk_drewN ?_ _ | refine blk_drew ?_ | refine blk_alloc ?_ _)); refine blk_put (cs := #[.int .i64 0, .string (⟨#[]⟩ : ByteArray), .string (⟨#[]⟩ : ByteArray), .int .i64 0, .string (⟨#[]⟩ : ByteArray), .slice none 0 0, .slice none 0 0, .int .i64 0]) ?_ 0 _ rfl; (with_reducible repeat (first | refine blk_drewN ?_ _ | refine blk_drew ?_ | refine blk_alloc ?_ _)); exact BK37004.out) hb); have n2_ := Aside0.mk (below_step za2 hb); clear BK37001; clear BK37004; clear HB; have BK37001 := n0_; have BK37004 := n1_; have HB := n2_; clear n0_ n1_ n2_; (try clear hb); (try clear hb2); (try clear hk); (try clear hi)) | ((with_reducible refine gate_callee (f := 68) rfl ?_); refine goesL_ (some 22) rfl rfl Try.func68 (by kernel_rfl) rfl #[.string x3_1] rfl za3 ?_; (with_reducible refine (impl_VarsOf.calls k1 x3_1 t37006 _ A17.out).mono ?_); rintro e w' ⟨rfl, ⟨nd, rfl⟩⟩; refine ⟨_, rfl, ?_⟩))
    first
    | (
     clear fin0_
     go_roundg k1
     case measure => have := HK1.out; omega
     case rel => exact ⟨(x3_1 ++ t37005), (wrap64 (x12_1 + 1)), za6, za6, H', ⟨za11⟩, ⟨za0 BK37001.out⟩, ⟨za2⟩⟩)
    | (
     clear fin1_
     go_ret
     exact ⟨za5, za2⟩)
 ·replace c3 := Bool.eq_false_iff.mpr c3
  subst c3
  have H1 : (some (⟨#[]⟩ : ByteArray)) = some r := by rw [if_neg (show ¬ (false = true) by decide)] at H; exact H
  clear H
  have H := H1
  clear H1
  obtain rfl := Option.some.inj H
  go_enter Try.func37, Try.ntmps37
  go_wp2_with (first | ((with_reducible refine gate_dst (N := 1) rfl ?_); refine box_event ?hg (N := 1) ?hd (cs := #[.slice A0_0 l0_0.length c0_0]) (t := 50) ?hr ?_; (case hd => rfl); (case hg => rfl); (case hr => first | (go_simp; done) | (go_simp; rfl)); intro gb37001 hg w18 hbox hb; have n0_ := Aside0.mk (below_step za2 hb); have n1_ := Aside0.mk (hbox); have n2_ := Aside0.mk ((by rw [hg]; exact (below_size za2) : w.heap.size ≤ gb37001)); have n3_ := Aside0.mk ((by rw [hg]; exact (below_size za2) : w.heap.size ≤ gb37001)); clear HB; have HB := n0_; have BK37001 := n1_; have GW37001 := n2_; have GE37001 := n3_; clear n0_ n1_ n2_ n3_; clear hb hbox hg; obtain ⟨hcz19_0, hfz19_0⟩ := blk1 BK37001.out) | ((with_reducible refine gate_callee (f := 35) rfl ?_); refine goesL_ (some 7) rfl rfl Try.func35 (by kernel_rfl) rfl #[.agg #[.slice A0_0 l0_0.length c0_0]] rfl za3 ?_; (with_reducible refine (impl_IsValidProblem.calls k _ _ l0_0 _ _ ?side1 ?side2 A2.out).mono ?_); (case side1 => repeat (first | exact (Kd.C_below HR0_0.out HB.out) | (with_reducible refine Kd.C_alloc ?_ _) | (with_reducible refine Kd.C_drewN ?_ _) | (with_reducible refine Kd.C_drew ?_))); (case side2 => exact HC0_0.out); rintro e w20 ⟨rfl, hb⟩; refine ⟨_, rfl, ?_⟩; have n0_ := Aside0.mk (blk_below (g := gb37001) (o := .cells #[.slice A0_0 l0_0.length c0_0] 50 (0, 0)) (za0 BK37001.out) hb); have n1_ := Aside0.mk (below_step za2 hb); clear BK37001; clear HB; have BK37001 := n0_; have HB := n1_; clear n0_ n1_; (try clear hb); (try clear hb2); (try clear hk); (try clear hi)))
  go_ret
  exact ⟨za5, za2⟩
end Go.Proofs.Ytffjfdoghofkdaa.A
