/- The agenda: its entries' order and the methods that a heap asks for. -/
import Derived.Test.YtdaoaddpbibnmaaHeapP
import Derived.Test.YtdaoaddpbibnmaaOwn
import Derived.StillTailTactics
set_option linter.all false
namespace Go.Proofs.Ytdaoaddpbibnmaa
open Go.ChangeShapes Go.WideShapes Go.RowKit
structure E3 where
  t : Int
  n : Int
  w : Int
instance : Inhabited E3 := ⟨⟨0, 0, 0⟩⟩
def cmpI (a b : Int) : Int := if a < b then -1 else if b < a then 1 else 0
theorem isNaN_c (x : Int) (w : World) : Calls Try.prog 36 #[.int .i64 x] w fun e w' => e = .returned (.bool false) ∧ w = w' := by
  go_enter Try.func36, Try.ntmps36
  go_wp2
  go_ret
  exact ⟨rfl, rfl⟩
theorem compare_c (x y : Int) (w : World) : Calls Try.prog 25 #[.int .i64 x, .int .i64 y] w fun e w' => e = .returned (.int .i64 (cmpI x y)) ∧ w = w' := by
  unfold cmpI
  by_cases h1 : x < y
  · rw [if_pos h1]
    go_enter Try.func25, Try.ntmps25
    go_wp2_with (go_at_call 36; refine (isNaN_c _ _).mono ?_; rintro e w' ⟨rfl, rfl⟩)
    go_ret
    exact ⟨rfl, rfl⟩
  · rw [if_neg h1]
    by_cases h2 : y < x
    · rw [if_pos h2]
      go_enter Try.func25, Try.ntmps25
      go_wp2_with (go_at_call 36; refine (isNaN_c _ _).mono ?_; rintro e w' ⟨rfl, rfl⟩)
      go_ret
      exact ⟨rfl, rfl⟩
    · rw [if_neg h2]
      go_enter Try.func25, Try.ntmps25
      go_wp2_with (go_at_call 36; refine (isNaN_c _ _).mono ?_; rintro e w' ⟨rfl, rfl⟩)
      go_ret
      exact ⟨rfl, rfl⟩
/-- The first of two that isn't nought. -/
theorem or_c (x y : Int) (b : Nat) (cap : Nat) (w : World) (hb : blk w b = some (.cells #[.int .i64 x, .int .i64 y] 3 (0, 0))) :
    Calls Try.prog 24 #[.slice (some ⟨b, 0, none⟩) 2 cap] w fun e w' => e = .returned (.int .i64 (if x = 0 then y else x)) ∧ w = w' := by
  have c0 : w.cell? ⟨b, 0, none⟩ = some (.int .i64 x) := cell_of hb rfl
  have c1 : w.cell? ⟨b, 1, none⟩ = some (.int .i64 y) := cell_of hb rfl
  clear hb
  by_cases h : x = 0
  · subst h
    rw [if_pos rfl]
    by_cases hy : y = 0
    · subst hy
      go_enter Try.func24, Try.ntmps24
      go_wp2
      go_loop [8] (fun i => i = .int .i64 0 ∨ i = .int .i64 1 ∨ i = .int .i64 2) (fun i => 2 - (intOf i).toNat)
      case atStart => exact .inl rfl
      case round =>
        rcases hrel with rfl | rfl | rfl
        · go_wp2
          go_round
          case rel => exact .inr (.inl rfl)
          case measure => simp [intOf]
        · go_wp2
          go_round
          case rel => exact .inr (.inr rfl)
          case measure => simp [intOf]
        · go_wp2
          go_ret
          exact ⟨rfl, rfl⟩
    · have hb : (y != 0) = true := by simpa using hy
      go_enter Try.func24, Try.ntmps24
      go_wp2
      go_loop [8] (fun i => i = .int .i64 0 ∨ i = .int .i64 1) (fun i => 2 - (intOf i).toNat)
      case atStart => exact .inl rfl
      case round =>
        rcases hrel with rfl | rfl
        · go_wp2
          go_round
          case rel => exact .inr rfl
          case measure => simp [intOf]
        · go_wp2
          go_ret
          exact ⟨rfl, rfl⟩
  · have hb : (x != 0) = true := by simpa using h
    rw [if_neg h]
    go_enter Try.func24, Try.ntmps24
    go_wp2
    go_loop [8] (fun i => i = .int .i64 0) (fun i => 2 - (intOf i).toNat)
    case atStart => rfl
    case round =>
      subst hrel
      go_wp2
      go_ret
      exact ⟨rfl, rfl⟩
def ordI (a b : E3) : Int := if cmpI a.t b.t = 0 then cmpI a.n b.n else cmpI a.t b.t
def E3.val (a : E3) : Value := .agg #[.int .i64 a.t, .int .i64 a.n, .int .u64 a.w]
theorem order_c (a b : E3) (w : World) : Calls Try.prog 20 #[.agg #[.int .i64 a.t, .int .i64 a.n, .int .u64 a.w], .agg #[.int .i64 b.t, .int .i64 b.n, .int .u64 b.w]] w fun e w' => e = .returned (.int .i64 (ordI a b)) ∧ Fr [] w w' := by
  have OR : ∀ w1 : World, w1 = (((w.alloc (.cells #[.int .i64 a.t, .int .i64 a.n, .int .u64 a.w] 54)).alloc (.cells #[.int .i64 b.t, .int .i64 b.n, .int .u64 b.w] 54)).alloc (.cells #[.int .i64 (cmpI a.t b.t), .int .i64 (cmpI a.n b.n)] 3)).drew →
      Calls Try.prog 24 #[.slice (some ⟨w.heap.size + 1 + 1, 0, none⟩) 2 2] w1 fun e w' => e = .returned (.int .i64 (ordI a b)) ∧ w1 = w' := fun w1 h1 =>
    or_c (cmpI a.t b.t) (cmpI a.n b.n) (w.heap.size + 1 + 1) 2 w1 (by rw [h1, blk_drew, blk_alloc, if_pos (by simp)])
  have OR := Lib.hid (OR _ rfl)
  go_enter Try.func20, Try.ntmps20
  go_wp2
  refine wp_region_still_tail 10 (by kernel_rfl) (by kernel_rfl) ?_
  simp only [List.take_succ_cons, List.take_zero, List.drop_succ_cons, List.drop_zero]
  change wpStill _ _ (World.drew _) _ _ _
  repeat still_step
  still_call ((compare_c _ _ _).mono fun e w' h => ⟨h.1, h.2.symm⟩)
  repeat still_step
  still_call ((compare_c _ _ _).mono fun e w' h => ⟨h.1, h.2.symm⟩)
  refine wpStill_nil ?_
  change wpList _ _ _ _ _ (World.drew _)
  go_wp2_with (go_at_call 24; refine OR.out.mono ?_; rintro e w' ⟨rfl, rfl⟩)
  go_ret
  exact ⟨rfl, ((((Fr.refl _ _).alloc _).alloc _).alloc _).drew⟩
/-! ### Entries in memory -/
def entCells (l : List E3) : List Value := l.flatMap fun e => [.int .i64 e.t, .int .i64 e.n, .int .u64 e.w]
theorem len_entCells (l : List E3) : (entCells l).length = l.length * 3 := by
  induction l with
  | nil => rfl
  | cons x l ih => simp [entCells] at ih ⊢; omega
theorem entCells_get (l : List E3) (i : Nat) (h : i < l.length) : (entCells l)[i * 3]? = some (.int .i64 (nth l i).t) ∧ (entCells l)[i * 3 + 1]? = some (.int .i64 (nth l i).n) ∧ (entCells l)[i * 3 + 2]? = some (.int .u64 (nth l i).w) := by
  induction l generalizing i with
  | nil => simp at h
  | cons x l ih =>
    cases i with
    | zero => simp [entCells, nth]
    | succ i =>
      obtain ⟨h1, h2, h3⟩ := ih i (by simpa using h)
      have e : entCells (x :: l) = [.int .i64 x.t, .int .i64 x.n, .int .u64 x.w] ++ entCells l := rfl
      have en : nth (x :: l) (i + 1) = nth l i := by simp [nth]
      rw [e, en]
      refine ⟨?_, ?_, ?_⟩
      · rw [List.getElem?_append_right (by simp; omega)]; simpa [show (i + 1) * 3 - 3 = i * 3 by omega] using h1
      · rw [List.getElem?_append_right (by simp; omega)]; simpa [show (i + 1) * 3 + 1 - 3 = i * 3 + 1 by omega] using h2
      · rw [List.getElem?_append_right (by simp; omega)]; simpa [show (i + 1) * 3 + 2 - 3 = i * 3 + 2 by omega] using h3
theorem entCells_set (l : List E3) (i : Nat) (x : E3) (h : i < l.length) : (((entCells l).set (i * 3) (.int .i64 x.t)).set (i * 3 + 1) (.int .i64 x.n)).set (i * 3 + 2) (.int .u64 x.w) = entCells (l.set i x) := by
  induction l generalizing i with
  | nil => simp at h
  | cons y l ih =>
    cases i with
    | zero => simp [entCells]
    | succ i =>
      have := ih i (by simpa using h)
      have e : entCells (y :: l) = .int .i64 y.t :: .int .i64 y.n :: .int .u64 y.w :: entCells l := rfl
      rw [e, show (i + 1) * 3 = i * 3 + 1 + 1 + 1 by omega, show i * 3 + 1 + 1 + 1 + 1 = i * 3 + 1 + 1 + 1 + 1 from rfl]
      simp only [List.set_cons_succ]
      rw [this]; rfl
/-- A slice of entries that the call owns. -/
def EnAt (w : World) (B : Nat) (v : Value) (l : List E3) : Prop := w.ownsRow B 54 3 v l.length (entCells l)
variable {w : World} {B g cap : Nat} {l : List E3}
theorem EnAt.cells (h : EnAt w B (.slice (some ⟨g, 0, none⟩) l.length cap) l) {i : Nat} (hi : i < l.length) :
    w.cell? ⟨g, i * 3, none⟩ = some (.int .i64 (nth l i).t) ∧ w.cell? ⟨g, i * 3 + 1, none⟩ = some (.int .i64 (nth l i).n) ∧ w.cell? ⟨g, i * 3 + 2, none⟩ = some (.int .u64 (nth l i).w) := by
  obtain ⟨h1, h2, h3⟩ := entCells_get l i hi
  exact ⟨own_cell h h1, own_cell h h2, own_cell h h3⟩
def ltE (a b : E3) : Bool := decide (ordI a b < 0)
theorem less_c (w : World) (hE : EnAt w B (.slice (some ⟨g, 0, none⟩) l.length cap) l) (i j : Nat) (hi : i < l.length) (hj : j < l.length) :
    Calls Try.prog 60 #[.slice (some ⟨g, 0, none⟩) l.length cap, .int .i64 (i : Int), .int .i64 (j : Int)] w fun e w' => e = .returned (.bool (ltE (nth l i) (nth l j))) ∧ Fr [] w w' := by
  obtain ⟨c0, c1, c2⟩ := hE.cells hi
  obtain ⟨d0, d1, d2⟩ := hE.cells hj
  obtain ⟨x, hx⟩ : ∃ x, x = nth l i := ⟨_, rfl⟩
  obtain ⟨y, hy⟩ : ∃ y, y = nth l j := ⟨_, rfl⟩
  rw [← hx] at c0 c1 c2 ⊢
  rw [← hy] at d0 d1 d2 ⊢
  have hi' : (i : Int) < (l.length : Int) := by omega
  have hj' : (j : Int) < (l.length : Int) := by omega
  clear hx hy hE
  generalize l.length = n at *
  go_enter Try.func60, Try.ntmps60
  go_wp2
  refine wp_region_still_tail 8 (by kernel_rfl) (by kernel_rfl) ?_
  simp only [List.take_succ_cons, List.take_zero, List.drop_succ_cons, List.drop_zero]
  change wpStill _ _ (World.drew _) _ _ _
  repeat still_step
  refine wpStill_nil ?_
  change wpList _ _ _ _ _ (World.drew _)
  go_wp2_with (go_at_call 20; refine (order_c _ _ _).mono ?_; rintro e w' ⟨rfl, hF⟩)
  go_ret
  exact ⟨rfl, (Fr.refl _ _).drew.same hF⟩
theorem len_c (w : World) (a : Option Addr) (n cap : Nat) : Calls Try.prog 59 #[.slice a n cap] w fun e w' => e = .returned (.int .i64 (n : Int)) ∧ w = w' := by
  go_enter Try.func59, Try.ntmps59
  go_wp2
  go_ret
  exact ⟨rfl, rfl⟩
theorem swap_ne (w : World) (hE : EnAt w B (.slice (some ⟨g, 0, none⟩) l.length cap) l) (i j : Nat) (hi : i < l.length) (hj : j < l.length) (hij : i ≠ j) :
    Calls Try.prog 61 #[.slice (some ⟨g, 0, none⟩) l.length cap, .int .i64 (i : Int), .int .i64 (j : Int)] w fun e w' => e = .returned (.tuple #[]) ∧ EnAt w' B (.slice (some ⟨g, 0, none⟩) l.length cap) (swapL l i j) ∧ Fr [g] w w' := by
  obtain ⟨c0, c1, c2⟩ := hE.cells hi
  obtain ⟨d0, d1, d2⟩ := hE.cells hj
  obtain ⟨x, hx⟩ : ∃ x, x = nth l i := ⟨_, rfl⟩
  obtain ⟨y, hy⟩ : ∃ y, y = nth l j := ⟨_, rfl⟩
  have hi' : (i : Int) < (l.length : Int) := by omega
  have hj' : (j : Int) < (l.length : Int) := by omega
  have HE := Lib.hid hE
  have HX := Lib.hid hx
  have HY := Lib.hid hy
  have hf := fun k => own_free hE k
  rw [← hx] at c0 c1 c2
  rw [← hy] at d0 d1 d2
  clear hx hy hE
  obtain ⟨n, hn⟩ : ∃ n, n = l.length := ⟨_, rfl⟩
  have HN := Lib.hid hn
  rw [← hn] at hi hj hi' hj' ⊢
  clear hn
  go_enter Try.func61, Try.ntmps61
  go_wp2
  go_region
  go_wp2
  go_end0
  refine ⟨rfl, ?_, (((((((Fr.refl _ _).setCell (by simp) _).setCell (by simp) _).setCell (by simp) _).setCell (by simp) _).setCell (by simp) _).setCell (by simp) _).drew⟩
  have s1 := own_set (own_set (own_set HE.out (i * 3) (.int .i64 y.t)) (i * 3 + 1) (.int .i64 y.n)) (i * 3 + 2) (.int .u64 y.w)
  have s2 := own_set (own_set (own_set s1 (j * 3) (.int .i64 x.t)) (j * 3 + 1) (.int .i64 x.n)) (j * 3 + 2) (.int .u64 x.w)
  have hil : i < l.length := by rw [← HN.out]; exact hi
  have hjl : j < l.length := by rw [← HN.out]; exact hj
  have e1 := entCells_set l i y hil
  have e2 := entCells_set (l.set i y) j x (by simpa using hjl)
  rw [e1, e2, HY.out, HX.out] at s2
  have s3 := own_fr s2 ((Fr.refl [] _).drew) (by simp)
  unfold EnAt
  rw [len_swapL, HN.out]
  rw [HX.out, HY.out]
  exact s3
theorem swap_eq (w : World) (hE : EnAt w B (.slice (some ⟨g, 0, none⟩) l.length cap) l) (i : Nat) (hi : i < l.length) :
    Calls Try.prog 61 #[.slice (some ⟨g, 0, none⟩) l.length cap, .int .i64 (i : Int), .int .i64 (i : Int)] w fun e w' => e = .returned (.tuple #[]) ∧ EnAt w' B (.slice (some ⟨g, 0, none⟩) l.length cap) (swapL l i i) ∧ Fr [g] w w' := by
  obtain ⟨c0, c1, c2⟩ := hE.cells hi
  obtain ⟨x, hx⟩ : ∃ x, x = nth l i := ⟨_, rfl⟩
  have hi' : (i : Int) < (l.length : Int) := by omega
  have HE := Lib.hid hE
  have HX := Lib.hid hx
  have hf := fun k => own_free hE k
  rw [← hx] at c0 c1 c2
  clear hx hE
  obtain ⟨n, hn⟩ : ∃ n, n = l.length := ⟨_, rfl⟩
  have HN := Lib.hid hn
  rw [← hn] at hi hi' ⊢
  clear hn
  go_enter Try.func61, Try.ntmps61
  go_wp2
  go_region
  go_wp2
  go_end0
  refine ⟨rfl, ?_, (((((((Fr.refl _ _).setCell (by simp) _).setCell (by simp) _).setCell (by simp) _).setCell (by simp) _).setCell (by simp) _).setCell (by simp) _).drew⟩
  have s1 := own_set (own_set (own_set HE.out (i * 3) (.int .i64 x.t)) (i * 3 + 1) (.int .i64 x.n)) (i * 3 + 2) (.int .u64 x.w)
  have s2 := own_set (own_set (own_set s1 (i * 3) (.int .i64 x.t)) (i * 3 + 1) (.int .i64 x.n)) (i * 3 + 2) (.int .u64 x.w)
  have hil : i < l.length := by rw [← HN.out]; exact hi
  have e1 := entCells_set l i x hil
  have e2 := entCells_set (l.set i x) i x (by simpa using hil)
  rw [e1, e2, HX.out] at s2
  have s3 := own_fr s2 ((Fr.refl [] _).drew) (by simp)
  unfold EnAt
  rw [len_swapL, HN.out]
  rw [HX.out]
  exact s3
theorem swap_c (w : World) (hE : EnAt w B (.slice (some ⟨g, 0, none⟩) l.length cap) l) (i j : Nat) (hi : i < l.length) (hj : j < l.length) :
    Calls Try.prog 61 #[.slice (some ⟨g, 0, none⟩) l.length cap, .int .i64 (i : Int), .int .i64 (j : Int)] w fun e w' => e = .returned (.tuple #[]) ∧ EnAt w' B (.slice (some ⟨g, 0, none⟩) l.length cap) (swapL l i j) ∧ Fr [g] w w' := by
  by_cases h : i = j
  · subst h; exact swap_eq w hE i hi
  · exact swap_ne w hE i j hi hj h
end Go.Proofs.Ytdaoaddpbibnmaa
