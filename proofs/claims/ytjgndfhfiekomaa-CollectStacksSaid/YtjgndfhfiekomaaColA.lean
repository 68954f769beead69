/- Collecting: blocks that may be cleared, in memory; the methods that a heap asks for. -/
import Derived.Test.YtjgndfhfiekomaaHeapP
import Derived.Test.YtjgndfhfiekomaaOwn
import Derived.StillTailTactics
import Derived.BigQuiet
namespace Go.Proofs.Ytjgndfhfiekomaa
open Go.ChangeShapes Go.WideShapes Go.RowKit
/-- A block, and how many of its lines are free. -/
structure C2 where
  b : Int
  f : Int
instance : Inhabited C2 := ⟨⟨0, 0⟩⟩
def entCells (l : List C2) : List Value := l.flatMap fun e => [.int .i64 e.b, .int .i64 e.f]
theorem len_entCells (l : List C2) : (entCells l).length = l.length * 2 := by
  induction l with
  | nil => rfl
  | cons x l ih => simp [entCells] at ih ⊢; omega
theorem entCells_get (l : List C2) (i : Nat) (h : i < l.length) : (entCells l)[i * 2]? = some (.int .i64 (nth l i).b) ∧ (entCells l)[i * 2 + 1]? = some (.int .i64 (nth l i).f) := by
  induction l generalizing i with
  | nil => simp at h
  | cons x l ih =>
    cases i with
    | zero => simp [entCells, nth]
    | succ i =>
      obtain ⟨h1, h2⟩ := ih i (by simpa using h)
      have e : entCells (x :: l) = [.int .i64 x.b, .int .i64 x.f] ++ entCells l := rfl
      have en : nth (x :: l) (i + 1) = nth l i := by simp [nth]
      rw [e, en]
      refine ⟨?_, ?_⟩
      · rw [List.getElem?_append_right (by simp; omega)]; simpa [show (i + 1) * 2 - 2 = i * 2 by omega] using h1
      · rw [List.getElem?_append_right (by simp; omega)]; simpa [show (i + 1) * 2 + 1 - 2 = i * 2 + 1 by omega] using h2
theorem entCells_set (l : List C2) (i : Nat) (x : C2) (h : i < l.length) : ((entCells l).set (i * 2) (.int .i64 x.b)).set (i * 2 + 1) (.int .i64 x.f) = entCells (l.set i x) := by
  induction l generalizing i with
  | nil => simp at h
  | cons y l ih =>
    cases i with
    | zero => simp [entCells]
    | succ i =>
      have := ih i (by simpa using h)
      have e : entCells (y :: l) = .int .i64 y.b :: .int .i64 y.f :: entCells l := rfl
      rw [e, show (i + 1) * 2 = i * 2 + 1 + 1 by omega, show i * 2 + 1 + 1 + 1 = i * 2 + 1 + 1 + 1 from rfl]
      simp only [List.set_cons_succ]
      rw [this]; rfl
/-- A slice of them that the call owns. -/
def EnAt (w : World) (B : Nat) (v : Value) (l : List C2) : Prop := w.ownsRow B 188 2 v l.length (entCells l)
variable {w : World} {B g cap : Nat} {l : List C2}
theorem EnAt.cells (h : EnAt w B (.slice (some ⟨g, 0, none⟩) l.length cap) l) {i : Nat} (hi : i < l.length) :
    w.cell? ⟨g, i * 2, none⟩ = some (.int .i64 (nth l i).b) ∧ w.cell? ⟨g, i * 2 + 1, none⟩ = some (.int .i64 (nth l i).f) := by
  obtain ⟨h1, h2⟩ := entCells_get l i hi
  exact ⟨own_cell h h1, own_cell h h2⟩
def ltE (a b : C2) : Bool := if a.f ≠ b.f then decide (b.f < a.f) else decide (a.b < b.b)
theorem less_c (w : World) (hE : EnAt w B (.slice (some ⟨g, 0, none⟩) l.length cap) l) (i j : Nat) (hi : i < l.length) (hj : j < l.length) :
    Calls Try.prog 167 #[.slice (some ⟨g, 0, none⟩) l.length cap, .int .i64 (i : Int), .int .i64 (j : Int)] w fun e w' => e = .returned (.bool (ltE (nth l i) (nth l j))) ∧ Fr [] w w' := by
  obtain ⟨c0, c1⟩ := hE.cells hi
  obtain ⟨d0, d1⟩ := hE.cells hj
  obtain ⟨x, hx⟩ : ∃ x, x = nth l i := ⟨_, rfl⟩
  obtain ⟨y, hy⟩ : ∃ y, y = nth l j := ⟨_, rfl⟩
  rw [← hx] at c0 c1 ⊢
  rw [← hy] at d0 d1 ⊢
  have hi' : (i : Int) < (l.length : Int) := by omega
  have hj' : (j : Int) < (l.length : Int) := by omega
  clear hx hy hE
  generalize l.length = n at *
  unfold ltE
  by_cases h : x.f ≠ y.f
  · rw [if_pos h]
    have hb : (x.f != y.f) = true := by simpa using h
    clear h
    go_enter Try.func167, Try.ntmps167
    go_wp2_with fail
    go_quiet (fail)
    go_wp2_with fail
    go_quiet (fail)
    go_wp2
    go_ret
    exact ⟨rfl, by repeat (first | exact Fr.refl _ _ | apply Fr.drewN | apply Fr.drew)⟩
  · rw [if_neg h]
    have hb : (x.f != y.f) = false := by simpa using h
    clear h
    go_enter Try.func167, Try.ntmps167
    go_wp2_with fail
    go_quiet (fail)
    go_wp2_with fail
    go_quiet (fail)
    go_wp2
    go_ret
    exact ⟨rfl, by repeat (first | exact Fr.refl _ _ | apply Fr.drewN | apply Fr.drew)⟩
theorem len_c (w : World) (a : Option Addr) (n cap : Nat) : Calls Try.prog 133 #[.slice a n cap] w fun e w' => e = .returned (.int .i64 (n : Int)) ∧ w = w' := by
  go_enter Try.func133, Try.ntmps133
  go_wp2
  go_ret
  exact ⟨rfl, rfl⟩
theorem swap_ne (w : World) (hE : EnAt w B (.slice (some ⟨g, 0, none⟩) l.length cap) l) (i j : Nat) (hi : i < l.length) (hj : j < l.length) (hij : i ≠ j) :
    Calls Try.prog 170 #[.slice (some ⟨g, 0, none⟩) l.length cap, .int .i64 (i : Int), .int .i64 (j : Int)] w fun e w' => e = .returned (.tuple #[]) ∧ EnAt w' B (.slice (some ⟨g, 0, none⟩) l.length cap) (swapL l i j) ∧ Fr [g] w w' := by
  obtain ⟨c0, c1⟩ := hE.cells hi
  obtain ⟨d0, d1⟩ := hE.cells hj
  obtain ⟨x, hx⟩ : ∃ x, x = nth l i := ⟨_, rfl⟩
  obtain ⟨y, hy⟩ : ∃ y, y = nth l j := ⟨_, rfl⟩
  have hi' : (i : Int) < (l.length : Int) := by omega
  have hj' : (j : Int) < (l.length : Int) := by omega
  have HE := Lib.hid hE
  have HX := Lib.hid hx
  have HY := Lib.hid hy
  have hf := fun k => own_free hE k
  rw [← hx] at c0 c1
  rw [← hy] at d0 d1
  clear hx hy hE
  obtain ⟨n, hn⟩ : ∃ n, n = l.length := ⟨_, rfl⟩
  have HN := Lib.hid hn
  rw [← hn] at hi hj hi' hj' ⊢
  clear hn
  go_enter Try.func170, Try.ntmps170
  go_wp2
  go_region
  go_wp2
  go_end0
  refine ⟨rfl, ?_, (((((Fr.refl _ _).setCell (by simp) _).setCell (by simp) _).setCell (by simp) _).setCell (by simp) _).drew⟩
  have s1 := own_set (own_set HE.out (i * 2) (.int .i64 y.b)) (i * 2 + 1) (.int .i64 y.f)
  have s2 := own_set (own_set s1 (j * 2) (.int .i64 x.b)) (j * 2 + 1) (.int .i64 x.f)
  have hil : i < l.length := by rw [← HN.out]; exact hi
  have hjl : j < l.length := by rw [← HN.out]; exact hj
  have e1 := entCells_set l i y hil
  have e2 := entCells_set (l.set i y) j x (by simpa using hjl)
  rw [e1, e2, HY.out, HX.out] at s2
  have s3 := own_fr s2 ((Fr.refl [] _).drew) (by simp)
  unfold EnAt
  rw [len_swapL, HN.out]
  rw [HX.out, HY.out]
  exact s3
theorem swap_eq (w : World) (hE : EnAt w B (.slice (some ⟨g, 0, none⟩) l.length cap) l) (i : Nat) (hi : i < l.length) :
    Calls Try.prog 170 #[.slice (some ⟨g, 0, none⟩) l.length cap, .int .i64 (i : Int), .int .i64 (i : Int)] w fun e w' => e = .returned (.tuple #[]) ∧ EnAt w' B (.slice (some ⟨g, 0, none⟩) l.length cap) (swapL l i i) ∧ Fr [g] w w' := by
  obtain ⟨c0, c1⟩ := hE.cells hi
  obtain ⟨x, hx⟩ : ∃ x, x = nth l i := ⟨_, rfl⟩
  have hi' : (i : Int) < (l.length : Int) := by omega
  have HE := Lib.hid hE
  have HX := Lib.hid hx
  have hf := fun k => own_free hE k
  rw [← hx] at c0 c1
  clear hx hE
  obtain ⟨n, hn⟩ : ∃ n, n = l.length := ⟨_, rfl⟩
  have HN := Lib.hid hn
  rw [← hn] at hi hi' ⊢
  clear hn
  go_enter Try.func170, Try.ntmps170
  go_wp2
  go_region
  go_wp2
  go_end0
  refine ⟨rfl, ?_, (((((Fr.refl _ _).setCell (by simp) _).setCell (by simp) _).setCell (by simp) _).setCell (by simp) _).drew⟩
  have s1 := own_set (own_set HE.out (i * 2) (.int .i64 x.b)) (i * 2 + 1) (.int .i64 x.f)
  have s2 := own_set (own_set s1 (i * 2) (.int .i64 x.b)) (i * 2 + 1) (.int .i64 x.f)
  have hil : i < l.length := by rw [← HN.out]; exact hi
  have e1 := entCells_set l i x hil
  have e2 := entCells_set (l.set i x) i x (by simpa using hil)
  rw [e1, e2, HX.out] at s2
  have s3 := own_fr s2 ((Fr.refl [] _).drew) (by simp)
  unfold EnAt
  rw [len_swapL, HN.out]
  rw [HX.out]
  exact s3
theorem swap_c (w : World) (hE : EnAt w B (.slice (some ⟨g, 0, none⟩) l.length cap) l) (i j : Nat) (hi : i < l.length) (hj : j < l.length) :
    Calls Try.prog 170 #[.slice (some ⟨g, 0, none⟩) l.length cap, .int .i64 (i : Int), .int .i64 (j : Int)] w fun e w' => e = .returned (.tuple #[]) ∧ EnAt w' B (.slice (some ⟨g, 0, none⟩) l.length cap) (swapL l i j) ∧ Fr [g] w w' := by
  by_cases h : i = j
  · subst h; exact swap_eq w hE i hi
  · exact swap_ne w hE i j hi hj h
end Go.Proofs.Ytjgndfhfiekomaa
