/- Rows that the call owns, of one cell for each element, apart from each other. No program in sight. -/
import Derived.Test.YtjcpjgdknelhnaaOwn
namespace Go.Proofs.Ytjcpjgdknelhnaa
open Go.ChangeShapes Go.WideShapes Go.RowKit
/-- A row: its block, its capacity, its elements' type, its elements. -/
structure Row where
  g : Nat
  cap : Nat
  t : TypeId
  xs : List Value
def Row.v (r : Row) : Value := .slice (some ⟨r.g, 0, none⟩) r.xs.length r.cap
def Row.ok (w : World) (B : Nat) (r : Row) : Prop := w.ownsRow B r.t 1 (.slice (some ⟨r.g, 0, none⟩) r.xs.length r.cap) r.xs.length r.xs
structure RowsOk (w : World) (B : Nat) (rs : List Row) : Prop where
  ok : ∀ r, r ∈ rs → r.ok w B
  ne : ∀ (i j : Nat) (r s : Row), i ≠ j → rs[i]? = some r → rs[j]? = some s → r.g ≠ s.g
variable {w w' : World} {B : Nat} {rs : List Row}
theorem Row.ok.blk {r : Row} (h : r.ok w B) : B ≤ r.g ∧ r.g < w.heap.size := ⟨own_base h, own_lt h⟩
theorem Row.ok.cell {r : Row} (h : r.ok w B) {i : Nat} {u : Value} (hu : r.xs[i]? = some u) : w.cell? ⟨r.g, i, none⟩ = some u := own_cell h hu
theorem Row.ok.free {r : Row} (h : r.ok w B) (i : Nat) : w.frozen? ⟨r.g, i, none⟩ = false := own_free h i
theorem Row.ok.set {r : Row} (h : r.ok w B) (i : Nat) (u : Value) : Row.ok (w.setCell ⟨r.g, i, none⟩ u) B { r with xs := r.xs.set i u } := by
  unfold Row.ok
  simp only [List.length_set]
  exact own_set h i u
theorem Row.ok.cap' {r : Row} (h : r.ok w B) : r.xs.length ≤ r.cap ∧ r.cap ≤ maxLen := own_cap h
theorem Row.ok.fr {r : Row} {S : List Nat} (h : r.ok w B) (hF : Fr S w w') (hS : r.g ∉ S) : r.ok w' B := own_fr h hF (by
  intro x hx; simp only [Value.ownBlock, Option.some.injEq] at hx; rw [← hx]; exact hS)
theorem Row.ok.low {r : Row} {S : List Nat} (h : r.ok w B) (hF : Fr S w w') (hS : ∀ x, x ∈ S → x < B) : r.ok w' B :=
  h.fr hF fun hm => by have := hS _ hm; have := h.blk.1; omega
theorem Row.ok.new (w : World) (B : Nat) (hB : B ≤ w.heap.size) (t : TypeId) (xs : List Value) (hx : xs.length ≤ maxLen) :
    Row.ok (w.alloc (.cells xs.toArray t)) B ⟨w.heap.size, xs.length, t, xs⟩ :=
  own_mk (cur := xs.toArray) (by rw [blk_alloc, if_pos rfl]) hB (Nat.le_refl _) hx (by simp) (by simp)
theorem RowsOk.nil (w : World) (B : Nat) : RowsOk w B [] := ⟨by simp, by simp⟩
theorem RowsOk.at (h : RowsOk w B rs) {i : Nat} {r : Row} (hr : rs[i]? = some r) : r.ok w B := h.ok r (List.mem_of_getElem? hr)
theorem RowsOk.fr {S : List Nat} (h : RowsOk w B rs) (hF : Fr S w w') (hS : ∀ r, r ∈ rs → r.g ∉ S) : RowsOk w' B rs :=
  ⟨fun r hr => (h.ok r hr).fr hF (hS r hr), h.ne⟩
/-- What changed lies below the rows. -/
theorem RowsOk.low {S : List Nat} (h : RowsOk w B rs) (hF : Fr S w w') (hS : ∀ x, x ∈ S → x < B) : RowsOk w' B rs :=
  ⟨fun r hr => (h.ok r hr).low hF hS, h.ne⟩
theorem RowsOk.keep (h : RowsOk w B rs) (hF : Fr [] w w') : RowsOk w' B rs := h.low hF (by simp)
/-- Row i is another one, in its own block or in a new one. -/
theorem RowsOk.grow {S : List Nat} (h : RowsOk w B rs) {i : Nat} {r r' : Row} (hr : rs[i]? = some r) (hF : Fr S w w') (hS : ∀ x, x ∈ S → x = r.g ∨ x < B) (h' : r'.ok w' B)
    (hat : r'.g = r.g ∨ w.heap.size ≤ r'.g) : RowsOk w' B (rs.set i r') := by
  have other : ∀ (j : Nat) (s : Row), j ≠ i → rs[j]? = some s → s.ok w' B := fun j s hj hs => (h.at hs).fr hF fun hm => by
    rcases hS _ hm with h1 | h1
    · exact h.ne j i s r hj hs hr h1
    · have := (h.at hs).blk.1; omega
  have key : ∀ (j : Nat) (s : Row), (rs.set i r')[j]? = some s → (j = i ∧ s = r') ∨ (j ≠ i ∧ rs[j]? = some s) := by
    intro j s hs
    by_cases hj : j = i
    · subst hj
      rw [List.getElem?_set_self'] at hs
      rw [hr] at hs; simp at hs
      exact .inl ⟨rfl, hs.symm⟩
    · rw [List.getElem?_set_ne (by omega)] at hs
      exact .inr ⟨hj, hs⟩
  refine ⟨?_, ?_⟩
  · intro s hs
    obtain ⟨j, hj⟩ := List.getElem?_of_mem hs
    rcases key j s hj with ⟨_, rfl⟩ | ⟨h1, h2⟩
    · exact h'
    · exact other j s h1 h2
  · intro j k s t hjk hs ht hx
    rcases key j s hs with ⟨hj, hs1⟩ | ⟨h1, h2⟩
    · rcases key k t ht with ⟨hk, _⟩ | ⟨h3, h4⟩
      · omega
      · have e1 := h.ne i k r t (by omega) hr h4
        have e2 := (h.at h4).blk.2
        rw [hs1] at hx; omega
    · rcases key k t ht with ⟨hk, ht1⟩ | ⟨h3, h4⟩
      · have e1 := h.ne j i s r h1 h2 hr
        have e2 := (h.at h2).blk.2
        rw [ht1] at hx; omega
      · exact h.ne j k s t hjk h2 h4 hx
/-- One more row, in a new block. -/
theorem RowsOk.push {S : List Nat} (h : RowsOk w B rs) {r : Row} (hF : Fr S w w') (hS : ∀ x, x ∈ S → x < B) (h' : r.ok w' B) (hat : w.heap.size ≤ r.g) : RowsOk w' B (rs ++ [r]) := by
  have key : ∀ (i : Nat) (p : Row), (rs ++ [r])[i]? = some p → rs[i]? = some p ∨ (i = rs.length ∧ p = r) := by
    intro i p hp
    rcases Nat.lt_trichotomy i rs.length with hi | hi | hi
    · rw [List.getElem?_append_left hi] at hp; exact .inl hp
    · subst hi; simp at hp; exact .inr ⟨rfl, hp.symm⟩
    · rw [List.getElem?_eq_none (by simp; omega)] at hp; simp at hp
  have old := h.low hF hS
  refine ⟨?_, ?_⟩
  · intro s hs
    rcases List.mem_append.1 hs with hs | hs
    · exact old.ok s hs
    · simp at hs; subst hs; exact h'
  · intro j k s t hjk hs ht hx
    rcases key j s hs with h2 | ⟨hj, hs1⟩
    · rcases key k t ht with h4 | ⟨hk, ht1⟩
      · exact h.ne j k s t hjk h2 h4 hx
      · have := (h.at h2).blk.2; rw [ht1] at hx; omega
    · rcases key k t ht with h4 | ⟨hk, ht1⟩
      · have := (h.at h4).blk.2; rw [hs1] at hx; omega
      · omega
end Go.Proofs.Ytjcpjgdknelhnaa
