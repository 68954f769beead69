/- Rows that the call owns, of any elements, nil or in blocks apart from each other. No program in sight. -/
import Derived.Test.YtjgndfhfiekomaaOwn
set_option linter.all false
namespace Go.Proofs.Ytjgndfhfiekomaa
open Go.ChangeShapes Go.WideShapes Go.RowKit
/-- A row: its elements' type and size in cells, the slice's value, its length, its cells. -/
structure RV where
  t : TypeId
  z : Nat
  v : Value
  n : Nat
  xs : List Value
def RV.ok (w : World) (B : Nat) (r : RV) : Prop := w.ownsRow B r.t r.z r.v r.n r.xs
structure RVs (w : World) (B : Nat) (rs : List RV) : Prop where
  ok : ∀ r, r ∈ rs → r.ok w B
  ne : ∀ (i j : Nat) (r s : RV) (x : Nat), i ≠ j → rs[i]? = some r → rs[j]? = some s → r.v.ownBlock = some x → s.v.ownBlock ≠ some x
variable {w w' : World} {B : Nat} {rs : List RV} {r r' : RV}
theorem own_lt' {base : Nat} {e : TypeId} {size : Nat} {v : Value} {n : Nat} {xs : List Value} (h : w.ownsRow base e size v n xs) : ∀ k, v.ownBlock = some k → base ≤ k ∧ k < w.heap.size := h.lt
theorem RV.ok.form (h : r.ok w B) : ∃ a cap, r.v = .slice a r.n cap ∧ r.n ≤ cap := by
  obtain ⟨_, h⟩ := h
  rcases h with ⟨h1, h2⟩ | ⟨g, cap, cur, hv, _, _, hn, _⟩
  · exact ⟨none, 0, by rw [h1, h2], by omega⟩
  · exact ⟨_, _, hv, hn⟩
theorem RV.ok.at (h : r.ok w B) (hn : 0 < r.n) : ∃ g cap, r.v = .slice (some ⟨g, 0, none⟩) r.n cap ∧ r.n ≤ cap ∧ r.v.ownBlock = some g ∧ (∀ i u, r.xs[i]? = some u → w.cell? ⟨g, i, none⟩ = some u) ∧ (∀ i, w.frozen? ⟨g, i, none⟩ = false) ∧ B ≤ g ∧ g < w.heap.size ∧ cap ≤ maxLen := by
  have h0 := h
  obtain ⟨_, h⟩ := h
  rcases h with ⟨_, h2⟩ | ⟨g, cap, cur, hv, hb, hh, hc, hm, _⟩
  · omega
  · unfold RV.ok at h0
    rw [hv] at h0
    exact ⟨g, cap, hv, hc, by rw [hv]; rfl, fun i u hu => own_cell h0 hu, fun i => own_free h0 i, hb, own_lt h0, hm⟩
theorem RV.ok.fr {S : List Nat} (h : r.ok w B) (hF : Fr S w w') (hS : ∀ x, r.v.ownBlock = some x → x ∉ S) : r.ok w' B := own_fr h hF hS
theorem RVs.at (h : RVs w B rs) {i : Nat} (hr : rs[i]? = some r) : r.ok w B := h.ok r (List.mem_of_getElem? hr)
theorem RVs.fr {S : List Nat} (h : RVs w B rs) (hF : Fr S w w') (hS : ∀ r, r ∈ rs → ∀ x, r.v.ownBlock = some x → x ∉ S) : RVs w' B rs :=
  ⟨fun r hr => (h.ok r hr).fr hF (hS r hr), h.ne⟩
/-- What changed lies below the rows. -/
theorem RVs.low {S : List Nat} (h : RVs w B rs) (hF : Fr S w w') (hS : ∀ x, x ∈ S → x < B) : RVs w' B rs :=
  h.fr hF fun r hr x hx hm => by have := (own_lt' (h.ok r hr) x hx).1; have := hS x hm; omega
theorem RVs.keep (h : RVs w B rs) (hF : Fr [] w w') : RVs w' B rs := h.fr hF (by simp)
/-- Row i is another one, in its own block or in a new one. -/
theorem RVs.grow {S : List Nat} (h : RVs w B rs) {i : Nat} (hr : rs[i]? = some r) (hF : Fr S w w') (hS : ∀ x, x ∈ S → r.v.ownBlock = some x ∨ ∀ s, s ∈ rs → s.v.ownBlock ≠ some x) (h' : r'.ok w' B)
    (hat : r'.v.ownBlock = r.v.ownBlock ∨ ∀ x, r'.v.ownBlock = some x → w.heap.size ≤ x) : RVs w' B (rs.set i r') := by
  have other : ∀ (j : Nat) (s : RV), j ≠ i → rs[j]? = some s → s.ok w' B := fun j s hj hs => (h.at hs).fr hF fun x hx hm => by
    rcases hS _ hm with h1 | h1
    · exact h.ne j i s r x hj hs hr hx h1
    · exact h1 s (List.mem_of_getElem? hs) hx
  have key : ∀ (j : Nat) (s : RV), (rs.set i r')[j]? = some s → (j = i ∧ s = r') ∨ (j ≠ i ∧ rs[j]? = some s) := by
    intro j s hs
    by_cases hj : j = i
    · subst hj
      rw [List.getElem?_set_self'] at hs
      rw [hr] at hs; simp at hs
      exact .inl ⟨rfl, hs.symm⟩
    · rw [List.getElem?_set_ne (by omega)] at hs
      exact .inr ⟨hj, hs⟩
  refine ⟨?_, ?_⟩
  · intro s hs
    obtain ⟨j, hj⟩ := List.getElem?_of_mem hs
    rcases key j s hj with ⟨_, rfl⟩ | ⟨h1, h2⟩
    · exact h'
    · exact other j s h1 h2
  · intro j k s t x hjk hs ht hx hy
    rcases key j s hs with ⟨hj, hs1⟩ | ⟨h1, h2⟩
    · rcases key k t ht with ⟨hk, _⟩ | ⟨h3, h4⟩
      · omega
      · subst hs1
        rcases hat with hat | hat
        · rw [hat] at hx
          exact h.ne i k r t x (Ne.symm h3) hr h4 hx hy
        · have := hat x hx
          have := (own_lt' (h.at h4) x hy).2
          omega
    · rcases key k t ht with ⟨hk, ht1⟩ | ⟨h3, h4⟩
      · subst ht1
        rcases hat with hat | hat
        · rw [hat] at hy
          exact h.ne j i s r x h1 h2 hr hx hy
        · have := hat x hy
          have := (own_lt' (h.at h2) x hx).2
          omega
      · exact h.ne j k s t x hjk h2 h4 hx hy
/-- One more row, in a new block or nil. -/
theorem RVs.push {S : List Nat} (h : RVs w B rs) (hF : Fr S w w') (hS : ∀ x, x ∈ S → ∀ s, s ∈ rs → s.v.ownBlock ≠ some x) (h' : r.ok w' B) (hat : ∀ x, r.v.ownBlock = some x → w.heap.size ≤ x) : RVs w' B (rs ++ [r]) := by
  have key : ∀ (i : Nat) (p : RV), (rs ++ [r])[i]? = some p → rs[i]? = some p ∨ (i = rs.length ∧ p = r) := by
    intro i p hp
    rcases Nat.lt_trichotomy i rs.length with hi | hi | hi
    · rw [List.getElem?_append_left hi] at hp; exact .inl hp
    · subst hi; simp at hp; exact .inr ⟨rfl, hp.symm⟩
    · rw [List.getElem?_eq_none (by simp; omega)] at hp; simp at hp
  have old := h.fr hF (fun r hr x hx hm => hS x hm r hr hx)
  refine ⟨?_, ?_⟩
  · intro s hs
    rcases List.mem_append.1 hs with hs | hs
    · exact old.ok s hs
    · simp at hs; subst hs; exact h'
  · intro j k s t x hjk hs ht hx hy
    rcases key j s hs with h2 | ⟨hj, hs1⟩
    · rcases key k t ht with h4 | ⟨hk, ht1⟩
      · exact h.ne j k s t x hjk h2 h4 hx hy
      · subst ht1; have := hat x hy; have := (own_lt' (h.at h2) x hx).2; omega
    · rcases key k t ht with h4 | ⟨hk, ht1⟩
      · subst hs1; have := hat x hx; have := (own_lt' (h.at h4) x hy).2; omega
      · omega
/-- A cell of row i is another one. -/
theorem RVs.set (h : RVs w B rs) {i : Nat} (hr : rs[i]? = some r) {g : Nat} (hg : r.v.ownBlock = some g) (j : Nat) (u : Value) : RVs (w.setCell ⟨g, j, none⟩ u) B (rs.set i { r with xs := r.xs.set j u }) := by
  refine h.grow (S := [g]) hr ((Fr.refl _ _).setCell (by simp) _) (by simp [hg]) ?_ (.inl rfl)
  have h0 := h.at hr
  unfold RV.ok at h0 ⊢
  simp only
  obtain ⟨_, h2⟩ := h0
  rcases h2 with ⟨h2, _⟩ | ⟨g', cap, cur, hv, _⟩
  · rw [h2] at hg; simp [Value.ownBlock] at hg
  · have h0 := h.at hr
    unfold RV.ok at h0
    rw [hv] at hg h0 ⊢
    simp only [Value.ownBlock, Option.some.injEq] at hg
    subst hg
    exact own_set h0 j u
end Go.Proofs.Ytjgndfhfiekomaa
