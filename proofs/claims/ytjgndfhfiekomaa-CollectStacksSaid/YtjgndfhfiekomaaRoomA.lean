/- The arena on paper: as long as there are empty blocks between the small runs' and the others there is room. No program in sight. -/
import Derived.Test.YtjgndfhfiekomaaArenaQ
namespace Go.Proofs.Ytjgndfhfiekomaa
variable {A : Ar} {m p q : Nat}
theorem freeIn_all (l : List (Bool × Bool)) (o n : Nat) (hl : o + n ≤ l.length) (h : ∀ i, o ≤ i → i < o + n → tk l i = false) : freeIn l o n = n := by
  induction n with
  | zero => exact freeIn_zero l o
  | succ n ih =>
    rw [freeIn_step l o n (by omega), ih (by omega) (fun i a b => h i a (by omega)), h (o + n) (by omega) (by omega)]
    simp
theorem below_ge (l : List (Bool × Bool)) (n q : Nat) (hq : q < n) (h : freeOf l q = 16) : ∃ b, blockBelow l n = some b ∧ q ≤ b := by
  induction n with
  | zero => omega
  | succ n ih =>
    unfold blockBelow
    by_cases hn : freeOf l n = 16
    · rw [if_pos hn]; exact ⟨n, rfl, by omega⟩
    · rw [if_neg hn]
      exact ih (by rcases Nat.lt_or_ge q n with h1 | h1; exact h1; exact absurd (by rwa [show q = n by omega] at h) hn)
/-- Lines from block p to block q are free; small runs come from below. -/
structure Rm (A : Ar) (m p q : Nat) : Prop where
  ok : A.Ok m
  nx : A.next ≤ 16 * p
  pq : p ≤ q
  qm : q ≤ m
  fr : ∀ i, 16 * p ≤ i → i < 16 * q → tk A.lines i = false
def Room (A : Ar) (m r : Nat) : Prop := ∃ p q, Rm A m p q ∧ r ≤ q - p
theorem Room.ok {r : Nat} (h : Room A m r) : A.Ok m := by obtain ⟨p, q, h, _⟩ := h; exact h.ok
theorem Room.less {r r' : Nat} (h : Room A m r) (hr : r' ≤ r) : Room A m r' := by obtain ⟨p, q, h, h1⟩ := h; exact ⟨p, q, h, by omega⟩
theorem Room.new (h1 : 1 ≤ m) (h2 : m ≤ 4096) : Room (Ar.new m) m m :=
  ⟨0, m, ⟨Ar.new_ok m h1 h2, Nat.zero_le _, Nat.zero_le _, Nat.le_refl _, fun i _ hi => by
    simp only [Ar.new, tk, clear]
    rw [List.getElem?_replicate, if_pos (by omega)]; rfl⟩, by omega⟩
theorem Room.alloc {r : Nat} (h : Room A m (r + 1)) (n : Int) (n1 : 1 ≤ n) (n2 : n ≤ 256) : ∃ k, (A.alloc m n).2 = some k ∧ Room (A.alloc m n).1 m r := by
  obtain ⟨p, q, ⟨ok, nx, pq, qm, fr⟩, hr⟩ := h
  have ok' := Ar.Ok.alloc ok n
  have hll := ok.ll
  unfold Ar.alloc at ok' ⊢
  rw [if_neg (by omega)] at ok' ⊢
  by_cases h16 : 16 < n
  · rw [if_pos h16] at ok' ⊢
    unfold Ar.greatA at ok' ⊢
    by_cases hf : n.toNat ≤ A.gt - A.gf
    · rw [if_pos hf] at ok' ⊢
      exact ⟨_, rfl, p, q, ⟨ok', nx, pq, qm, fr⟩, by omega⟩
    · rw [if_neg hf] at ok' ⊢
      have hfree : freeOf A.lines (q - 1) = 16 := by
        unfold freeOf
        exact freeIn_all _ _ _ (by omega) (fun i a b => fr i (by omega) (by omega))
      obtain ⟨b, hb, hqb⟩ := below_ge A.lines m (q - 1) (by omega) hfree
      rw [hb] at ok' ⊢
      refine ⟨_, rfl, p, q - 1, ⟨ok', nx, by omega, by omega, fun i a c => ?_⟩, by omega⟩
      show tk (claimed A.lines _ _) i = false
      rw [tk_claimed', if_neg (by omega)]
      exact fr i a (by omega)
  · rw [if_neg h16] at ok' ⊢
    unfold Ar.smallA at ok' ⊢
    by_cases hf : n.toNat ≤ A.st - A.sf
    · rw [if_pos hf] at ok' ⊢
      exact ⟨_, rfl, p, q, ⟨ok', nx, pq, qm, fr⟩, by omega⟩
    · rw [if_neg hf] at ok' ⊢
      cases hx : find A.lines A.next 1 with
      | none =>
        have := find_none1 A.lines A.next hx (16 * p) nx (by omega)
        rw [fr (16 * p) (Nat.le_refl _) (by omega)] at this
        cases this
      | some ft =>
        obtain ⟨f, t⟩ := ft
        rw [hx] at ok'
        obtain ⟨e1, e2, e3, e4, e5⟩ := find_spec A.lines A.next 1 (by omega) f t hx
        have e6 : f ≤ 16 * p := by
          rcases Nat.lt_or_ge (16 * p) f with h | h
          · have := find_skip1 A.lines A.next f t hx (16 * p) nx h
            rw [fr (16 * p) (Nat.le_refl _) (by omega)] at this
            cases this
          · exact h
        have e7 := (hole_le A.lines f (by omega)).2.2
        refine ⟨_, rfl, p + 1, q, ⟨ok', ?_, by omega, qm, fun i a c => ?_⟩, by omega⟩
        · show t ≤ 16 * (p + 1)
          omega
        · show tk (claimed A.lines _ _) i = false
          rw [tk_claimed', if_neg (by omega)]
          exact fr i (by omega) c
theorem Room.set {r : Nat} (h : Room A m r) (i : Nat) (v : Int) : Room (A.set i v) m r := by
  obtain ⟨p, q, h, h1⟩ := h
  exact ⟨p, q, ⟨h.ok.set i v, h.nx, h.pq, h.qm, h.fr⟩, h1⟩
end Go.Proofs.Ytjgndfhfiekomaa
