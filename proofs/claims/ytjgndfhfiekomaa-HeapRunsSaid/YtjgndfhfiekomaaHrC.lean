/- Holes on paper. No program in sight. -/
import Derived.Test.YtjgndfhfiekomaaHrB
import Derived.Test.YtjgndfhfiekomaaArenaP
set_option linter.all false
namespace Go.Proofs.Ytjgndfhfiekomaa
variable {L : List (Bool × Bool)}
/-- The holes of the first i lines, the last one ahead. -/
def runsR (L : List (Bool × Bool)) : Nat → List (Nat × Nat)
  | 0 => []
  | i + 1 => if tk L i = true then runsR L i else
    match runsR L i with
    | [] => [(i, i + 1)]
    | p :: r => if 0 < i % 16 ∧ tk L (i - 1) = false then (p.1, i + 1) :: r else (i, i + 1) :: p :: r
theorem runsR_tk {i : Nat} (h : tk L i = true) : runsR L (i + 1) = runsR L i := by simp only [runsR]; rw [if_pos h]
theorem runsR_new {i : Nat} (h : tk L i = false) (hc : ¬ (0 < i % 16 ∧ tk L (i - 1) = false)) : runsR L (i + 1) = (i, i + 1) :: runsR L i := by
  simp only [runsR]
  rw [if_neg (by simp [h])]
  cases hr : runsR L i with
  | nil => rfl
  | cons p r => simp only; rw [if_neg hc]
theorem runsR_head {i : Nat} (h : tk L i = false) : ∃ f r, runsR L (i + 1) = (f, i + 1) :: r := by
  simp only [runsR]
  rw [if_neg (by simp [h])]
  cases runsR L i with
  | nil => exact ⟨_, _, rfl⟩
  | cons p r =>
    simp only
    split
    · exact ⟨_, _, rfl⟩
    · exact ⟨_, _, rfl⟩
theorem runsR_ext {i : Nat} (h : tk L i = false) (h0 : 0 < i % 16) (h1 : tk L (i - 1) = false) : ∃ f r, runsR L i = (f, i) :: r ∧ runsR L (i + 1) = (f, i + 1) :: r := by
  obtain ⟨j, rfl⟩ : ∃ j, i = j + 1 := ⟨i - 1, by omega⟩
  simp only [Nat.add_sub_cancel] at h1
  obtain ⟨f, r, hr⟩ := runsR_head h1
  refine ⟨f, r, hr, ?_⟩
  rw [runsR, if_neg (by simp [h]), hr]
  simp only
  rw [if_pos ⟨h0, by simpa using h1⟩]
/-- What a hole is. -/
structure Run (L : List (Bool × Bool)) (i : Nat) (p : Nat × Nat) : Prop where
  lt : p.1 < p.2
  le : p.2 ≤ i
  fr : ∀ x, p.1 ≤ x → x < p.2 → tk L x = false
  bk : p.1 / 16 = (p.2 - 1) / 16
  en : p.2 = i ∨ p.2 % 16 = 0 ∨ tk L p.2 = true
structure Runs (L : List (Bool × Bool)) (i : Nat) (H : List (Nat × Nat)) : Prop where
  ok : ∀ p, p ∈ H → Run L i p
  so : H.Pairwise fun q p => p.2 ≤ q.1
  co : ∀ x, x < i → tk L x = false → ∃ p, p ∈ H ∧ p.1 ≤ x ∧ x < p.2
theorem runs_ok (L : List (Bool × Bool)) (i : Nat) : Runs L i (runsR L i) := by
  induction i with
  | zero => exact ⟨by simp [runsR], by simp [runsR], fun x hx => by omega⟩
  | succ i ih =>
    cases ht : tk L i with
    | true =>
      rw [runsR_tk ht]
      refine ⟨fun p hp => ?_, ih.so, fun x hx hf => ?_⟩
      · have h := ih.ok p hp
        have hle := h.le
        refine ⟨h.lt, by omega, h.fr, h.bk, ?_⟩
        rcases h.en with h1 | h1
        · exact .inr (.inr (by rw [h1]; exact ht))
        · exact .inr h1
      · refine ih.co x ?_ hf
        rcases Nat.lt_or_ge x i with h | h
        · exact h
        · have : x = i := by omega
          subst this
          rw [ht] at hf; simp at hf
    | false =>
      by_cases hc : 0 < i % 16 ∧ tk L (i - 1) = false
      · obtain ⟨f, r, e1, e2⟩ := runsR_ext ht hc.1 hc.2
        rw [e2]
        rw [e1] at ih
        have h0 := ih.ok _ (List.mem_cons_self)
        have hso := List.pairwise_cons.1 ih.so
        refine ⟨fun p hp => ?_, ?_, fun x hx hf => ?_⟩
        · rcases List.mem_cons.1 hp with rfl | hp
          · have := h0.lt
            have h2 := h0.bk
            simp only at this h2
            refine ⟨by simp only; omega, by simp only; omega, fun x a b => ?_, by simp only; omega, .inl rfl⟩
            simp only at a b
            rcases Nat.lt_or_ge x i with h | h
            · exact h0.fr x a h
            · have : x = i := by omega
              subst this; exact ht
          · have h := ih.ok p (List.mem_cons_of_mem _ hp)
            have hle := hso.1 p hp
            have h3 := h0.lt
            have h4 := h0.bk
            simp only at hle h3 h4
            refine ⟨h.lt, by omega, h.fr, h.bk, ?_⟩
            rcases h.en with h1 | h1
            · omega
            · exact .inr h1
        · exact List.pairwise_cons.2 ⟨fun p hp => hso.1 p hp, hso.2⟩
        · rcases Nat.lt_or_ge x i with h | h
          · obtain ⟨p, hp, a, b⟩ := ih.co x h hf
            rcases List.mem_cons.1 hp with rfl | hp
            · exact ⟨_, List.mem_cons_self, a, by simp only at b ⊢; omega⟩
            · exact ⟨p, List.mem_cons_of_mem _ hp, a, b⟩
          · exact ⟨_, List.mem_cons_self, by have := h0.lt; simp only at this ⊢; omega, by simp only; omega⟩
      · rw [runsR_new ht hc]
        refine ⟨fun p hp => ?_, List.pairwise_cons.2 ⟨fun p hp => (ih.ok p hp).le, ih.so⟩, fun x hx hf => ?_⟩
        · rcases List.mem_cons.1 hp with rfl | hp
          · refine ⟨by simp only; omega, by simp only; omega, fun x a b => ?_, by simp only [Nat.add_sub_cancel], .inl rfl⟩
            simp only at a b
            have : x = i := by omega
            subst this; exact ht
          · have h := ih.ok p hp
            have hle := h.le
            have hlt := h.lt
            refine ⟨h.lt, by omega, h.fr, h.bk, ?_⟩
            rcases h.en with h1 | h1
            · have h2 := h.fr (i - 1) (by omega) (by omega)
              right; left
              rw [h1]
              rcases Nat.eq_zero_or_pos (i % 16) with h3 | h3
              · exact h3
              · exact absurd ⟨h3, h2⟩ hc
            · exact .inr h1
        · rcases Nat.lt_or_ge x i with h | h
          · obtain ⟨p, hp, a, b⟩ := ih.co x h hf
            exact ⟨p, List.mem_cons_of_mem _ hp, a, b⟩
          · exact ⟨_, List.mem_cons_self, by simp only; omega, by simp only; omega⟩
/-- A hole's end. -/
theorem run_hole {p : Nat × Nat} (h : Run L L.length p) : p.2 = hole L p.1 := by
  have h1 := h.lt
  have h2 := h.le
  have h3 := h.bk
  have hl := hole_le L p.1 (by omega)
  have up : ∀ k, p.1 + k ≤ p.2 → p.1 + k ≤ hole L p.1 := by
    intro k
    induction k with
    | zero => intro _; omega
    | succ k ih =>
      intro hk
      have h4 := ih (by omega)
      have := (hole_test L p.1 (p.1 + k) (by omega) h4).2 ⟨by omega, by omega, h.fr _ (by omega) (by omega)⟩
      omega
  have hup := up (p.2 - p.1) (by omega)
  rcases Nat.lt_or_ge p.2 (hole L p.1) with hlt | hge
  · exfalso
    obtain ⟨a, b, c⟩ := (hole_test L p.1 p.2 (by omega) (by omega)).1 hlt
    rcases h.en with h5 | h5 | h5
    · omega
    · omega
    · rw [h5] at c; simp at c
  · omega
/-- All holes, the first one ahead. -/
def runs (L : List (Bool × Bool)) : List (Nat × Nat) := (runsR L L.length).reverse
theorem runs_mem {p : Nat × Nat} : p ∈ runs L ↔ p ∈ runsR L L.length := by simp [runs]
theorem runs_so (L : List (Bool × Bool)) : (runs L).Pairwise fun p q => p.2 ≤ q.1 := by
  unfold runs
  rw [List.pairwise_reverse]
  exact (runs_ok L L.length).so
theorem find_congr {α : Type} {l : List α} {f g : α → Bool} (h : ∀ p, p ∈ l → f p = g p) : l.find? f = l.find? g := by
  induction l with
  | nil => rfl
  | cons x l ih =>
    simp only [List.find?_cons]
    rw [h x List.mem_cons_self, ih (fun p hp => h p (List.mem_cons_of_mem _ hp))]
/-- No hole lies across a line's beginning. -/
def Cut (L : List (Bool × Bool)) (i : Nat) : Prop := ∀ p, p ∈ runs L → p.1 < i → p.2 ≤ i
theorem cut_zero (L : List (Bool × Bool)) : Cut L 0 := fun p _ h => by omega
theorem cut_tk {i : Nat} (h : i = 0 ∨ tk L (i - 1) = true) : Cut L i := by
  intro p hp hlt
  have hr := (runs_ok L L.length).ok p (runs_mem.1 hp)
  rcases h with h | h
  · omega
  · rcases Nat.lt_or_ge i p.2 with h2 | h2
    · have := hr.fr (i - 1) (by omega) (by omega)
      rw [this] at h; simp at h
    · exact h2
theorem runs_other {p q : Nat × Nat} (hp : p ∈ runs L) (hq : q ∈ runs L) : p = q ∨ p.2 ≤ q.1 ∨ q.2 ≤ p.1 := by
  obtain ⟨i, hi, rfl⟩ := List.mem_iff_getElem.1 hp
  obtain ⟨j, hj, rfl⟩ := List.mem_iff_getElem.1 hq
  have hs := List.pairwise_iff_getElem.1 (runs_so L)
  rcases Nat.lt_trichotomy i j with h | h | h
  · exact .inr (.inl (hs i j hi hj h))
  · subst h; exact .inl rfl
  · exact .inr (.inr (hs j i hj hi h))
theorem hole_taken {i : Nat} (hi : i < L.length) (h : tk L i = true) : hole L i = i := by
  have hl := hole_le L i (by omega)
  rcases Nat.lt_or_ge i (hole L i) with hlt | hge
  · have := (hole_test L i i (Nat.le_refl _) (by omega)).1 hlt
    rw [h] at this; simp at this
  · omega
/-- The first hole from a line on that is wide enough. -/
theorem find_runs (L : List (Bool × Bool)) (many : Int) (hm : 1 ≤ many) (n : Nat) : ∀ i, L.length - i ≤ n → Cut L i → find L i many = (runs L).find? fun p => decide (i ≤ p.1 ∧ many ≤ (p.2 : Int) - p.1) := by
  induction n with
  | zero =>
    intro i hi hc
    rw [find_end L i many (by omega)]
    symm
    rw [List.find?_eq_none]
    intro p hp
    have hr := (runs_ok L L.length).ok p (runs_mem.1 hp)
    have := hr.lt
    have := hr.le
    simp only [decide_eq_true_eq]
    omega
  | succ n ih =>
    intro i hi hc
    rcases Nat.lt_or_ge i L.length with hlt | hge
    · cases ht : tk L i with
      | true =>
        have hh := hole_taken hlt ht
        rw [find_next L i many hlt (by rw [hh]; omega), hh, show max i (i + 1) = i + 1 by omega, ih (i + 1) (by omega) (cut_tk (.inr (by simpa using ht)))]
        refine find_congr fun p hp => ?_
        have hr := (runs_ok L L.length).ok p (runs_mem.1 hp)
        have hne : p.1 ≠ i := fun he => by
          have := hr.fr i (by omega) (by have := hr.lt; omega)
          rw [ht] at this; simp at this
        rw [decide_eq_decide]
        constructor
        · rintro ⟨a, b⟩; exact ⟨by omega, b⟩
        · rintro ⟨a, b⟩; exact ⟨by omega, b⟩
      | false =>
        obtain ⟨p, hp, a, b⟩ := (runs_ok L L.length).co i hlt ht
        have hp' : p ∈ runs L := runs_mem.2 hp
        have hp1 : p.1 = i := by
          rcases Nat.lt_or_ge p.1 i with h | h
          · have := hc p hp' h; omega
          · omega
        have hr := (runs_ok L L.length).ok p hp
        have hh := run_hole hr
        rw [hp1] at hh
        have hlt2 := hr.lt
        by_cases hw : many ≤ (hole L i : Int) - i
        · rw [find_yes L i many hlt hw]
          symm
          rw [List.find?_eq_some_iff_append]
          refine ⟨by simp only [decide_eq_true_eq]; omega, ?_⟩
          obtain ⟨l1, l2, hab⟩ := List.append_of_mem hp'
          refine ⟨l1, l2, by rw [hab, ← hh, ← hp1], fun q hq => ?_⟩
          have hs := runs_so L
          rw [hab, List.pairwise_append] at hs
          have h4 := hs.2.2 q hq p List.mem_cons_self
          have hqr := (runs_ok L L.length).ok q (runs_mem.1 (by rw [hab]; exact List.mem_append_left _ hq))
          have := hqr.lt
          simp only [Bool.not_eq_true', decide_eq_false_iff_not]
          omega
        · rw [find_next L i many hlt hw, show max (hole L i) (i + 1) = hole L i by omega]
          have hc2 : Cut L (hole L i) := fun q hq hql => by
            rcases runs_other hp' hq with h | h | h
            · rw [← h]; omega
            · omega
            · omega
          rw [ih (hole L i) (by omega) hc2]
          refine find_congr fun q hq => ?_
          rw [decide_eq_decide]
          constructor
          · rintro ⟨c, d⟩; exact ⟨by omega, d⟩
          · rintro ⟨c, d⟩
            refine ⟨?_, d⟩
            rcases runs_other hp' hq with h | h | h
            · rw [← h] at d; omega
            · omega
            · have := ((runs_ok L L.length).ok q (runs_mem.1 hq)).lt; omega
    · rw [find_end L i many hge]
      symm
      rw [List.find?_eq_none]
      intro p hp
      have hr := (runs_ok L L.length).ok p (runs_mem.1 hp)
      have := hr.lt
      have := hr.le
      simp only [decide_eq_true_eq]
      omega
end Go.Proofs.Ytjgndfhfiekomaa
