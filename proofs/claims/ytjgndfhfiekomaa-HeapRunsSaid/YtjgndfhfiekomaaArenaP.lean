/- The arena on paper: lines that are free are given. No program in sight. -/
import Derived.Test.YtjgndfhfiekomaaArenaI
set_option linter.all false
namespace Go.Proofs.Ytjgndfhfiekomaa
/-- How many lines are free. -/
def un (l : List (Bool × Bool)) : Nat := l.countP fun x => !x.1
theorem un_set (l : List (Bool × Bool)) (k : Nat) (y : Bool) (hk : k < l.length) (h : tk l k = false) : un (l.set k (true, y)) + 1 = un l := by
  unfold un
  induction l generalizing k with
  | nil => simp at hk
  | cons x l ih =>
    cases k with
    | zero =>
      have hx : x.1 = false := by simpa [tk] using h
      simp [hx]
    | succ k =>
      have := ih k (by simpa using hk) (by simpa [tk] using h)
      simp only [List.set_cons_succ, List.countP_cons]
      omega
theorem tk_claimed (l : List (Bool × Bool)) (f k i : Nat) (hi : i < l.length) : tk (claimed l f k) i = if f ≤ i ∧ i < k then true else tk l i := by
  simp only [tk, claimed_get]
  simp only [List.getElem?_eq_getElem hi, Option.map_some, Option.getD_some]
  split <;> rfl
theorem un_claimed (l : List (Bool × Bool)) (f t : Nat) (h1 : f ≤ t) (h2 : t ≤ l.length) (h : ∀ i, f ≤ i → i < t → tk l i = false) : un (claimed l f t) + (t - f) = un l := by
  obtain ⟨n, rfl⟩ : ∃ n, t = f + n := ⟨t - f, by omega⟩
  clear h1
  induction n with
  | zero => simp [claimed_self]
  | succ n ih =>
    have ih := ih (by omega) (fun i a b => h i a (by omega))
    rw [← Nat.add_assoc, ← claimed_step l f (f + n) (by omega) (by omega)]
    have := un_set (claimed l f (f + n)) (f + n) ((claimed l f (f + n))[f + n]?.getD (true, true)).2 (by rw [len_claimed]; omega)
      (by rw [tk_claimed _ _ _ _ (by omega), if_neg (by omega)]; exact h _ (by omega) (by omega))
    omega
theorem un_pos (l : List (Bool × Bool)) : 0 < un l ↔ ∃ i, i < l.length ∧ tk l i = false := by
  unfold un
  rw [List.countP_pos_iff]
  constructor
  · rintro ⟨x, hx, hp⟩
    obtain ⟨i, hi, rfl⟩ := List.mem_iff_getElem.1 hx
    exact ⟨i, hi, by simpa [tk, hi] using hp⟩
  · rintro ⟨i, hi, ht⟩
    exact ⟨l[i], List.getElem_mem hi, by simpa [tk, hi] using ht⟩
theorem find_none1 (l : List (Bool × Bool)) (i : Nat) (h : find l i 1 = none) : ∀ k, i ≤ k → k < l.length → tk l k = true := by
  unfold find at h
  generalize hn : l.length - i = n at h
  induction n generalizing i with
  | zero => intro k a b; omega
  | succ n ih =>
    simp only [findF] at h
    rw [if_pos (by omega)] at h
    split at h
    · simp at h
    · rename_i hm
      have hl := hole_le l i (by omega)
      have ht := hole_test l i i (Nat.le_refl _) hl.2.1
      have hh : hole l i = i := by omega
      rw [show max (hole l i) (i + 1) = i + 1 by omega] at h
      intro k a b
      by_cases hk : k = i
      · subst hk
        by_cases hx : tk l k = false
        · have := ht.2 ⟨by omega, rfl, hx⟩; omega
        · simpa using hx
      · exact ih (i + 1) (by omega) h k (by omega) b
theorem find_skip1 (l : List (Bool × Bool)) (i f t : Nat) (h : find l i 1 = some (f, t)) : ∀ k, i ≤ k → k < f → tk l k = true := by
  unfold find at h
  generalize hn : l.length - i = n at h
  induction n generalizing i with
  | zero => simp [findF] at h
  | succ n ih =>
    simp only [findF] at h
    rw [if_pos (by omega)] at h
    split at h
    · simp at h; intro k a b; omega
    · rename_i hm
      have hl := hole_le l i (by omega)
      have ht := hole_test l i i (Nat.le_refl _) hl.2.1
      have hh : hole l i = i := by omega
      rw [show max (hole l i) (i + 1) = i + 1 by omega] at h
      intro k a b
      by_cases hk : k = i
      · subst hk
        by_cases hx : tk l k = false
        · have := ht.2 ⟨by omega, rfl, hx⟩; omega
        · simpa using hx
      · exact ih (i + 1) (by omega) h k (by omega) b
theorem hole_free (l : List (Bool × Bool)) (f k : Nat) (h1 : f ≤ k) (h2 : k < hole l f) : k < l.length ∧ k / 16 = f / 16 ∧ tk l k = false :=
  (hole_test l f k h1 (Nat.le_of_lt h2)).1 h2
/-- So many lines more can be given, one by one. -/
structure Fill (A : Ar) (m r : Nat) : Prop where
  ok : A.Ok m
  d1 : A.sf % 16 = 0
  d2 : A.st % 16 = 0
  ahead : ∀ i, i < A.next → i < A.lines.length → tk A.lines i = true
  sum : (A.st - A.sf) / 16 + un A.lines = r
theorem Fill.step {A : Ar} {m r : Nat} (h : Fill A m (r + 1)) : ∃ n, (A.smallA 16).2 = some n ∧ n % 16 = 0 ∧ n < 1048576 ∧ Fill (A.smallA 16).1 m r := by
  obtain ⟨ok, d1, d2, ahead, sum⟩ := h
  have ok' := ok.smallA 16 (by omega)
  have m2 := ok.m2
  have s1 := ok.s1
  have s2 := ok.s2
  unfold Ar.smallA at ok' ⊢
  by_cases hs : 16 ≤ A.st - A.sf
  · rw [if_pos hs] at ok' ⊢
    exact ⟨_, rfl, d1, by omega, ok', by simp only []; omega, d2, ahead, by simp only []; omega⟩
  · rw [if_neg hs] at ok' ⊢
    have hu : un A.lines = r + 1 := by omega
    cases hf : find A.lines A.next 1 with
    | none =>
      obtain ⟨i, hi, ht⟩ := (un_pos A.lines).1 (by omega)
      by_cases hn : i < A.next
      · rw [ahead i hn hi] at ht; simp at ht
      · rw [find_none1 _ _ hf i (by omega) hi] at ht; simp at ht
    | some ft =>
      obtain ⟨f, t⟩ := ft
      rw [hf] at ok'
      obtain ⟨p1, p2, p3, p4, p5⟩ := find_spec _ _ _ (by omega) _ _ hf
      have hfree : ∀ i, f ≤ i → i < t → tk A.lines i = false := fun i a b => (hole_free _ _ _ a (by rw [← p5]; exact b)).2.2
      have hc := un_claimed A.lines f t (by omega) p3 hfree
      have ll := ok.ll
      refine ⟨f * 16, rfl, by omega, by omega, ok', by simp only []; omega, by simp only []; omega, ?_, by simp only [Ar.claim]; omega⟩
      simp only [Ar.claim, len_claimed]
      intro i hi hl
      rw [tk_claimed _ _ _ _ hl]
      split
      · rfl
      · by_cases hn : i < A.next
        · exact ahead i hn hl
        · exact find_skip1 _ _ _ _ hf i (by omega) (by omega)
theorem Fill.done {A : Ar} {m : Nat} (h : Fill A m 0) : A.smallA 1 = (A, none) := by
  obtain ⟨ok, d1, d2, ahead, sum⟩ := h
  have s1 := ok.s1
  unfold Ar.smallA
  rw [if_neg (by omega)]
  cases hf : find A.lines A.next 1 with
  | none => rfl
  | some ft =>
    obtain ⟨f, t⟩ := ft
    obtain ⟨p1, p2, p3, p4, p5⟩ := find_spec _ _ _ (by omega) _ _ hf
    have hfree := (hole_free A.lines f f (Nat.le_refl _) (by omega))
    have := (un_pos A.lines).2 ⟨f, hfree.1, hfree.2.2⟩
    omega
theorem freeIn_add (l : List (Bool × Bool)) (o a c : Nat) : freeIn l o (a + c) = freeIn l o a + freeIn l (o + a) c := by
  unfold freeIn
  rw [List.take_add, List.countP_append, List.drop_drop]
/-- The free lines of the blocks ahead of k. -/
def freeSum (l : List (Bool × Bool)) : Nat → Nat
  | 0 => 0
  | k + 1 => freeSum l k + freeOf l k
theorem freeSum_eq (l : List (Bool × Bool)) (k : Nat) : freeSum l k = freeIn l 0 (k * 16) := by
  induction k with
  | zero => simp [freeSum, freeIn]
  | succ k ih =>
    rw [Nat.succ_mul, freeIn_add, ← ih]
    simp [freeSum, freeOf]
theorem freeSum_un (l : List (Bool × Bool)) (m : Nat) (h : l.length = m * 16) : freeSum l m = un l := by
  rw [freeSum_eq, ← h]; simp [freeIn, un]
theorem freeSum_le (l : List (Bool × Bool)) (k : Nat) : freeSum l k ≤ k * 16 := by rw [freeSum_eq]; exact freeIn_le _ _ _
theorem emptyIn_zero (l : List (Bool × Bool)) (k : Nat) (h : un l = 0) : emptyIn l k = 0 := by
  induction k with
  | zero => rfl
  | succ k ih =>
    simp only [emptyIn, ih]
    have : freeOf l k ≤ un l := by
      unfold freeOf freeIn un
      exact Nat.le_trans (List.Sublist.countP_le (List.take_sublist _ _)) (List.Sublist.countP_le (List.drop_sublist _ _))
    rw [if_neg (by omega)]
theorem Fill.start {A : Ar} {m : Nat} (ok : A.Ok m) : Fill A.sweep m (freeSum A.sweep.lines m) :=
  ⟨ok.sweep, rfl, rfl, fun i h => by simp [Ar.sweep] at h, by rw [freeSum_un _ _ ok.sweep.ll]; simp [Ar.sweep]⟩
theorem Fill.un_le {A : Ar} {m r : Nat} (h : Fill A m r) : un A.lines ≤ r := by have := h.sum; omega
/-- After so many lines were given. -/
def given (A : Ar) : Nat → Ar
  | 0 => A
  | k + 1 => ((given A k).smallA 16).1
theorem Fill.many {A : Ar} {m r : Nat} (h : Fill A m r) (k : Nat) (hk : k ≤ r) : Fill (given A k) m (r - k) := by
  induction k with
  | zero => exact h
  | succ k ih =>
    have := ih (by omega)
    rw [show r - k = (r - (k + 1)) + 1 by omega] at this
    obtain ⟨_, _, _, _, h2⟩ := this.step
    exact h2
/-- Marked by all of a list. -/
def marks (A : Ar) (m : Nat) (N : Nat → Nat → Int) : Nat → Ar
  | 0 => A
  | k + 1 => (marks A m N k).mark m (N k 2) (N k 1)
theorem marks_ok {A : Ar} {m : Nat} (ok : A.Ok m) (N : Nat → Nat → Int) (k : Nat) : (marks A m N k).Ok m := by
  induction k with
  | zero => exact ok
  | succ k ih => exact ih.mark _ _
end Go.Proofs.Ytjgndfhfiekomaa
