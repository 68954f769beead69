/- Limbs on paper: the number that limbs tell, and a number's limbs. No program in sight. -/
set_option linter.all false
namespace Go.Proofs.YtjdanblijcdllaaGreatDoor
/-- The number that limbs tell, the lowest first. -/
def val : List Nat → Nat
  | [] => 0
  | z :: l => z + 4294967296 * val l
def Lim (L : List Nat) : Prop := ∀ z, z ∈ L → z < 4294967296
def limsF : Nat → Nat → List Nat
  | 0, _ => []
  | k + 1, n => if n = 0 then [] else n % 4294967296 :: limsF k (n / 4294967296)
/-- A number's limbs, without leading zeros. -/
def lims (n : Nat) : List Nat := limsF n n
theorem limsF_big : ∀ (k j n : Nat), n ≤ k → n ≤ j → limsF k n = limsF j n := by
  intro k
  induction k with
  | zero => intro j n hk hj; obtain rfl : n = 0 := by omega
            cases j <;> simp [limsF]
  | succ k ih =>
    intro j n hk hj
    cases j with
    | zero => obtain rfl : n = 0 := by omega
              simp [limsF]
    | succ j =>
      unfold limsF
      by_cases h : n = 0
      · simp [h]
      · rw [if_neg h, if_neg h, ih j (n / 4294967296) (by omega) (by omega)]
theorem lims_zero : lims 0 = [] := rfl
theorem lims_pos {n : Nat} (h : n ≠ 0) : lims n = n % 4294967296 :: lims (n / 4294967296) := by
  unfold lims
  cases n with
  | zero => exact absurd rfl h
  | succ n =>
    rw [limsF, if_neg h, limsF_big n ((n + 1) / 4294967296) _ (by omega) (by omega)]
theorem val_lims (n : Nat) : val (lims n) = n := by
  induction n using Nat.strongRecOn with
  | _ n ih =>
    by_cases h : n = 0
    · subst h; rfl
    · rw [lims_pos h, val, ih _ (by omega)]; omega
theorem lim_nil : Lim [] := by intro z hz; simp at hz
theorem lim_cons {z : Nat} {l : List Nat} : Lim (z :: l) ↔ z < 4294967296 ∧ Lim l := by
  unfold Lim; simp
theorem lim_append {a b : List Nat} : Lim (a ++ b) ↔ Lim a ∧ Lim b := by
  unfold Lim; simp only [List.mem_append]; exact ⟨fun h => ⟨fun z hz => h z (.inl hz), fun z hz => h z (.inr hz)⟩, fun h z hz => hz.elim (h.1 z) (h.2 z)⟩
theorem lim_take {a : List Nat} (h : Lim a) (k : Nat) : Lim (a.take k) := fun z hz => h z (List.mem_of_mem_take hz)
theorem lim_drop {a : List Nat} (h : Lim a) (k : Nat) : Lim (a.drop k) := fun z hz => h z (List.mem_of_mem_drop hz)
theorem lim_get {a : List Nat} (h : Lim a) (i : Nat) : a[i]?.getD 0 < 4294967296 := by
  rcases Nat.lt_or_ge i a.length with hi | hi
  · rw [List.getElem?_eq_getElem hi]; exact h _ (List.getElem_mem hi)
  · rw [List.getElem?_eq_none hi]; simp
theorem lim_set {a : List Nat} (h : Lim a) (i v : Nat) (hv : v < 4294967296) : Lim (a.set i v) := by
  intro z hz
  rcases List.mem_or_eq_of_mem_set hz with hz | rfl
  · exact h z hz
  · exact hv
theorem lim_lims (n : Nat) : Lim (lims n) := by
  induction n using Nat.strongRecOn with
  | _ n ih =>
    by_cases h : n = 0
    · subst h; exact lim_nil
    · rw [lims_pos h]; exact lim_cons.2 ⟨by omega, ih _ (by omega)⟩
theorem lims_eq_nil {n : Nat} : lims n = [] ↔ n = 0 := by
  constructor
  · intro h
    by_cases h0 : n = 0
    · exact h0
    · rw [lims_pos h0] at h; simp at h
  · rintro rfl; rfl
/-- No leading zero. -/
def Top (L : List Nat) : Prop := ∀ i, L.length = i + 1 → L[i]?.getD 0 ≠ 0
theorem top_nil : Top [] := by intro i h; simp at h
theorem top_cons {z : Nat} {l : List Nat} (h : Top (z :: l)) : Top l := fun i hi => by
  have := h (i + 1) (by simp [hi]); simpa using this
theorem top_lims (n : Nat) : Top (lims n) := by
  induction n using Nat.strongRecOn with
  | _ n ih =>
    by_cases h : n = 0
    · subst h; exact top_nil
    · rw [lims_pos h]
      intro i hi
      cases i with
      | zero =>
        simp at hi
        simp only [List.getElem?_cons_zero, Option.getD_some]
        have := lims_eq_nil.1 hi
        omega
      | succ i =>
        simp only [List.length_cons] at hi
        have := ih _ (show n / 4294967296 < n by omega) i (by omega)
        simpa using this
/-- The limbs of the number that they tell. -/
theorem lims_val {L : List Nat} (h : Lim L) (ht : Top L) : lims (val L) = L := by
  induction L with
  | nil => rfl
  | cons z l ih =>
    obtain ⟨hz, hl⟩ := lim_cons.1 h
    have e := ih hl (top_cons ht)
    have hne : val (z :: l) ≠ 0 := by
      intro h0
      rw [val] at h0
      have h1 : val l = 0 := by omega
      rw [h1, lims_zero] at e
      subst e
      have := ht 0 rfl
      simp at this
      omega
    rw [lims_pos hne]
    have e1 : val (z :: l) % 4294967296 = z := by rw [val]; omega
    have e2 : val (z :: l) / 4294967296 = val l := by rw [val]; omega
    rw [e1, e2, e]
theorem val_inj {a b : List Nat} (ha : Lim a) (ha2 : Top a) (hb : Lim b) (hb2 : Top b) (h : val a = val b) : a = b := by
  rw [← lims_val ha ha2, h, lims_val hb hb2]
theorem val_append (a b : List Nat) : val (a ++ b) = val a + 4294967296 ^ a.length * val b := by
  induction a with
  | nil => simp [val]
  | cons z l ih =>
    simp only [List.cons_append, val, List.length_cons, ih, Nat.pow_succ]
    rw [Nat.mul_add, Nat.mul_comm (4294967296 ^ l.length) 4294967296, Nat.mul_assoc, Nat.add_assoc]
theorem val_lt {a : List Nat} (h : Lim a) : val a < 4294967296 ^ a.length := by
  induction a with
  | nil => simp [val]
  | cons z l ih =>
    obtain ⟨hz, hl⟩ := lim_cons.1 h
    have := ih hl
    simp only [val, List.length_cons, Nat.pow_succ]
    omega
theorem val_replicate (n : Nat) : val (List.replicate n 0) = 0 := by
  induction n with
  | zero => rfl
  | succ n ih => rw [List.replicate_succ, val, ih]
theorem val_take_succ (a : List Nat) (k : Nat) : val (a.take (k + 1)) = val (a.take k) + 4294967296 ^ k * a[k]?.getD 0 := by
  rcases Nat.lt_or_ge k a.length with hk | hk
  · rw [List.take_add_one, List.getElem?_eq_getElem hk]
    simp only [Option.toList_some, Option.getD_some]
    rw [val_append]
    have : (a.take k).length = k := by simp; omega
    rw [this]; simp [val]
  · rw [List.take_of_length_le (by omega), List.take_of_length_le hk, List.getElem?_eq_none hk]; simp
/-- So many limbs at most. -/
theorem len_lims {n k : Nat} : (lims n).length ≤ k ↔ n < 4294967296 ^ k := by
  induction k generalizing n with
  | zero =>
    simp only [Nat.le_zero, List.length_eq_zero_iff, Nat.pow_zero, lims_eq_nil]; omega
  | succ k ih =>
    by_cases h : n = 0
    · subst h; simp only [lims_zero, List.length_nil]
      have : 0 < 4294967296 ^ (k + 1) := Nat.pow_pos (by decide)
      omega
    · rw [lims_pos h, List.length_cons, Nat.pow_succ]
      have := @ih (n / 4294967296)
      have e : n / 4294967296 < 4294967296 ^ k ↔ n < 4294967296 ^ k * 4294967296 := Nat.div_lt_iff_lt_mul (by decide)
      omega
theorem lims_len_le {n m : Nat} (h : n ≤ m) : (lims n).length ≤ (lims m).length := by
  rw [len_lims]
  have := (@len_lims m (lims m).length).1 (Nat.le_refl _)
  omega
theorem lims_len_lt {n m : Nat} (h : (lims n).length < (lims m).length) : n < m := by
  rcases Nat.lt_or_ge n m with h1 | h1
  · exact h1
  · have := lims_len_le h1; omega
/-- What stands behind the last limb that isn't nought may go. -/
theorem val_take_zeros (a : List Nat) (k : Nat) (h : ∀ i, k ≤ i → i < a.length → a[i]?.getD 0 = 0) : val (a.take k) = val a := by
  induction a generalizing k with
  | nil => simp
  | cons z l ih =>
    cases k with
    | zero =>
      have h0 := h 0 (by omega) (by simp)
      simp at h0
      have h1 := ih 0 (fun i _ hi => by have := h (i + 1) (by omega) (by simpa using hi); simpa using this)
      simp only [List.take_zero, val] at h1 ⊢
      omega
    | succ k =>
      have h1 := ih k (fun i hk hi => by have := h (i + 1) (by omega) (by simpa using hi); simpa using this)
      rw [List.take_succ_cons, val, val, h1]
/-- As the loop of a trim leaves it. -/
theorem trim_done {a : List Nat} (hl : Lim a) (k : Nat) (hk : k ≤ a.length) (h : ∀ i, k ≤ i → i < a.length → a[i]?.getD 0 = 0) (ht : k = 0 ∨ a[k - 1]?.getD 0 ≠ 0) : a.take k = lims (val a) := by
  rw [← val_take_zeros a k h, lims_val (lim_take hl k)]
  intro i hi
  have : i + 1 = k := by simp at hi; omega
  subst this
  rw [List.getElem?_take_of_lt (by omega)]
  simpa using ht
theorem lims_len_val {a : List Nat} (hl : Lim a) : (lims (val a)).length ≤ a.length := by
  rw [len_lims]; exact val_lt hl
end Go.Proofs.YtjdanblijcdllaaGreatDoor
