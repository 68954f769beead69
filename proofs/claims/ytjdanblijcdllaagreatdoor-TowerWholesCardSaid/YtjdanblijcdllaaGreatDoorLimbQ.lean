/- Limbs on paper: sums, differences, products, quotients, limb by limb. No program in sight. -/
import Derived.Test.YtjdanblijcdllaaGreatDoorLimbP
set_option linter.all false
namespace Go.Proofs.YtjdanblijcdllaaGreatDoor
theorem pow_pos' (k : Nat) : 0 < 4294967296 ^ k := Nat.pow_pos (by decide)
theorem val_snoc (a : List Nat) (z : Nat) : val (a ++ [z]) = val a + 4294967296 ^ a.length * z := by
  rw [val_append]; simp [val]
theorem val_set (a : List Nat) (i v : Nat) (hi : i < a.length) : val (a.set i v) + 4294967296 ^ i * a[i]?.getD 0 = val a + 4294967296 ^ i * v := by
  induction a generalizing i with
  | nil => simp at hi
  | cons z l ih =>
    cases i with
    | zero => simp [val]; omega
    | succ i =>
      have := ih i (by simpa using hi)
      simp only [List.set_cons_succ, val, List.getElem?_cons_succ, Nat.pow_succ]
      rw [Nat.mul_comm (4294967296 ^ i) 4294967296, Nat.mul_assoc, Nat.mul_assoc]
      omega
theorem val_drop (a : List Nat) (k : Nat) : val (a.drop k) = a[k]?.getD 0 + 4294967296 * val (a.drop (k + 1)) := by
  rcases Nat.lt_or_ge k a.length with hk | hk
  · rw [List.drop_eq_getElem_cons hk, val, List.getElem?_eq_getElem hk]; rfl
  · rw [List.drop_eq_nil_of_le hk, List.drop_eq_nil_of_le (by omega), List.getElem?_eq_none hk]; rfl
theorem val_take_drop (a : List Nat) (k : Nat) : val a = val (a.take k) + 4294967296 ^ k * val (a.drop k) := by
  rcases Nat.lt_or_ge k a.length with hk | hk
  · have := val_append (a.take k) (a.drop k)
    rw [List.take_append_drop] at this
    rwa [show (a.take k).length = k by simp; omega] at this
  · rw [List.take_of_length_le hk, List.drop_eq_nil_of_le hk]; simp [val]
/-- The next limb of a sum. -/
theorem add_step {P o c x y A B : Nat} (h : o + P * c = A + B) : (o + P * ((x + y + c) % 4294967296)) + P * 4294967296 * ((x + y + c) / 4294967296) = (A + P * x) + (B + P * y) := by
  have e := Nat.mod_add_div (x + y + c) 4294967296
  have e2 : P * ((x + y + c) % 4294967296) + P * 4294967296 * ((x + y + c) / 4294967296) = P * (x + y + c) := by
    rw [Nat.mul_assoc, ← Nat.mul_add, e]
  rw [Nat.mul_add, Nat.mul_add] at e2
  omega
/-- The next limb of a difference. -/
theorem sub_step {P o w x y A B z w' : Nat} (h : o + B = A + P * w) (hz : z + y + w = x + 4294967296 * w') : (o + P * z) + (B + P * y) = (A + P * x) + P * 4294967296 * w' := by
  have e2 : P * (z + y + w) = P * (x + 4294967296 * w') := by rw [hz]
  rw [Nat.mul_add, Nat.mul_add, Nat.mul_add, ← Nat.mul_assoc] at e2
  omega
theorem lims_len_pos {n : Nat} : 0 < (lims n).length ↔ n ≠ 0 := by
  constructor
  · rintro h rfl; simp [lims_zero] at h
  · intro h; rw [lims_pos h]; simp
/-- Numbers by their limbs from above. -/
theorem val_lt_of {a b : List Nat} (ha : Lim a) (hl : a.length = b.length) (i : Nat) (hs : a.drop (i + 1) = b.drop (i + 1)) (hi : i < a.length) (hx : a[i]?.getD 0 < b[i]?.getD 0) : val a < val b := by
  rw [val_take_drop a i, val_take_drop b i, val_drop a i, val_drop b i, hs]
  have h1 := val_lt (lim_take ha i)
  have h2 : (a.take i).length = i := by simp; omega
  rw [h2] at h1
  have hp := pow_pos' i
  generalize 4294967296 ^ i = P at *
  have h3 : P * (a[i]?.getD 0 + 1 + 4294967296 * val (b.drop (i + 1))) ≤ P * (b[i]?.getD 0 + 4294967296 * val (b.drop (i + 1))) := Nat.mul_le_mul_left _ (by omega)
  simp only [Nat.mul_add, Nat.mul_one] at h3 ⊢
  omega
theorem lt_len {n m : Nat} (h : (lims n).length < (lims m).length) : n < m := lims_len_lt h
theorem eq_of_drop {a b : List Nat} (h : a.drop 0 = b.drop 0) : a = b := by simpa using h
/-- Which of two is less. -/
def cmpN (a b : Nat) : Int := if a < b then -1 else if b < a then 1 else 0
/-- A division by one limb, from above. -/
theorem short_step {R x d q r A : Nat} (hA : A = q * d + R) (hr : r = (R * 4294967296 + x) % d) : x + 4294967296 * A = ((R * 4294967296 + x) / d + 4294967296 * q) * d + r := by
  subst hr
  have := Nat.div_add_mod (R * 4294967296 + x) d
  rw [Nat.add_mul, Nat.mul_assoc, Nat.mul_comm ((R * 4294967296 + x) / d) d]
  rw [hA, Nat.mul_add]
  omega
theorem short_lt {R x d : Nat} (hR : R < d) (hx : x < 4294967296) : (R * 4294967296 + x) / d < 4294967296 := by
  rw [Nat.div_lt_iff_lt_mul (by omega)]
  have : (R + 1) * 4294967296 ≤ d * 4294967296 := Nat.mul_le_mul_right _ (by omega)
  omega
/-- A shift to the right, limb by limb. -/
theorem shr_step (p q z l0 rest : Nat) (hp : 0 < p) (hpq : p * q = 4294967296) (hz : z < 4294967296) :
    ((z + 4294967296 * l0) / p) % 4294967296 + 4294967296 * ((l0 + 4294967296 * rest) / p) = (z + 4294967296 * (l0 + 4294967296 * rest)) / p := by
  have e1 : ∀ v : Nat, (z + 4294967296 * v) / p = z / p + q * v := fun v => by
    rw [← hpq, Nat.mul_assoc, Nat.add_mul_div_left _ _ hp]
  rw [e1, e1]
  have e2 : (l0 + 4294967296 * rest) / p = l0 / p + q * rest := by
    rw [← hpq, Nat.mul_assoc, Nat.add_mul_div_left _ _ hp]
  rw [e2]
  have hzq : z / p < q := by rw [Nat.div_lt_iff_lt_mul hp, Nat.mul_comm]; omega
  have e3 : q * l0 = 4294967296 * (l0 / p) + q * (l0 % p) := by
    have h := Nat.div_add_mod l0 p
    have : q * l0 = q * (p * (l0 / p) + l0 % p) := by rw [h]
    rw [this, Nat.mul_add, ← Nat.mul_assoc, Nat.mul_comm q p, hpq]
  have e4 : q * (l0 % p) + q ≤ 4294967296 := by
    have h1 : l0 % p + 1 ≤ p := Nat.mod_lt _ hp
    have h2 : q * (l0 % p + 1) ≤ q * p := Nat.mul_le_mul_left _ h1
    rw [Nat.mul_add, Nat.mul_one, Nat.mul_comm q p, hpq] at h2
    exact h2
  have e5 : (z / p + q * l0) % 4294967296 = z / p + q * (l0 % p) := by
    rw [e3, ← Nat.add_assoc, Nat.add_right_comm, Nat.add_mul_mod_self_left, Nat.mod_eq_of_lt (by omega)]
  rw [e5, Nat.mul_add, ← Nat.mul_assoc 4294967296 q rest, Nat.mul_comm 4294967296 q, Nat.mul_add q l0, e3, ← Nat.mul_assoc q 4294967296 rest]
  omega
def shrL (p : Nat) : List Nat → List Nat
  | [] => []
  | z :: l => ((z + 4294967296 * l.head?.getD 0) / p) % 4294967296 :: shrL p l
theorem val_head (l : List Nat) : val l = l.head?.getD 0 + 4294967296 * val l.tail := by
  cases l <;> simp [val]
theorem val_shrL (p q : Nat) (hp : 0 < p) (hpq : p * q = 4294967296) (a : List Nat) (h : Lim a) : val (shrL p a) = val a / p := by
  induction a with
  | nil => simp [shrL, val]
  | cons z l ih =>
    obtain ⟨hz, hl⟩ := lim_cons.1 h
    rw [shrL, val, ih hl, val, val_head l]
    exact shr_step p q z _ _ hp hpq hz
theorem len_shrL (p : Nat) (a : List Nat) : (shrL p a).length = a.length := by
  induction a with
  | nil => rfl
  | cons z l ih => simp [shrL, ih]
theorem lim_shrL (p : Nat) (a : List Nat) : Lim (shrL p a) := by
  induction a with
  | nil => exact lim_nil
  | cons z l ih => exact lim_cons.2 ⟨Nat.mod_lt _ (by decide), ih⟩
theorem shrL_get (p : Nat) (a : List Nat) (i : Nat) (hi : i < a.length) : (shrL p a)[i]?.getD 0 = ((a[i]?.getD 0 + 4294967296 * a[i + 1]?.getD 0) / p) % 4294967296 := by
  induction a generalizing i with
  | nil => simp at hi
  | cons z l ih =>
    cases i with
    | zero => cases l <;> simp [shrL]
    | succ i => simpa [shrL] using ih i (by simpa using hi)
/-! ### Knuth's division: one limb of the quotient -/
/-- The guess: from three limbs of the dividend and two of the divisor. -/
theorem guess_bounds {P U3 U' V2 V' q : Nat} (hU : U' < P) (hV : V' < P) (hq : q * V2 ≤ U3) (hmax : ∀ k, k < 4294967296 → k * V2 ≤ U3 → k ≤ q) (hqB : q < 4294967296) (hV2 : 4294967296 ≤ V2)
    (hUV : P * U3 + U' < (P * V2 + V') * 4294967296) : (P * U3 + U') / (P * V2 + V') ≤ q ∧ q ≤ (P * U3 + U') / (P * V2 + V') + 1 := by
  have hP : 0 < P := by omega
  have hVp : 0 < P * V2 + V' := by have := Nat.mul_pos hP (show 0 < V2 by omega); omega
  generalize hQ : (P * U3 + U') / (P * V2 + V') = Q
  have hQ1 : Q * (P * V2 + V') ≤ P * U3 + U' := by rw [← hQ]; exact Nat.div_mul_le_self _ _
  have hQ2 : Q < 4294967296 := by rw [← hQ, Nat.div_lt_iff_lt_mul hVp, Nat.mul_comm 4294967296]; exact hUV
  constructor
  · refine hmax Q hQ2 ?_
    have h1 : P * (Q * V2) ≤ Q * (P * V2 + V') := by rw [Nat.mul_add, Nat.mul_left_comm]; omega
    have h2 : P * (Q * V2) < P * (U3 + 1) := by rw [Nat.mul_add]; omega
    have := Nat.lt_of_mul_lt_mul_left h2
    omega
  · rcases Nat.eq_zero_or_pos q with h0 | h0
    · omega
    · have : (q - 1) * (P * V2 + V') ≤ P * U3 + U' := by
        have h1 : (q - 1) * (P * V2 + V') ≤ (q - 1) * (P * (V2 + 1)) := Nat.mul_le_mul_left _ (by rw [Nat.mul_add]; omega)
        have h2 : (q - 1) * (V2 + 1) ≤ U3 := by
          have : (q - 1) * (V2 + 1) + (V2 + 1) = q * (V2 + 1) := by
            rw [← Nat.succ_mul]; congr 1; omega
          rw [Nat.mul_add q] at this
          omega
        have h3 : (q - 1) * (P * (V2 + 1)) = P * ((q - 1) * (V2 + 1)) := Nat.mul_left_comm _ _ _
        have h4 : P * ((q - 1) * (V2 + 1)) ≤ P * U3 := Nat.mul_le_mul_left _ h2
        omega
      have h5 : q - 1 ≤ Q := by rw [← hQ]; exact (Nat.le_div_iff_mul_le hVp).2 this
      omega
end Go.Proofs.YtjdanblijcdllaaGreatDoor
