/- Limbs on paper: bits, doublings, digits. No program in sight. -/
import Derived.Test.YtjdanblijcdllaaGreatDoorLimbR
set_option linter.all false
namespace Go.Proofs.YtjdanblijcdllaaGreatDoor
theorem val_take_lt {L : List Nat} (h : Lim L) (k : Nat) : val (L.take k) < 4294967296 ^ k := by
  have h1 := val_lt (lim_take h k)
  have h2 : (L.take k).length ≤ k := by simp; omega
  have h3 : 4294967296 ^ (L.take k).length ≤ 4294967296 ^ k := Nat.pow_le_pow_right (by decide) h2
  omega
theorem val_div_pow {L : List Nat} (h : Lim L) (k : Nat) : val L / 4294967296 ^ k = val (L.drop k) := by
  rw [val_take_drop L k, Nat.add_mul_div_left _ _ (pow_pos' k), Nat.div_eq_of_lt (val_take_lt h k), Nat.zero_add]
/-- One bit of a limb is one of the number. -/
theorem bit_of {L : List Nat} (h : Lim L) (k r : Nat) (hr : r < 32) : val L / 2 ^ (32 * k + r) % 2 = L[k]?.getD 0 / 2 ^ r % 2 := by
  have e1 : (2 : Nat) ^ (32 * k + r) = 4294967296 ^ k * 2 ^ r := by rw [Nat.pow_add, Nat.pow_mul]
  rw [e1, ← Nat.div_div_eq_div_mul, val_div_pow h, val_drop]
  generalize val (L.drop (k + 1)) = R
  generalize L[k]?.getD 0 = x
  have e2 : (4294967296 : Nat) = 2 ^ r * (2 * 2 ^ (31 - r)) := by
    rw [← Nat.pow_succ', ← Nat.pow_add, show r + (31 - r + 1) = 32 by omega]
  rw [e2, Nat.mul_assoc, Nat.add_mul_div_left _ _ (Nat.pow_pos (by decide)), Nat.mul_assoc]
  omega
theorem bit_of' {L : List Nat} (h : Lim L) (n : Nat) : val L / 2 ^ n % 2 = L[n / 32]?.getD 0 / 2 ^ (n % 32) % 2 := by
  have := bit_of h (n / 32) (n % 32) (Nat.mod_lt _ (by decide))
  rwa [Nat.div_add_mod] at this
/-- What stands above a bit, and the bit. -/
theorem half_step (N j : Nat) : N / 2 ^ j = 2 * (N / 2 ^ (j + 1)) + N / 2 ^ j % 2 := by
  rw [Nat.pow_succ, ← Nat.div_div_eq_div_mul]; omega
theorem all_bits {L : List Nat} (h : Lim L) : val L / 2 ^ (32 * L.length) = 0 := by
  have := val_lt h
  rw [Nat.div_eq_of_lt]
  rw [Nat.pow_mul]; exact this
theorem times_step {A M j b : Nat} (hb : M / 2 ^ j % 2 = b) : A * (M / 2 ^ (j + 1)) + A * (M / 2 ^ (j + 1)) + A * b = A * (M / 2 ^ j) := by
  have := half_step M j
  rw [hb] at this
  rw [this, Nat.mul_add, Nat.two_mul, Nat.mul_add]
/-- One bit more of a division. -/
theorem split_step {X X' D b : Nat} (hD : 0 < D) (hX : X' = 2 * X + b) (hb : b ≤ 1) :
    (D ≤ X % D + X % D + b → X' / D = X / D + X / D + 1 ∧ X' % D = X % D + X % D + b - D) ∧ (¬ D ≤ X % D + X % D + b → X' / D = X / D + X / D ∧ X' % D = X % D + X % D + b) := by
  have e := Nat.div_add_mod X D
  have hm := Nat.mod_lt X hD
  generalize X / D = q at *
  generalize X % D = r at *
  have e2 : X' = (q + q) * D + (r + r + b) := by
    rw [hX, ← e, Nat.add_mul, Nat.mul_comm D q]; omega
  constructor
  · intro h
    refine div_of (r := r + r + b - D) ?_ (by omega)
    rw [e2, Nat.add_mul (q + q) 1, Nat.one_mul]; omega
  · intro h
    exact div_of e2 (by omega)
theorem lims_len_of_le {n : Nat} {L : List Nat} (hL : Lim L) (h : n ≤ val L) : (lims n).length ≤ L.length :=
  Nat.le_trans (lims_len_le h) (lims_len_val hL)
theorem lims_one (x : Nat) : val [x] = x := by simp [val]
end Go.Proofs.YtjdanblijcdllaaGreatDoor
