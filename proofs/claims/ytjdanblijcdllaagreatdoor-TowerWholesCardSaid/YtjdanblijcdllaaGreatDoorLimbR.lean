/- Limbs on paper: a product's rows, a long division's steps. No program in sight. -/
import Derived.Test.YtjdanblijcdllaaGreatDoorLimbQ
set_option linter.all false
namespace Go.Proofs.YtjdanblijcdllaaGreatDoor
theorem val_nil : val [] = 0 := rfl
theorem get_lt {a : List Nat} (h : Lim a) (i : Nat) : a[i]?.getD 0 ≤ 4294967295 := by have := lim_get h i; omega
/-- The next limb of a row of a product: 'O' is the list as it was, 'o' as it is. -/
theorem mul_step {i k : Nat} {x y c z vo vo' R B : Nat} (h : vo + 4294967296 ^ (i + k) * c = R + 4294967296 ^ i * (x * B))
    (hs : vo' + 4294967296 ^ (i + k) * z = vo + 4294967296 ^ (i + k) * ((x * y + z + c) % 4294967296)) :
    vo' + 4294967296 ^ (i + (k + 1)) * ((x * y + z + c) / 4294967296) = R + 4294967296 ^ i * (x * (B + 4294967296 ^ k * y)) := by
  have e := Nat.mod_add_div (x * y + z + c) 4294967296
  have e0 : 4294967296 ^ (i + (k + 1)) = 4294967296 ^ (i + k) * 4294967296 := by rw [← Nat.add_assoc, Nat.pow_succ]
  have e1 : 4294967296 ^ i * (x * (4294967296 ^ k * y)) = 4294967296 ^ (i + k) * (x * y) := by
    rw [Nat.pow_add, Nat.mul_assoc, Nat.mul_left_comm x]
  rw [e0, Nat.mul_add x, Nat.mul_add (4294967296 ^ i), e1]
  generalize 4294967296 ^ (i + k) = Q at *
  have e2 : Q * ((x * y + z + c) % 4294967296) + Q * 4294967296 * ((x * y + z + c) / 4294967296) = Q * (x * y + z + c) := by
    rw [Nat.mul_assoc, ← Nat.mul_add, e]
  rw [Nat.mul_add, Nat.mul_add] at e2
  omega
theorem mul_carry {x y z c : Nat} (hx : x < 4294967296) (hy : y < 4294967296) (hz : z < 4294967296) (hc : c < 4294967296) : x * y + z + c < 18446744073709551616 ∧ (x * y + z + c) / 4294967296 < 4294967296 := by
  have h : x * y ≤ 4294967295 * 4294967295 := Nat.mul_le_mul (by omega) (by omega)
  omega
/-! ### The window of a long division -/
/-- The rest of a sum of limbs behind a change of some in the middle. -/
theorem val_window (u : List Nat) (j n : Nat) : val u = val (u.take j) + 4294967296 ^ j * (val ((u.drop j).take n) + 4294967296 ^ n * val (u.drop (j + n))) := by
  rw [val_take_drop u j, val_take_drop (u.drop j) n, List.drop_drop]
/-- Taking the divisor so often away, limb by limb. -/
theorem take_step {P o c w x z q A V b' A' : Nat} (h : o + q * V = A + P * (c + w)) (hz : z + (q * x + c) % 4294967296 + w = b' * 4294967296 + A') :
    (o + P * z) + q * (V + P * x) = (A + P * A') + P * 4294967296 * ((q * x + c) / 4294967296 + b') := by
  have e := Nat.mod_add_div (q * x + c) 4294967296
  have e1 : q * (P * x) = P * (q * x) := Nat.mul_left_comm _ _ _
  have e2 : P * ((q * x + c) % 4294967296) + P * 4294967296 * ((q * x + c) / 4294967296) = P * (q * x + c) := by
    rw [Nat.mul_assoc, ← Nat.mul_add, e]
  have e3 : P * (z + (q * x + c) % 4294967296 + w) = P * (b' * 4294967296 + A') := by rw [hz]
  have e4 : P * (b' * 4294967296) = P * 4294967296 * b' := by rw [Nat.mul_comm b', Nat.mul_assoc]
  rw [Nat.mul_add] at e2
  rw [Nat.mul_add, Nat.mul_add, Nat.mul_add, e4] at e3
  rw [Nat.mul_add, e1, Nat.mul_add (P * 4294967296)]
  rw [Nat.mul_add] at h
  omega
/-- One limb of the quotient: it was taken so often, and given back once if that was too often. -/
theorem digit_ok {W W' V q b Bn : Nat} (h : W' + q * V = W + Bn * b) (hW' : W' < Bn) (hV : 0 < V) (h1 : W / V ≤ q) (h2 : q ≤ W / V + 1) :
    (b = 0 ∧ q = W / V ∧ W' = W % V) ∨ (b ≠ 0 ∧ q = W / V + 1 ∧ W' + V = W % V + Bn * b) := by
  have e := Nat.div_add_mod W V
  have hm := Nat.mod_lt W hV
  rw [Nat.mul_comm] at e
  rcases Nat.lt_or_ge (W / V) q with hq | hq
  · right
    have hq' : q = W / V + 1 := by omega
    refine ⟨?_, hq', ?_⟩
    · rintro rfl
      rw [hq', Nat.add_mul] at h
      omega
    · rw [hq', Nat.add_mul] at h
      omega
  · left
    have hq' : q = W / V := by omega
    have h3 : W' = W % V + Bn * b := by rw [hq'] at h; omega
    refine ⟨?_, hq', ?_⟩
    · rcases Nat.eq_zero_or_pos b with h0 | h0
      · exact h0
      · have : Bn ≤ Bn * b := Nat.le_mul_of_pos_right _ h0
        omega
    · rcases Nat.eq_zero_or_pos b with h0 | h0
      · rw [h3, h0]; simp
      · have : Bn ≤ Bn * b := Nat.le_mul_of_pos_right _ h0
        omega
theorem div_of {a q v r : Nat} (h : a = q * v + r) (hr : r < v) : a / v = q ∧ a % v = r := by
  subst h
  rw [Nat.mul_comm q v]
  constructor
  · rw [Nat.mul_add_div (by omega), Nat.div_eq_of_lt hr]; simp
  · rw [Nat.mul_add_mod]; exact Nat.mod_eq_of_lt hr
/-- As a long division ends, both numbers shifted. -/
theorem long_end {a b s q u : Nat} (hs : 0 < s) (h : a * s = q * (b * s) + u) (hu : u < b * s) : q = a / b ∧ u / s = a % b := by
  have h1 : u = (a % b) * s ∧ q = a / b := by
    have hb : 0 < b := by rcases Nat.eq_zero_or_pos b with h0 | h0; (subst h0; simp at hu); exact h0
    have e := Nat.div_add_mod a b
    have hm := Nat.mod_lt a hb
    have e2 : a * s = (a / b) * (b * s) + (a % b) * s := by
      rw [← Nat.mul_assoc, ← Nat.add_mul, Nat.mul_comm (a / b) b, e]
    have hr : (a % b) * s < b * s := Nat.mul_lt_mul_of_pos_right hm hs
    have d1 := div_of h hu
    have d2 := div_of e2 hr
    exact ⟨d1.2.symm.trans d2.2, d1.1.symm.trans d2.1⟩
  refine ⟨h1.2, ?_⟩
  rw [h1.1, Nat.mul_div_cancel _ hs]
theorem drop_get {C D : List Nat} {k : Nat} (h : C.drop k = D.drop k) : C[k]? = D[k]? := by
  have := congrArg (fun l : List Nat => l[0]?) h
  simpa using this
theorem take_set_succ (C : List Nat) (k z : Nat) (hk : k < C.length) : (C.set k z).take (k + 1) = C.take k ++ [z] := by
  rw [List.take_add_one, List.getElem?_set_self hk, List.take_set]
  simp only [Option.toList_some]
  congr 1
  exact List.set_eq_of_length_le (by simp; omega)
theorem drop_set_succ (C : List Nat) (k z : Nat) : (C.set k z).drop (k + 1) = C.drop (k + 1) := by
  rw [List.drop_set_of_lt (by omega)]
end Go.Proofs.YtjdanblijcdllaaGreatDoor
