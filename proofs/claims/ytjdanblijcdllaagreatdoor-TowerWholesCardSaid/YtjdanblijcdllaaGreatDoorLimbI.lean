/- Limbs on paper: the whole of a long division. No walk. -/
import Derived.Test.YtjdanblijcdllaaGreatDoorLimbH
import Derived.Lib.BitFns
set_option linter.all false
namespace Go.Proofs.YtjdanblijcdllaaGreatDoor
/-- How long a number is in bits. -/
theorem bitLen_bounds (x : Nat) (h0 : x ≠ 0) (h : x < 2 ^ 64) : 1 ≤ Lib.bitLen x ∧ 2 ^ (Lib.bitLen x - 1) ≤ x ∧ x < 2 ^ Lib.bitLen x := by
  induction x using Nat.strongRecOn with
  | _ x ih =>
    rw [Lib.bitLen_half x h0 h]
    by_cases h1 : x / 2 = 0
    · have hx : x = 1 := by omega
      subst hx
      decide
    · obtain ⟨i1, i2, i3⟩ := ih (x / 2) (by omega) h1 (by omega)
      refine ⟨by omega, ?_, ?_⟩
      · rw [show 1 + Lib.bitLen (x / 2) - 1 = (Lib.bitLen (x / 2) - 1) + 1 by omega, Nat.pow_succ]; omega
      · rw [Nat.add_comm, Nat.pow_succ]; omega
/-- The shift that makes a limb great. -/
theorem lz_bounds (x : Nat) (h0 : x ≠ 0) (h : x < 4294967296) : ∃ s : Nat, (32 - (Lib.bitLen x : Int)) = (s : Int) ∧ s < 32 ∧ 2147483648 ≤ x * 2 ^ s ∧ x * 2 ^ s < 4294967296 := by
  obtain ⟨h1, h2, h3⟩ := bitLen_bounds x h0 (by omega)
  have h4 : Lib.bitLen x ≤ 32 := by
    rcases Nat.lt_or_ge 32 (Lib.bitLen x) with h5 | h5
    · have : 2 ^ 32 ≤ 2 ^ (Lib.bitLen x - 1) := Nat.pow_le_pow_right (by decide) (by omega)
      omega
    · exact h5
  refine ⟨32 - Lib.bitLen x, by omega, by omega, ?_, ?_⟩
  · have : 2 ^ (Lib.bitLen x - 1) * 2 ^ (32 - Lib.bitLen x) = 2 ^ 31 := by rw [← Nat.pow_add]; congr 1; omega
    have h5 : 2 ^ (Lib.bitLen x - 1) * 2 ^ (32 - Lib.bitLen x) ≤ x * 2 ^ (32 - Lib.bitLen x) := Nat.mul_le_mul_right _ h2
    omega
  · have : 2 ^ Lib.bitLen x * 2 ^ (32 - Lib.bitLen x) = 2 ^ 32 := by rw [← Nat.pow_add]; congr 1; omega
    have h5 : x * 2 ^ (32 - Lib.bitLen x) < 2 ^ Lib.bitLen x * 2 ^ (32 - Lib.bitLen x) := Nat.mul_lt_mul_of_pos_right h3 (Nat.pow_pos (by decide))
    omega
/-- So many limbs of the quotient, from above. -/
structure LongInv (A V : Nat) (O C : List Nat) (k : Nat) : Prop where
  v : A = val (O.drop k) * (4294967296 ^ k * V) + val C
  lt : val (C.drop k) < V
/-- The part that is divided next. -/
theorem zero_of_lt {V P X Y l : Nat} (h1 : X < V) (hV : V < P) (h2 : X = l + P * Y) : Y = 0 := by
  rcases Nat.eq_zero_or_pos Y with h0 | h0
  · exact h0
  · have : P * 1 ≤ P * Y := Nat.mul_le_mul_left _ h0
    omega
theorem window_lt {x X V : Nat} (h5 : x < 4294967296) (h1 : X < V) : x + 4294967296 * X < V * 4294967296 := by
  have h6 : (X + 1) * 4294967296 ≤ V * 4294967296 := Nat.mul_le_mul_right _ h1
  omega
theorem LongInv.window {A V : Nat} {O C : List Nat} {j n : Nat} (h : LongInv A V O C (j + 1)) (hC : Lim C) (hV : V < 4294967296 ^ n) :
    val (C.drop j) = win C j (n + 1) ∧ win C j (n + 1) < V * 4294967296 ∧ val (C.drop (j + (n + 1))) = 0 := by
  have h2 := val_take_drop (C.drop (j + 1)) n
  rw [List.drop_drop] at h2
  have h3 : val (C.drop (j + 1 + n)) = 0 := zero_of_lt h.lt hV h2
  have e : val (C.drop j) = win C j (n + 1) := by
    have h4 := val_take_drop (C.drop j) (n + 1)
    rw [List.drop_drop, show j + (n + 1) = j + 1 + n from Nat.add_right_comm j n 1 ▸ rfl, h3, Nat.mul_zero, Nat.add_zero] at h4
    exact h4
  refine ⟨e, ?_, by rw [show j + (n + 1) = j + 1 + n from Nat.add_right_comm j n 1 ▸ rfl]; exact h3⟩
  rw [← e, val_drop C j]
  exact window_lt (lim_get hC j) h.lt
theorem drop_eq_of_get {C D : List Nat} {k : Nat} (h : ∀ i, k ≤ i → C[i]? = D[i]?) : C.drop k = D.drop k := by
  apply List.ext_getElem?
  intro i
  rw [List.getElem?_drop, List.getElem?_drop]
  exact h _ (by omega)
/-- One limb more. -/
theorem LongInv.next {A V : Nat} {O C D : List Nat} {j n : Nat} (h : LongInv A V O C (j + 1)) (hC : Lim C) (hV : V < 4294967296 ^ n) (hV0 : 0 < V) (hO : j < O.length) (hlo : D.take j = C.take j)
    (hhi : ∀ k, n + 1 + j ≤ k → D[k]? = C[k]?) (hw : win D j (n + 1) = win C j (n + 1) % V) : LongInv A V (O.set j (win C j (n + 1) / V)) D j := by
  obtain ⟨w1, w2, w3⟩ := h.window hC hV
  have hd : D.drop (j + (n + 1)) = C.drop (j + (n + 1)) := drop_eq_of_get fun i hi => hhi i (by omega)
  have hD : val (D.drop j) = win C j (n + 1) % V := by
    have h4 := val_take_drop (D.drop j) (n + 1)
    rw [List.drop_drop, hd, w3, Nat.mul_zero, Nat.add_zero] at h4
    rw [h4]; exact hw
  refine ⟨?_, by rw [hD]; exact Nat.mod_lt _ hV0⟩
  rw [h.v, val_drop (O.set j _) j, List.getElem?_set_self hO, drop_set_succ]
  simp only [Option.getD_some]
  rw [val_take_drop C j, val_take_drop D j, hlo, hD, w1]
  have e := Nat.div_add_mod (win C j (n + 1)) V
  generalize win C j (n + 1) / V = Q at *
  generalize win C j (n + 1) % V = r at *
  rw [← e]
  generalize val (O.drop (j + 1)) = X at *
  rw [Nat.pow_succ]
  generalize 4294967296 ^ j = P at *
  have e1 : X * (P * 4294967296 * V) = 4294967296 * X * (P * V) := by
    rw [Nat.mul_assoc P, Nat.mul_left_comm P, ← Nat.mul_assoc X, Nat.mul_comm X 4294967296]
  have e2 : P * (V * Q + r) = Q * (P * V) + P * r := by
    rw [Nat.mul_add, ← Nat.mul_assoc, Nat.mul_comm (P * V) Q]
  rw [e1, e2, Nat.add_mul]
  omega
/-- The window and the divisor, by their upper limbs. -/
theorem win_top (C : List Nat) (j n : Nat) : win C j (n + 3) = 4294967296 ^ n * ((C[n + 2 + j]?.getD 0 * 4294967296 + C[n + 1 + j]?.getD 0) * 4294967296 + C[n + j]?.getD 0) + win C j n := by
  rw [win_succ, win_succ, win_succ]
  simp only [Nat.pow_succ]
  generalize 4294967296 ^ n = P
  generalize C[n + 2 + j]?.getD 0 = x
  generalize C[n + 1 + j]?.getD 0 = y
  generalize C[n + j]?.getD 0 = z
  rw [Nat.mul_add, Nat.add_mul, Nat.mul_add]
  have e1 : P * (x * 4294967296 * 4294967296) = P * 4294967296 * 4294967296 * x := by
    rw [Nat.mul_assoc x, Nat.mul_comm x, ← Nat.mul_assoc, ← Nat.mul_assoc]
  have e2 : P * (y * 4294967296) = P * 4294967296 * y := by rw [Nat.mul_comm y, ← Nat.mul_assoc]
  rw [e1, e2]
  omega
theorem val_top (V : List Nat) (n : Nat) (h : V.length = n + 2) : val V = 4294967296 ^ n * (V[n + 1]?.getD 0 * 4294967296 + V[n]?.getD 0) + val (V.take n) := by
  have h1 := val_take_succ V (n + 1)
  rw [List.take_of_length_le (by omega), val_take_succ V n, Nat.pow_succ] at h1
  rw [h1]
  generalize 4294967296 ^ n = P
  generalize V[n + 1]?.getD 0 = y
  generalize V[n]?.getD 0 = z
  rw [Nat.mul_add]
  have e2 : P * (y * 4294967296) = P * 4294967296 * y := by rw [Nat.mul_comm y, ← Nat.mul_assoc]
  rw [e2]
  omega
/-- The guess serves. -/
theorem guess_serves {C V : List Nat} {j n q : Nat} (hV : Lim V) (hC : Lim C) (hn : V.length = n + 2) (hw : win C j (n + 3) < val V * 4294967296) (h1 : 0 < V[n + 1]?.getD 0) (hlen : n + j ≤ C.length)
    (h : GuessOk (C[n + 2 + j]?.getD 0 * 4294967296 + C[n + 1 + j]?.getD 0) (C[n + j]?.getD 0) (V[n + 1]?.getD 0) (V[n]?.getD 0) q) :
    win C j (n + 3) / val V ≤ q ∧ q ≤ win C j (n + 3) / val V + 1 := by
  rw [win_top, val_top V n hn] at hw ⊢
  have b1 : win C j n < 4294967296 ^ n := by
    unfold win
    have := val_lt (lim_take (lim_drop hC j) n)
    rwa [show ((C.drop j).take n).length = n by simp; omega] at this
  have b2 : val (V.take n) < 4294967296 ^ n := by
    have := val_lt (lim_take hV n)
    rwa [show (V.take n).length = n by simp; omega] at this
  exact guess_bounds b1 b2 h.le h.mx h.lt (by omega) hw
/-- Which digit of the guess it is. -/
theorem top_le {C V : List Nat} {j n : Nat} (hV : Lim V) (hn : V.length = n + 2) (hw : win C j (n + 3) < val V * 4294967296) : C[n + 2 + j]?.getD 0 ≤ V[n + 1]?.getD 0 := by
  rw [win_top, val_top V n hn] at hw
  have b2 : val (V.take n) < 4294967296 ^ n := by
    have := val_lt (lim_take hV n)
    rwa [show (V.take n).length = n by simp; omega] at this
  have b3 := lim_get hV n
  generalize C[n + 2 + j]?.getD 0 = x at *
  generalize C[n + 1 + j]?.getD 0 = y at *
  generalize C[n + j]?.getD 0 = z at *
  generalize V[n + 1]?.getD 0 = v1 at *
  generalize V[n]?.getD 0 = v2 at *
  generalize val (V.take n) = t at *
  generalize win C j n = u at *
  have h2 : 4294967296 ^ n * ((x * 4294967296 + y) * 4294967296 + z) < 4294967296 ^ n * ((v1 * 4294967296 + v2 + 1) * 4294967296) := by
    have e : 4294967296 ^ n * ((v1 * 4294967296 + v2 + 1) * 4294967296) = (4294967296 ^ n * (v1 * 4294967296 + v2) + 4294967296 ^ n) * 4294967296 := by
      rw [← Nat.mul_assoc, Nat.mul_add (4294967296 ^ n) (v1 * 4294967296 + v2) 1, Nat.mul_one]
    rw [e]
    omega
  have := Nat.lt_of_mul_lt_mul_left h2
  omega
theorem lims_ge {m l : Nat} (h : (lims m).length = l + 1) : 4294967296 ^ l ≤ m := by
  rcases Nat.lt_or_ge m (4294967296 ^ l) with h1 | h1
  · have := len_lims.2 h1; omega
  · exact h1
theorem lims_top {m l : Nat} (h : (lims m).length = l + 1) : 4294967296 ^ l * (lims m)[l]?.getD 0 ≤ m ∧ m < 4294967296 ^ l * ((lims m)[l]?.getD 0 + 1) := by
  have h1 := val_take_succ (lims m) l
  rw [List.take_of_length_le (by omega), val_lims] at h1
  have h2 := val_lt (lim_take (lim_lims m) l)
  rw [show ((lims m).take l).length = l by simp; omega] at h2
  rw [Nat.mul_add, Nat.mul_one]
  omega
/-- The divisor, shifted. -/
theorem shift_top {m l s x : Nat} (hl : (lims m).length = l + 2) (hx : x = (lims m)[l + 1]?.getD 0) (hs : s < 32) (h2 : 2147483648 ≤ x * 2 ^ s) (h3 : x * 2 ^ s < 4294967296) :
    4294967296 ^ (l + 1) * 2147483648 ≤ m * 2 ^ s ∧ m * 2 ^ s < 4294967296 ^ (l + 2) := by
  obtain ⟨t1, t2⟩ := lims_top (m := m) (l := l + 1) (by omega)
  rw [← hx] at t1 t2
  have hp : 0 < 2 ^ s := Nat.pow_pos (by decide)
  have hpq : 2 ^ s * 2 ^ (32 - s) = 4294967296 := by rw [← Nat.pow_add, show s + (32 - s) = 32 by omega]
  generalize 2 ^ s = p at *
  generalize 2 ^ (32 - s) = q at *
  have hxq : x < q := by
    rw [← hpq, Nat.mul_comm x] at h3
    exact Nat.lt_of_mul_lt_mul_left h3
  have hx1 : (x + 1) * p ≤ 4294967296 := by
    rw [← hpq, Nat.mul_comm p q]; exact Nat.mul_le_mul_right _ hxq
  rw [show l + 2 = (l + 1) + 1 from rfl, Nat.pow_succ 4294967296 (l + 1)]
  generalize 4294967296 ^ (l + 1) = P at *
  constructor
  · have e1 : P * 2147483648 ≤ P * (x * p) := Nat.mul_le_mul_left _ h2
    have e2 : P * x * p ≤ m * p := Nat.mul_le_mul_right _ t1
    rw [Nat.mul_assoc] at e2
    omega
  · have e1 : m * p < P * (x + 1) * p := Nat.mul_lt_mul_of_pos_right t2 hp
    have e2 : P * ((x + 1) * p) ≤ P * 4294967296 := Nat.mul_le_mul_left _ hx1
    rw [Nat.mul_assoc] at e1
    omega
/-- A list without its last limb, which is nought. -/
theorem val_cut {V0 : List Nat} {l N : Nat} (hv : val V0 = N) (hN : N < 4294967296 ^ l) : val (V0.take l) = N := by
  have h1 := val_take_drop V0 l
  have h2 : val (V0.drop l) = 0 := by
    rcases Nat.eq_zero_or_pos (val (V0.drop l)) with h0 | h0
    · exact h0
    · have : 4294967296 ^ l * 1 ≤ 4294967296 ^ l * val (V0.drop l) := Nat.mul_le_mul_left _ h0
      omega
  rw [h2, Nat.mul_zero] at h1
  omega
theorem top_ge {V : List Nat} {l : Nat} (hV : Lim V) (hl : V.length = l + 1) (h : 4294967296 ^ l * 2147483648 ≤ val V) : 2147483648 ≤ V[l]?.getD 0 := by
  have h1 := val_take_succ V l
  rw [List.take_of_length_le (by omega)] at h1
  have h2 := val_lt (lim_take hV l)
  rw [show (V.take l).length = l by simp; omega] at h2
  generalize V[l]?.getD 0 = t at *
  have h3 : 4294967296 ^ l * 2147483648 < 4294967296 ^ l * (t + 1) := by rw [Nat.mul_add, Nat.mul_one]; omega
  have := Nat.lt_of_mul_lt_mul_left h3
  omega
/-- As the long division begins. -/
theorem LongInv.start {n m l p : Nat} {U : List Nat} (hla : l + 2 ≤ (lims n).length) (hlb : (lims m).length = l + 2) (hp : 0 < p) (hU : val U = n * p) :
    LongInv (n * p) (m * p) (nils ((lims n).length - (l + 2) + 1)) U ((lims n).length - (l + 2) + 1) := by
  refine ⟨by rw [List.drop_of_length_le (by rw [len_nils]; exact Nat.le_refl _), hU]; simp [val], ?_⟩
  have h1 := val_take_drop U ((lims n).length - (l + 2) + 1)
  rw [hU] at h1
  have h2 : n < 4294967296 ^ (lims n).length := len_lims.1 (Nat.le_refl _)
  have h3 := lims_ge (m := m) (l := l + 1) (by omega)
  have h4 : 4294967296 ^ (lims n).length = 4294967296 ^ ((lims n).length - (l + 2) + 1) * 4294967296 ^ (l + 1) := by rw [← Nat.pow_add]; congr 1; omega
  rw [h4] at h2
  generalize 4294967296 ^ ((lims n).length - (l + 2) + 1) = P at *
  generalize 4294967296 ^ (l + 1) = Q at *
  have h5 : P * Q ≤ P * m := Nat.mul_le_mul_left _ h3
  have h6 : n * p < P * m * p := Nat.mul_lt_mul_of_pos_right (by omega) hp
  rw [Nat.mul_assoc] at h6
  have h7 : P * val (U.drop ((lims n).length - (l + 2) + 1)) < P * (m * p) := by omega
  exact Nat.lt_of_mul_lt_mul_left h7
/-- As it ends. -/
theorem LongInv.done {n m p : Nat} {O C : List Nat} (h : LongInv (n * p) (m * p) O C 0) (hp : 0 < p) : val O = n / m ∧ val C / p = n % m ∧ val C < m * p := by
  have h1 := h.v
  have h2 := h.lt
  simp only [List.drop_zero, Nat.pow_zero, Nat.one_mul] at h1 h2
  obtain ⟨h3, h4⟩ := long_end hp h1 h2
  exact ⟨h3, h4, h2⟩
/-- The digit that was taken: it was right, or one too great. -/
theorem given_back {W W1 W2 V Bn b b2 : Nat} (h1 : W1 + V = W % V + Bn * b) (h2 : W2 + Bn * b2 = W1 + V) (hW2 : W2 < Bn) (hV : 0 < V) (hVB : V ≤ Bn) : W2 = W % V := by
  have hm := Nat.mod_lt W hV
  rw [h1] at h2
  generalize W % V = r at *
  have hr : r < Bn := by omega
  rcases Nat.lt_trichotomy b b2 with hb | hb | hb
  · have : Bn * (b + 1) ≤ Bn * b2 := Nat.mul_le_mul_left _ hb
    rw [Nat.mul_add, Nat.mul_one] at this
    omega
  · subst hb; omega
  · have : Bn * (b2 + 1) ≤ Bn * b := Nat.mul_le_mul_left _ hb
    rw [Nat.mul_add, Nat.mul_one] at this
    omega
theorem win_lt {C : List Nat} {j n : Nat} (hC : Lim C) (h : n + j ≤ C.length) : win C j n < 4294967296 ^ n := by
  unfold win
  have := val_lt (lim_take (lim_drop hC j) n)
  rwa [show ((C.drop j).take n).length = n by simp; omega] at this
end Go.Proofs.YtjdanblijcdllaaGreatDoor
