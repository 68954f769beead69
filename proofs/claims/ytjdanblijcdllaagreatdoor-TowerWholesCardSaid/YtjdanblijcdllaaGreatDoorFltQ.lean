import Derived.Laws.FloatArith
/- Floating numbers: what a word of 64 bits stands for, in units of the least one; exact results; the order. No program in sight. -/
set_option linter.all false
namespace Go.Proofs.YtjdanblijcdllaaGreatDoor
open Ieee
/-- The magnitude of a rung, in units of the least number. -/
def magn (r : Nat) : Nat := if r < 4503599627370496 then r else (4503599627370496 + r % 4503599627370496) * 2 ^ (r / 4503599627370496 - 1)
/-- The word stands for a number. -/
def Fin64 (w : Nat) : Prop := w % 9223372036854775808 < 9218868437227405312
/-- The number, in units of the least one. -/
def num (w : Nat) : Int := if w / 9223372036854775808 % 2 = 1 then -(magn (w % 9223372036854775808) : Int) else (magn (w % 9223372036854775808) : Int)
/-- The leading part of a rung's magnitude, and what it is shifted by. -/
def rq (r : Nat) : Nat := if r < 4503599627370496 then r else 4503599627370496 + r % 4503599627370496
def re (r : Nat) : Nat := r / 4503599627370496 - 1
theorem magn_eq (r : Nat) : magn r = rq r * 2 ^ re r := by
  unfold magn rq re
  by_cases h : r < 4503599627370496
  · rw [if_pos h, if_pos h, show r / 4503599627370496 - 1 = 0 by omega]; simp
  · rw [if_neg h, if_neg h]
theorem rung_eq (r : Nat) : re r * 4503599627370496 + rq r = r := by
  unfold rq re
  by_cases h : r < 4503599627370496
  · rw [if_pos h]; omega
  · rw [if_neg h]; omega
theorem rq_lt (r : Nat) : rq r < 9007199254740992 := by
  unfold rq
  split <;> omega
theorem rq_ge (r : Nat) (h : re r ≠ 0) : 4503599627370496 ≤ rq r := by
  unfold rq; unfold re at h
  split <;> omega
theorem least : double.leastPlace = -1074 := by decide
theorem binade : double.binade = 4503599627370496 := by decide
theorem infR : double.infRung = 9218868437227405312 := by decide
theorem signW : double.signWeight = 9223372036854775808 := by decide
theorem read_fin {w : Nat} (h : Fin64 w) : double.read w = .number (w / 9223372036854775808 % 2 == 1) (rq (w % 9223372036854775808)) (-1074 + re (w % 9223372036854775808)) := by
  unfold Fin64 at h
  unfold Format.read rq re
  rw [least, binade, infR, signW]
  simp only
  by_cases h1 : w % 9223372036854775808 < 4503599627370496
  · rw [if_pos h1, if_pos h1, show w % 9223372036854775808 / 4503599627370496 - 1 = 0 by omega]; rfl
  · rw [if_neg h1, if_pos h, if_neg h1]
theorem signed_eq (s : Bool) (m k : Nat) : signed s m k = (if s then -1 else 1) * ((m * 2 ^ k : Nat) : Int) := by
  unfold signed
  rw [Nat.shiftLeft_eq]
  cases s <;> simp
theorem num_eq (w : Nat) : num w = (if (w / 9223372036854775808 % 2 == 1) then -1 else 1) * ((rq (w % 9223372036854775808) * 2 ^ re (w % 9223372036854775808) : Nat) : Int) := by
  unfold num
  rw [magn_eq]
  by_cases h : w / 9223372036854775808 % 2 = 1
  · rw [if_pos h, if_pos (by simpa using h)]; omega
  · rw [if_neg h, if_neg (by simpa using h)]; omega
theorem cmp_scale (a b : Int) (k : Nat) : compare (a * 2 ^ k) (b * 2 ^ k) = compare a b := by
  have hk : (0 : Int) < 2 ^ k := Int.pow_pos (by decide)
  have key : ∀ x y : Int, compare x y = if x < y then .lt else if x = y then .eq else .gt := fun _ _ => rfl
  rw [key, key]
  by_cases h : a < b
  · rw [if_pos h, if_pos (Int.mul_lt_mul_of_pos_right h hk)]
  · rw [if_neg h, if_neg (fun hc => h (Int.lt_of_mul_lt_mul_right hc (Int.le_of_lt hk)))]
    by_cases h2 : a = b
    · rw [if_pos h2, if_pos (by rw [h2])]
    · rw [if_neg h2, if_neg (fun hc => h2 (Int.eq_of_mul_eq_mul_right (by omega) hc))]
theorem log2_mul (n k : Nat) (h : n ≠ 0) : (n * 2 ^ k).log2 = n.log2 + k := by
  induction k with
  | zero => simp
  | succ k ih =>
    rw [Nat.pow_succ, ← Nat.mul_assoc, Nat.mul_comm _ 2, Nat.log2_two_mul (by have := Nat.two_pow_pos k; exact fun hc => by rcases Nat.mul_eq_zero.1 hc with h1 | h1 <;> omega), ih]
    omega
theorem order_fin {x y : Nat} (hx : Fin64 x) (hy : Fin64 y) : double.order x y = some (compare (num x) (num y)) := by
  unfold Format.order
  rw [read_fin hx, read_fin hy]
  simp only [Datum.order, Option.some.injEq]
  rw [signed_eq, signed_eq, num_eq, num_eq]
  generalize re (x % 9223372036854775808) = i
  generalize re (y % 9223372036854775808) = j
  generalize rq (x % 9223372036854775808) = m
  generalize rq (y % 9223372036854775808) = n
  generalize (if (x / 9223372036854775808 % 2 == 1) = true then (-1 : Int) else 1) = s
  generalize (if (y / 9223372036854775808 % 2 == 1) = true then (-1 : Int) else 1) = t
  have key : ∀ (u : Int) (m a b : Nat), b ≤ a → u * ((m * 2 ^ a : Nat) : Int) = u * ((m * 2 ^ (a - b) : Nat) : Int) * 2 ^ b := by
    intro u m a b h
    rw [Int.mul_assoc]
    congr 1
    rw [show a = (a - b) + b by omega, Nat.pow_add, Nat.add_sub_cancel, ← Nat.mul_assoc]
    push_cast
    rfl
  rcases Nat.le_total i j with h | h
  · rw [show min (-1074 + (i : Int)) (-1074 + (j : Int)) = -1074 + i by omega, show (-1074 + (i : Int) - (-1074 + i)).toNat = i - i by omega, show (-1074 + (j : Int) - (-1074 + i)).toNat = j - i by omega, key s m i i (Nat.le_refl _), key t n j i h, cmp_scale]
  · rw [show min (-1074 + (i : Int)) (-1074 + (j : Int)) = -1074 + j by omega, show (-1074 + (i : Int) - (-1074 + j)).toNat = i - j by omega, show (-1074 + (j : Int) - (-1074 + j)).toNat = j - j by omega, key s m i j h, key t n j j (Nat.le_refl _), cmp_scale]
/-- A cut where nothing is left over. -/
theorem cut_exact (way : Toward) (neg : Bool) (q drop : Nat) : way.cut neg (q * 2 ^ drop) drop = q := by
  unfold Toward.cut
  dsimp only
  by_cases hq : q = 0
  · subst hq
    simp only [Nat.zero_mul, Nat.zero_div, Nat.zero_mod]
    have h0 : ∀ k, 0 < 1 <<< k := fun k => by rw [Nat.shiftLeft_eq]; have := Nat.two_pow_pos k; omega
    have := h0 (min drop (Nat.log2 0 + 2))
    cases way <;> simp <;> omega
  · have hp := Nat.two_pow_pos drop
    have hl : drop ≤ (q * 2 ^ drop).log2 := by
      rw [Nat.le_log2 (by have := Nat.mul_pos (Nat.pos_of_ne_zero hq) hp; omega)]
      exact Nat.le_mul_of_pos_left _ (Nat.pos_of_ne_zero hq)
    rw [Nat.min_eq_left (by omega), Nat.shiftLeft_eq, Nat.one_mul, Nat.mul_div_cancel _ hp, Nat.mul_mod_left]
    cases way <;> simp <;> omega
/-- A number that the format has is written as it is. -/
theorem nearest_exact (neg : Bool) {mag r a b : Nat} {place : Int} (hr : r < 9218868437227405312) (h : mag * 2 ^ a = magn r * 2 ^ b) (hp : place = (a : Int) - b - 1074) : double.nearest neg mag place = double.word neg r := by
  rw [magn_eq] at h
  have hre := rung_eq r
  have hql := rq_lt r
  have hqg := rq_ge r
  unfold Format.nearest
  rw [least, binade, infR]
  by_cases hm : mag = 0
  · subst hm
    have hq0 : rq r = 0 := by
      rw [Nat.zero_mul] at h
      rcases Nat.mul_eq_zero.1 h.symm with h | h
      · rcases Nat.mul_eq_zero.1 h with h | h
        · exact h
        · have := Nat.two_pow_pos (re r); omega
      · have := Nat.two_pow_pos b; omega
    have : r = 0 := by
      by_cases he : re r = 0
      · rw [he, hq0] at hre
        exact (by simpa using hre.symm)
      · exact absurd (hqg he) (by rw [hq0]; decide)
    rw [this]
    exact if_pos rfl
  rw [if_neg hm]
  have hq0 : rq r ≠ 0 := by
    intro hq
    rw [hq, Nat.zero_mul, Nat.zero_mul] at h
    rcases Nat.mul_eq_zero.1 h with h | h
    · exact hm h
    · have := Nat.two_pow_pos a; omega
  have hlog : mag.log2 + a = (rq r).log2 + re r + b := by
    have e1 : (mag * 2 ^ a).log2 = mag.log2 + a := log2_mul _ _ hm
    have e2 : (rq r * 2 ^ re r * 2 ^ b).log2 = (rq r).log2 + re r + b := by
      rw [Nat.mul_assoc, ← Nat.pow_add, log2_mul _ _ hq0]; omega
    rw [← e1, h, e2]
  have hlq : (rq r).log2 ≤ 52 := by
    have := (Nat.log2_lt hq0 (k := 53)).2 (by simpa using hql)
    omega
  have hlq2 : re r ≠ 0 → (rq r).log2 = 52 := fun he => by
    have := (Nat.le_log2 hq0 (k := 52)).2 (by simpa using hqg he)
    omega
  have hlast : max (place + (mag.log2 : Int) - ((double.fractionBits : Nat) : Int)) (-1074) = (re r : Int) - 1074 := by
    show max (place + (mag.log2 : Int) - ((52 : Nat) : Int)) (-1074) = (re r : Int) - 1074
    by_cases he : re r = 0
    · rw [he] at hlog ⊢; omega
    · have := hlq2 he; omega
  simp only
  rw [hlast]
  have hkept : Toward.even.cut neg (mag <<< (place - ((re r : Int) - 1074)).toNat) (((re r : Int) - 1074) - place).toNat = rq r := by
    rcases Nat.le_total (re r + b) a with hab | hab
    · rw [show (((re r : Int) - 1074) - place).toNat = 0 by omega, show (place - ((re r : Int) - 1074)).toNat = a - (re r + b) by omega, Nat.shiftLeft_eq]
      have : mag * 2 ^ (a - (re r + b)) = rq r := by
        have hk : 0 < 2 ^ (re r + b) := Nat.two_pow_pos _
        refine Nat.eq_of_mul_eq_mul_right hk ?_
        rw [Nat.mul_assoc, ← Nat.pow_add, show a - (re r + b) + (re r + b) = a by omega, h, Nat.mul_assoc, ← Nat.pow_add]
      rw [this]
      have := cut_exact .even neg (rq r) 0
      simpa using this
    · rw [show (place - ((re r : Int) - 1074)).toNat = 0 by omega, show (((re r : Int) - 1074) - place).toNat = re r + b - a by omega, Nat.shiftLeft_zero]
      have : mag = rq r * 2 ^ (re r + b - a) := by
        have hk : 0 < 2 ^ a := Nat.two_pow_pos _
        refine Nat.eq_of_mul_eq_mul_right hk ?_
        rw [h, Nat.mul_assoc, Nat.mul_assoc, ← Nat.pow_add, ← Nat.pow_add, show re r + b - a + a = re r + b by omega]
      rw [this]
      exact cut_exact .even neg _ _
  rw [hkept, show ((re r : Int) - 1074 - -1074).toNat = re r by omega, hre, Nat.min_eq_left (by omega)]
/-- A magnitude of few digits is some rung's. -/
theorem rung_of {q e : Nat} (hq : q < 9007199254740992) (hq0 : q ≠ 0) (he : e ≤ 2045) (h52 : 52 ≤ q.log2 + e) : ∃ r, r < 9218868437227405312 ∧ magn r = q * 2 ^ e := by
  have hl : q.log2 ≤ 52 := by have := (Nat.log2_lt hq0 (k := 53)).2 (by simpa using hq); omega
  have hlo : 2 ^ q.log2 ≤ q := Nat.log2_self_le hq0
  have hhi : q < 2 ^ (q.log2 + 1) := Nat.lt_log2_self
  obtain ⟨d, hd⟩ : ∃ d, d = 52 - q.log2 := ⟨_, rfl⟩
  have p1 : 2 ^ q.log2 * 2 ^ d = 4503599627370496 := by rw [← Nat.pow_add, show q.log2 + d = 52 by omega]
  have p2 : 2 ^ (q.log2 + 1) * 2 ^ d = 9007199254740992 := by rw [← Nat.pow_add, show q.log2 + 1 + d = 53 by omega]
  obtain ⟨t, ht⟩ : ∃ t, t = q * 2 ^ d := ⟨_, rfl⟩
  have t1 : 4503599627370496 ≤ t := by rw [ht, ← p1]; exact Nat.mul_le_mul_right _ hlo
  have t2 : t < 9007199254740992 := by rw [ht, ← p2]; exact Nat.mul_lt_mul_of_pos_right hhi (Nat.two_pow_pos d)
  have hed : d ≤ e := by omega
  refine ⟨(e - d + 1) * 4503599627370496 + (t - 4503599627370496), by omega, ?_⟩
  unfold magn
  rw [if_neg (by omega), show ((e - d + 1) * 4503599627370496 + (t - 4503599627370496)) % 4503599627370496 = t - 4503599627370496 by omega, show ((e - d + 1) * 4503599627370496 + (t - 4503599627370496)) / 4503599627370496 - 1 = e - d by omega, show 4503599627370496 + (t - 4503599627370496) = t by omega, ht, Nat.mul_assoc, ← Nat.pow_add, show d + (e - d) = e by omega]
theorem num_word (neg : Bool) {r : Nat} (hr : r < 9218868437227405312) : Fin64 (double.word neg r) ∧ num (double.word neg r) = (if neg then -1 else 1) * (magn r : Int) := by
  unfold Format.word Fin64 num
  rw [signW]
  cases neg with
  | false =>
    simp only [Bool.false_eq_true, if_false]
    rw [show r % 9223372036854775808 = r by omega, show r / 9223372036854775808 = 0 by omega]
    simp
    exact hr
  | true =>
    simp only [if_true]
    rw [show (9223372036854775808 + r) % 9223372036854775808 = r by omega, show (9223372036854775808 + r) / 9223372036854775808 = 1 by omega]
    refine ⟨hr, ?_⟩
    simp
end Go.Proofs.YtjdanblijcdllaaGreatDoor
/- Floating numbers made whole: floor, trunc, the nearest. No program in sight. -/
namespace Go.Proofs.YtjdanblijcdllaaGreatDoor
open Ieee
/-- The least number's place, and its units in one. -/
@[irreducible] def B1 : Nat := 1074
theorem B1_eq : B1 = 1074 := by unfold B1; rfl
def U1 : Nat := 2 ^ B1
theorem U1_pos : 0 < U1 := Nat.two_pow_pos _
/-- The magnitude of a word, in units of the least number. -/
def fmg (w : Nat) : Nat := magn (w % 9223372036854775808)
def fsg (w : Nat) : Bool := w / 9223372036854775808 % 2 == 1
theorem num_fmg (w : Nat) : num w = if fsg w then -(fmg w : Int) else fmg w := by
  unfold num fmg fsg
  by_cases h : w / 9223372036854775808 % 2 = 1
  · rw [if_pos h, if_pos (by simpa using h)]
  · rw [if_neg h, if_neg (by simpa using h)]
/-- Is one more taken? -/
def moreB (way : Toward) (s : Bool) (gap low rest : Nat) : Bool :=
  match way with | .even => gap < 2 * rest || (gap == 2 * rest && low % 2 == 1) | .down => s && rest != 0 | .up => !s && rest != 0 | .zero => false
theorem beqd (a b : Nat) : (a == b) = decide (a = b) := by by_cases h : a = b <;> simp [h]
theorem moreB_far (way : Toward) (s : Bool) {g g' low low' rest : Nat} (h : 2 * rest < g) (h' : 2 * rest < g') : moreB way s g low rest = moreB way s g' low' rest := by
  unfold moreB
  cases way with
  | even =>
    have e1 : ¬ g < 2 * rest := by omega
    have e2 : ¬ g' < 2 * rest := by omega
    have e3 : ¬ g = 2 * rest := by omega
    have e4 : ¬ g' = 2 * rest := by omega
    simp only [beqd, e1, e2, e3, e4, decide_false, Bool.false_and, Bool.or_false]
  | down => rfl
  | up => rfl
  | zero => rfl
theorem moreB_scale (way : Toward) (s : Bool) {g low rest p : Nat} (hp : 0 < p) : moreB way s (g * p) low (rest * p) = moreB way s g low rest := by
  have h1 : (g * p < 2 * (rest * p)) ↔ g < 2 * rest := by
    rw [← Nat.mul_assoc]; exact Nat.mul_lt_mul_right hp
  have h2 : (g * p = 2 * (rest * p)) ↔ g = 2 * rest := by
    rw [← Nat.mul_assoc]; exact ⟨fun h => Nat.eq_of_mul_eq_mul_right hp h, fun h => congrArg (· * p) h⟩
  have h3 : (rest * p = 0) ↔ rest = 0 := by
    constructor
    · intro h
      rcases Nat.mul_eq_zero.1 h with h | h
      · exact h
      · omega
    · intro h; rw [h, Nat.zero_mul]
  unfold moreB
  cases way with
  | even => simp only [beqd, decide_eq_decide.2 h1, decide_eq_decide.2 h2]
  | down => simp only [bne, beqd, decide_eq_decide.2 h3]
  | up => simp only [bne, beqd, decide_eq_decide.2 h3]
  | zero => rfl
theorem cut_plain (way : Toward) (s : Bool) (n drop : Nat) : way.cut s n drop = n / 2 ^ drop + (moreB way s (2 ^ drop) (n / 2 ^ drop) (n % 2 ^ drop)).toNat := by
  unfold Toward.cut
  dsimp only
  rcases Nat.le_total drop (n.log2 + 2) with hl | hl
  · rw [Nat.min_eq_left hl, Nat.shiftLeft_eq, Nat.one_mul]
    rfl
  · rw [Nat.min_eq_right hl, Nat.shiftLeft_eq, Nat.one_mul]
    have hn2 : n < 2 ^ (n.log2 + 1) := Nat.lt_log2_self
    have hn3 : 2 ^ (n.log2 + 2) = 2 ^ (n.log2 + 1) * 2 := Nat.pow_succ ..
    have hn4 : 2 ^ (n.log2 + 2) ≤ 2 ^ drop := Nat.pow_le_pow_right (by decide) hl
    generalize 2 ^ (n.log2 + 2) = G at *
    generalize 2 ^ (n.log2 + 1) = H at *
    generalize 2 ^ drop = D at *
    rw [Nat.div_eq_of_lt (show n < G by omega), Nat.div_eq_of_lt (show n < D by omega), Nat.mod_eq_of_lt (show n < G by omega), Nat.mod_eq_of_lt (show n < D by omega)]
    congr 2
    exact moreB_far way s (g := G) (g' := D) (low := 0) (low' := 0) (by omega) (by omega)
/-- A magnitude made whole. -/
def mkWh (way : Toward) (s : Bool) (X : Nat) : Nat := X / U1 + (moreB way s U1 (X / U1) (X % U1)).toNat
theorem mkWh_le (way : Toward) (s : Bool) (X : Nat) : mkWh way s X ≤ X / U1 + 1 := by
  unfold mkWh
  cases moreB way s U1 (X / U1) (X % U1) <;> simp
theorem moreB_zero (way : Toward) (s : Bool) {g low : Nat} (hg : 0 < g) : moreB way s g low 0 = false := by
  unfold moreB
  cases way with
  | even =>
    have : ¬ g = 0 := by omega
    simp [this]
  | down => simp
  | up => simp
  | zero => rfl
theorem mkWh_whole (way : Toward) (s : Bool) (q : Nat) : mkWh way s (q * U1) = q := by
  unfold mkWh
  rw [Nat.mul_div_cancel _ U1_pos, Nat.mul_mod_left, moreB_zero _ _ U1_pos]; rfl
theorem integral_fin (way : Toward) {w : Nat} (h : Fin64 w) : (double.read w).integral way = .number (fsg w) (mkWh way (fsg w) (fmg w)) 0 := by
  rw [read_fin h]
  unfold fmg
  rw [magn_eq]
  change Datum.number (fsg w) (way.cut (fsg w) _ _) 0 = _
  generalize fsg w = s
  generalize rq (w % 9223372036854775808) = n
  generalize re (w % 9223372036854775808) = e
  congr 1
  have hb := B1_eq
  rw [cut_plain]
  rcases Nat.le_total B1 e with he | he
  · rw [show (-(-1074 + (e : Int))).toNat = 0 by omega, show (-1074 + (e : Int)).toNat = e - B1 by omega, Nat.shiftLeft_eq, Nat.pow_zero, Nat.div_one, Nat.mod_one, moreB_zero _ _ (by decide)]
    have h2 : n * 2 ^ e = n * 2 ^ (e - B1) * U1 := by unfold U1; rw [Nat.mul_assoc, ← Nat.pow_add, show e - B1 + B1 = e by omega]
    rw [h2, mkWh_whole]; rfl
  · obtain ⟨d, hd, rfl⟩ : ∃ d, d ≤ B1 ∧ e = B1 - d := ⟨B1 - e, by omega, by omega⟩
    rw [show (-(-1074 + ((B1 - d : Nat) : Int))).toNat = d by omega, show (-1074 + ((B1 - d : Nat) : Int)).toNat = 0 by omega, Nat.shiftLeft_zero]
    have hU : U1 = 2 ^ d * 2 ^ (B1 - d) := by unfold U1; rw [← Nat.pow_add, show d + (B1 - d) = B1 by omega]
    have hp : 0 < 2 ^ (B1 - d) := Nat.two_pow_pos _
    unfold mkWh
    rw [hU, Nat.mul_div_mul_right _ _ hp, Nat.mul_mod_mul_right, moreB_scale _ _ hp]
/-- A number made whole is one of the format's. -/
theorem whole_bits (way : Toward) {w : Nat} (h : Fin64 w) : ∃ r, r < 9218868437227405312 ∧ magn r = mkWh way (fsg w) (fmg w) * U1 ∧ double.write ((double.read w).integral way) = double.word (fsg w) r := by
  rw [integral_fin way h]
  have key : ∃ r, r < 9218868437227405312 ∧ magn r = mkWh way (fsg w) (fmg w) * U1 := by
    have hq := rq_lt (w % 9223372036854775808)
    have hm : fmg w = rq (w % 9223372036854775808) * 2 ^ re (w % 9223372036854775808) := magn_eq _
    have hb := B1_eq
    rcases Nat.lt_or_ge (re (w % 9223372036854775808)) B1 with he | he
    · have hX : fmg w / U1 < 4503599627370496 + 1 := by
        rw [hm]
        refine (Nat.div_lt_iff_lt_mul U1_pos).2 ?_
        unfold U1
        have h1 : 2 ^ re (w % 9223372036854775808) ≤ 2 ^ (B1 - 1) := Nat.pow_le_pow_right (by decide) (by omega)
        have h2 : (2 : Nat) ^ B1 = 2 ^ (B1 - 1) * 2 := by rw [← Nat.pow_succ, show (B1 - 1).succ = B1 by omega]
        have h3 := Nat.mul_le_mul (Nat.le_of_lt hq) h1
        have h4 : 0 < 2 ^ (B1 - 1) := Nat.two_pow_pos _
        rw [h2]
        generalize 2 ^ (B1 - 1) = P at *
        generalize rq (w % 9223372036854775808) * 2 ^ re (w % 9223372036854775808) = Q at *
        omega
      have hI := mkWh_le way (fsg w) (fmg w)
      by_cases h0 : mkWh way (fsg w) (fmg w) = 0
      · exact ⟨0, by decide, by rw [h0, Nat.zero_mul]; rfl⟩
      · exact rung_of (e := B1) (by omega) h0 (by omega) (by omega)
    · refine ⟨w % 9223372036854775808, h, ?_⟩
      have h2 : fmg w = rq (w % 9223372036854775808) * 2 ^ (re (w % 9223372036854775808) - B1) * U1 := by
        rw [hm]; unfold U1; rw [Nat.mul_assoc, ← Nat.pow_add, show re (w % 9223372036854775808) - B1 + B1 = re (w % 9223372036854775808) by omega]
      rw [h2, mkWh_whole]
      exact h2
  obtain ⟨r, hr, hm⟩ := key
  exact ⟨r, hr, hm, nearest_exact (a := B1) (b := 0) _ hr (by rw [hm, Nat.pow_zero, Nat.mul_one]; rfl) (by have := B1_eq; omega)⟩
/-- The floor, as a word. -/
def floorW (w : Nat) : Nat := double.write ((double.read w).integral .down)
def truncW (w : Nat) : Nat := double.write ((double.read w).integral .zero)
def evenW (w : Nat) : Nat := double.write ((double.read w).integral .even)
theorem floor_num {w : Nat} (h : Fin64 w) : Fin64 (floorW w) ∧ num (floorW w) = num w / U1 * U1 := by
  obtain ⟨r, hr, hm, he⟩ := whole_bits .down h
  unfold floorW
  rw [he]
  obtain ⟨h1, h2⟩ := num_word (fsg w) hr
  refine ⟨h1, ?_⟩
  rw [h2, hm, num_fmg]
  have hU := U1_pos
  generalize fmg w = X
  generalize fsg w = s
  unfold mkWh moreB
  generalize U1 = U at *
  have hdm := Nat.div_add_mod X U
  have hml := Nat.mod_lt X hU
  cases s with
  | false =>
    simp only [Bool.false_eq_true, if_false, Bool.false_and, Bool.toNat_false, Nat.add_zero]
    push_cast; rw [Int.one_mul]
  | true =>
    simp only [if_true, Bool.true_and]
    by_cases hr0 : X % U = 0
    · have e1 : (-(X : Int)) / U = -((X / U : Nat) : Int) := by
        rw [show X = X / U * U by rw [Nat.mul_comm]; omega]
        rw [Nat.mul_div_cancel _ hU]
        push_cast
        rw [← Int.neg_mul, Int.mul_ediv_cancel _ (by omega)]
      rw [e1, hr0]
      simp only [bne_self_eq_false, Bool.toNat_false, Nat.add_zero]
      push_cast
      rw [Int.neg_mul, Int.neg_mul, Int.one_mul]
    · have e1 : (-(X : Int)) / U = -((X / U : Nat) : Int) - 1 := by
        have hb : (X : Int) = (U : Int) * ((X / U : Nat) : Int) + ((X % U : Nat) : Int) := by rw [← Int.natCast_mul, ← Int.natCast_add, hdm]
        rw [show -(X : Int) = ((U : Int) - ((X % U : Nat) : Int)) + (-((X / U : Nat) : Int) - 1) * U by rw [hb, Int.sub_mul, Int.neg_mul, Int.mul_comm (U : Int)]; omega]
        rw [Int.add_mul_ediv_right _ _ (by omega), Int.ediv_eq_zero_of_lt (by omega) (by omega)]
        omega
      rw [e1]
      have : (X % U != 0) = true := by simpa using hr0
      rw [this]
      simp only [Bool.toNat_true]
      push_cast
      generalize (X : Int) / (U : Int) = Q
      rw [show -Q - 1 = -(Q + 1) by omega, Int.neg_mul, Int.neg_mul, Int.one_mul]
theorem trunc_num {w : Nat} (h : Fin64 w) : Fin64 (truncW w) ∧ num (truncW w) = (if fsg w then -1 else 1) * ((fmg w / U1 * U1 : Nat) : Int) := by
  obtain ⟨r, hr, hm, he⟩ := whole_bits .zero h
  unfold truncW
  rw [he]
  obtain ⟨h1, h2⟩ := num_word (fsg w) hr
  refine ⟨h1, ?_⟩
  rw [h2, hm]
  rfl
end Go.Proofs.YtjdanblijcdllaaGreatDoor
/- Floating numbers: one key for each word that is a number or an infinity; the order goes by it. No program in sight. -/
namespace Go.Proofs.YtjdanblijcdllaaGreatDoor
open Ieee
def isNan (w : Nat) : Bool := decide (9218868437227405312 < w % 9223372036854775808)
@[irreducible] def B2 : Nat := 4294967296 ^ 64
theorem B2_eq : B2 = 4294967296 ^ 64 := by unfold B2; rfl
/-- More than any number that is told. -/
def BIG : Nat := B2 * U1
/-- What a word is ordered by. -/
def keyF (w : Nat) : Int := if w % 9223372036854775808 < 9218868437227405312 then num w else if fsg w then -(BIG : Int) else BIG
theorem keyF_fin {w : Nat} (h : Fin64 w) : keyF w = num w := if_pos h
theorem magn_lt {r : Nat} (h : r < 9218868437227405312) : magn r < BIG := by
  rw [magn_eq]
  have hq := rq_lt r
  have he : re r ≤ 2045 := by unfold re; omega
  obtain ⟨k, hk⟩ : ∃ k, k = 971 := ⟨_, rfl⟩
  obtain ⟨j, hj⟩ : ∃ j, j = 64 := ⟨_, rfl⟩
  have h1 : 2 ^ re r ≤ 2 ^ k * U1 := by
    unfold U1
    rw [← Nat.pow_add]
    exact Nat.pow_le_pow_right (by decide) (by have := B1_eq; omega)
  have h2 : (9007199254740992 : Nat) * 2 ^ k < B2 := by
    rw [B2_eq, ← hj]
    calc (9007199254740992 : Nat) * 2 ^ k = 2 ^ (53 + k) := by rw [Nat.pow_add]
      _ < 2 ^ (32 * j) := Nat.pow_lt_pow_right (by decide) (by omega)
      _ = 4294967296 ^ j := by rw [Nat.pow_mul]
  unfold BIG
  calc rq r * 2 ^ re r ≤ 9007199254740992 * 2 ^ re r := Nat.mul_le_mul_right _ (Nat.le_of_lt hq)
    _ ≤ 9007199254740992 * (2 ^ k * U1) := Nat.mul_le_mul_left _ h1
    _ = 9007199254740992 * 2 ^ k * U1 := by rw [Nat.mul_assoc]
    _ < B2 * U1 := Nat.mul_lt_mul_of_pos_right h2 U1_pos
theorem num_lt {w : Nat} (h : Fin64 w) : -(BIG : Int) < num w ∧ num w < BIG := by
  have := magn_lt h
  rw [num_fmg]
  unfold fmg
  split <;> omega
theorem read_inf {w : Nat} (h : w % 9223372036854775808 = 9218868437227405312) : double.read w = .infinity (fsg w) := by
  unfold Format.read fsg
  rw [binade, infR, signW]
  simp only
  rw [if_neg (by omega), if_neg (by omega), if_pos h]
theorem read_nan {w : Nat} (h : isNan w = true) : ∃ f, double.read w = .nan (fsg w) f := by
  unfold isNan at h
  simp only [decide_eq_true_eq] at h
  unfold Format.read fsg
  rw [binade, infR, signW]
  simp only
  rw [if_neg (by omega), if_neg (by omega), if_neg (by omega)]
  exact ⟨_, rfl⟩
theorem not_nan {w : Nat} (h : isNan w = false) : Fin64 w ∨ w % 9223372036854775808 = 9218868437227405312 := by
  unfold isNan at h
  simp only [decide_eq_false_iff_not] at h
  unfold Fin64
  omega
theorem key_inf {w : Nat} (h : w % 9223372036854775808 = 9218868437227405312) : keyF w = if fsg w then -(BIG : Int) else BIG := if_neg (by omega)
theorem fcmpI (x y : Int) : compare x y = if x < y then .lt else if x = y then .eq else .gt := rfl
theorem order_nan_l {x y : Nat} (h : isNan x = true) : double.order x y = none := by
  obtain ⟨f, hf⟩ := read_nan h
  unfold Format.order
  rw [hf]; rfl
theorem order_nan_r {x y : Nat} (h : isNan y = true) : double.order x y = none := by
  obtain ⟨f, hf⟩ := read_nan h
  unfold Format.order
  rw [hf]
  cases double.read x <;> rfl
theorem order_key {x y : Nat} (hx : isNan x = false) (hy : isNan y = false) : double.order x y = some (compare (keyF x) (keyF y)) := by
  have hB : (0 : Int) < (BIG : Int) := by
    have h1 := U1_pos
    have h2 : 0 < B2 := by rw [B2_eq]; exact Nat.pow_pos (by decide)
    unfold BIG
    exact Int.natCast_pos.2 (Nat.mul_pos h2 h1)
  rcases not_nan hx with hx | hx
  · rcases not_nan hy with hy | hy
    · rw [order_fin hx hy, keyF_fin hx, keyF_fin hy]
    · have := num_lt hx
      rw [keyF_fin hx, key_inf hy]
      unfold Format.order
      rw [read_fin hx, read_inf hy]
      rw [fcmpI]
      cases fsg y with
      | true => simp only [Datum.order, if_true]; rw [if_neg (by omega), if_neg (by omega)]
      | false => simp only [Datum.order, Bool.false_eq_true, if_false]; rw [if_pos (by omega)]
  · rcases not_nan hy with hy | hy
    · have := num_lt hy
      rw [keyF_fin hy, key_inf hx]
      unfold Format.order
      rw [read_fin hy, read_inf hx]
      rw [fcmpI]
      cases fsg x with
      | true => simp only [Datum.order, if_true]; rw [if_pos (by omega)]
      | false => simp only [Datum.order, Bool.false_eq_true, if_false]; rw [if_neg (by omega), if_neg (by omega)]
    · rw [key_inf hx, key_inf hy]
      unfold Format.order
      rw [read_inf hy, read_inf hx]
      rw [fcmpI]
      cases fsg x <;> cases fsg y <;> simp only [Datum.order, if_true, Bool.false_eq_true, if_false]
      · rw [if_neg (by omega)]; rfl
      · rw [if_neg (by omega), if_neg (by omega)]; rfl
      · rw [if_pos (by omega)]; rfl
      · rw [if_neg (by omega)]; rfl
end Go.Proofs.YtjdanblijcdllaaGreatDoor
/- Floating numbers: that nearest to a whole number. No program in sight. -/
namespace Go.Proofs.YtjdanblijcdllaaGreatDoor
open Ieee
/-- The 53 leading digits, rounded. -/
def keptN (v : Nat) : Nat := if v.log2 ≤ 52 then v * 2 ^ (52 - v.log2) else v / 2 ^ (v.log2 - 52) + (moreB .even false (2 ^ (v.log2 - 52)) (v / 2 ^ (v.log2 - 52)) (v % 2 ^ (v.log2 - 52))).toNat
/-- The rung nearest to a whole number. -/
def ofR (v : Nat) : Nat := if v = 0 then 0 else min ((v.log2 + 1022) * 4503599627370496 + keptN v) 9218868437227405312
theorem moreB_even (s : Bool) (g low rest : Nat) : moreB .even s g low rest = moreB .even false g low rest := rfl
theorem lead_b {v : Nat} (h : v ≠ 0) (hl : ¬ v.log2 ≤ 52) : 4503599627370496 ≤ v / 2 ^ (v.log2 - 52) ∧ v / 2 ^ (v.log2 - 52) < 9007199254740992 := by
  have h1 := Nat.log2_self_le h
  have h2 := Nat.lt_log2_self (n := v)
  obtain ⟨d, hd⟩ : ∃ d, d = v.log2 - 52 := ⟨_, rfl⟩
  have e1 : v.log2 = 52 + d := by omega
  rw [← hd]
  rw [e1, Nat.pow_add] at h1
  rw [e1, show 52 + d + 1 = 53 + d by omega, Nat.pow_add] at h2
  have hp := Nat.two_pow_pos d
  exact ⟨(Nat.le_div_iff_mul_le hp).2 h1, (Nat.div_lt_iff_lt_mul hp).2 h2⟩
theorem keptN_b {v : Nat} (h : v ≠ 0) : 4503599627370496 ≤ keptN v ∧ keptN v ≤ 9007199254740992 := by
  unfold keptN
  by_cases hl : v.log2 ≤ 52
  · rw [if_pos hl]
    have h1 := Nat.log2_self_le h
    have h2 := Nat.lt_log2_self (n := v)
    obtain ⟨d, hd⟩ : ∃ d, d = 52 - v.log2 := ⟨_, rfl⟩
    rw [← hd]
    have p1 : 2 ^ v.log2 * 2 ^ d = 4503599627370496 := by rw [← Nat.pow_add, show v.log2 + d = 52 by omega]
    have p2 : 2 ^ (v.log2 + 1) * 2 ^ d = 9007199254740992 := by rw [← Nat.pow_add, show v.log2 + 1 + d = 53 by omega]
    have hp := Nat.two_pow_pos d
    exact ⟨by rw [← p1]; exact Nat.mul_le_mul_right _ h1, by rw [← p2]; exact Nat.mul_le_mul_right _ (Nat.le_of_lt h2)⟩
  · rw [if_neg hl]
    have := lead_b h hl
    generalize moreB .even false (2 ^ (v.log2 - 52)) (v / 2 ^ (v.log2 - 52)) (v % 2 ^ (v.log2 - 52)) = z
    cases z <;> simp <;> omega
theorem nearest_of (s : Bool) (v : Nat) : double.nearest s v 0 = double.word s (ofR v) := by
  unfold Format.nearest ofR
  rw [least, binade, infR]
  by_cases h : v = 0
  · rw [if_pos h, if_pos h]
  · rw [if_neg h, if_neg h]
    simp only
    have hf : ((double.fractionBits : Nat) : Int) = 52 := rfl
    rw [hf, show max ((0 : Int) + (v.log2 : Int) - 52) (-1074) = (v.log2 : Int) - 52 by omega]
    rw [show (((v.log2 : Int) - 52) - -1074).toNat = v.log2 + 1022 by omega]
    congr 3
    unfold keptN
    by_cases hl : v.log2 ≤ 52
    · rw [if_pos hl, show ((0 : Int) - ((v.log2 : Int) - 52)).toNat = 52 - v.log2 by omega, show (((v.log2 : Int) - 52) - 0).toNat = 0 by omega, Nat.shiftLeft_eq]
      have := cut_exact .even s (v * 2 ^ (52 - v.log2)) 0
      simpa using this
    · rw [if_neg hl, show ((0 : Int) - ((v.log2 : Int) - 52)).toNat = 0 by omega, show (((v.log2 : Int) - 52) - 0).toNat = v.log2 - 52 by omega, Nat.shiftLeft_zero, cut_plain]
      rfl
theorem ofR_le (v : Nat) : ofR v ≤ 9218868437227405312 := by
  unfold ofR
  split <;> omega
/-- A whole number of at most 53 digits, as a rung. -/
theorem ofR_small {v : Nat} (h : v ≠ 0) (hl : v < 9007199254740992) : ofR v = (v.log2 + 1022) * 4503599627370496 + v * 2 ^ (52 - v.log2) ∧ ofR v < 9218868437227405312 := by
  have hl2 : v.log2 ≤ 52 := by have := (Nat.log2_lt h (k := 53)).2 (by simpa using hl); omega
  have hb := keptN_b h
  have hk : keptN v = v * 2 ^ (52 - v.log2) := by unfold keptN; rw [if_pos hl2]
  rw [hk] at hb
  unfold ofR
  rw [if_neg h, hk]
  omega
theorem magn_ofR {v : Nat} (hl : v < 9007199254740992) : magn (ofR v) = v * U1 := by
  by_cases h : v = 0
  · subst h; unfold ofR; rw [if_pos rfl, Nat.zero_mul]; rfl
  · have hl2 : v.log2 ≤ 52 := by have := (Nat.log2_lt h (k := 53)).2 (by simpa using hl); omega
    have hb := keptN_b h
    have hk : keptN v = v * 2 ^ (52 - v.log2) := by unfold keptN; rw [if_pos hl2]
    rw [hk] at hb
    have hlt : v * 2 ^ (52 - v.log2) < 9007199254740992 := by
      have h2 := Nat.lt_log2_self (n := v)
      have p2 : 2 ^ (v.log2 + 1) * 2 ^ (52 - v.log2) = 9007199254740992 := by rw [← Nat.pow_add, show v.log2 + 1 + (52 - v.log2) = 53 by omega]
      rw [← p2]
      exact Nat.mul_lt_mul_of_pos_right h2 (Nat.two_pow_pos _)
    have he := (ofR_small h hl).1
    unfold magn
    generalize hq : v * 2 ^ (52 - v.log2) = q at *
    rw [he, if_neg (by omega), show ((v.log2 + 1022) * 4503599627370496 + q) % 4503599627370496 = q - 4503599627370496 by omega, show ((v.log2 + 1022) * 4503599627370496 + q) / 4503599627370496 - 1 = v.log2 + 1022 by omega, show 4503599627370496 + (q - 4503599627370496) = q by omega, ← hq, Nat.mul_assoc, ← Nat.pow_add]
    unfold U1
    rw [show 52 - v.log2 + (v.log2 + 1022) = B1 by have := B1_eq; omega]
end Go.Proofs.YtjdanblijcdllaaGreatDoor
/- Floating numbers: times one, from and to whole numbers. No program in sight. -/
namespace Go.Proofs.YtjdanblijcdllaaGreatDoor
open Ieee
theorem word_of {w : Nat} (hw : w < 18446744073709551616) : double.word (fsg w) (w % 9223372036854775808) = w := by
  unfold Format.word fsg
  rw [signW]
  by_cases h : w / 9223372036854775808 % 2 = 1
  · rw [if_pos (by simpa using h)]; omega
  · rw [if_neg (by simpa using h)]; omega
theorem read_one : double.read 4607182418800017408 = .number false 4503599627370496 (-52) := by decide
theorem mul_one64 {w : Nat} (h : Fin64 w) (hw : w < 18446744073709551616) : double.mul 4607182418800017408 w = some w := by
  unfold Format.mul
  rw [read_one, read_fin h]
  simp only [Datum.product, Option.map_some, Option.some.injEq, Format.write, Bool.false_xor]
  have hm := magn_eq (w % 9223372036854775808)
  have := nearest_exact (neg := fsg w) (mag := 4503599627370496 * rq (w % 9223372036854775808)) (r := w % 9223372036854775808) (a := re (w % 9223372036854775808)) (b := 52) (place := -52 + (-1074 + (re (w % 9223372036854775808) : Int))) h (by rw [hm, Nat.mul_assoc, Nat.mul_comm]) (by omega)
  rw [word_of hw] at this
  exact this
theorem ofInt_nat (v : Nat) : floatOfInt .f64 (v : Int) = ofR v := by
  have h1 : floatOfInt .f64 (v : Int) = double.nearest (decide ((v : Int) < 0)) (v : Int).natAbs 0 := rfl
  have h2 : decide ((v : Int) < 0) = false := by simp
  have h3 : (v : Int).natAbs = v := by omega
  rw [h1, h2, h3, nearest_of]
  unfold Format.word
  rw [if_neg (by decide)]
theorem ofR_fin {v : Nat} (h : v < 9007199254740992) : Fin64 (ofR v) ∧ ofR v < 9218868437227405312 ∧ fsg (ofR v) = false ∧ fmg (ofR v) = v * U1 := by
  have hlt : ofR v < 9218868437227405312 := by
    by_cases h0 : v = 0
    · subst h0; unfold ofR; rw [if_pos rfl]; decide
    · exact (ofR_small h0 h).2
  have hm : ofR v % 9223372036854775808 = ofR v := Nat.mod_eq_of_lt (by omega)
  refine ⟨by unfold Fin64; rw [hm]; exact hlt, hlt, ?_, by unfold fmg; rw [hm]; exact magn_ofR h⟩
  unfold fsg
  rw [Nat.div_eq_of_lt (by omega)]; rfl
theorem toInt_ofR {v : Nat} (h : v < 9007199254740992) : floatToIntVal .f64 (ofR v) .u64 = some (v : Int) := by
  obtain ⟨h1, h2, h3, h4⟩ := ofR_fin h
  unfold floatToIntVal
  have hi := integral_fin .zero h1
  rw [h3, h4, mkWh_whole] at hi
  have : (FloatKind.decode .f64 (ofR v)).toInt .zero = some (v : Int) := by
    show (double.read (ofR v)).toInt .zero = _
    unfold Datum.toInt
    rw [hi]
    simp only [signed_eq]
    simp
  rw [this]
  simp only
  rw [if_pos ⟨by show (0 : Int) ≤ _; omega, by show (v : Int) ≤ 18446744073709551615; omega⟩]
end Go.Proofs.YtjdanblijcdllaaGreatDoor
/- Floating numbers: rungs go up; the greatest one; the sign turned. No program in sight. -/
namespace Go.Proofs.YtjdanblijcdllaaGreatDoor
open Ieee
theorem magn_step (r : Nat) : magn r < magn (r + 1) := by
  unfold magn
  by_cases h : r + 1 < 4503599627370496
  · rw [if_pos h, if_pos (by omega)]; omega
  · rw [if_neg h]
    by_cases h1 : r < 4503599627370496
    · rw [if_pos h1, show (r + 1) % 4503599627370496 = 0 by omega, show (r + 1) / 4503599627370496 - 1 = 0 by omega, Nat.pow_zero]; omega
    · rw [if_neg h1]
      by_cases h2 : r % 4503599627370496 = 4503599627370495
      · rw [h2, show (r + 1) % 4503599627370496 = 0 by omega, show (r + 1) / 4503599627370496 - 1 = (r / 4503599627370496 - 1) + 1 by omega, Nat.pow_succ]
        have := Nat.two_pow_pos (r / 4503599627370496 - 1)
        generalize 2 ^ (r / 4503599627370496 - 1) = P at *
        omega
      · rw [show (r + 1) % 4503599627370496 = r % 4503599627370496 + 1 by omega, show (r + 1) / 4503599627370496 - 1 = r / 4503599627370496 - 1 by omega]
        exact Nat.mul_lt_mul_of_pos_right (by omega) (Nat.two_pow_pos _)
theorem magn_lt_of {a b : Nat} (h : a < b) : magn a < magn b := by
  induction b with
  | zero => omega
  | succ b ih =>
    rcases Nat.lt_or_ge a b with h1 | h1
    · exact Nat.lt_trans (ih h1) (magn_step b)
    · rw [show a = b by omega]; exact magn_step b
theorem magn_le_of {a b : Nat} (h : a ≤ b) : magn a ≤ magn b := by
  rcases Nat.lt_or_ge a b with h1 | h1
  · exact Nat.le_of_lt (magn_lt_of h1)
  · rw [show a = b by omega]; exact Nat.le_refl _
/-- It is an infinity. -/
def isInf (w : Nat) : Bool := decide (w % 9223372036854775808 = 9218868437227405312)
theorem key_pos {w : Nat} (h : w < 9223372036854775808) (hf : Fin64 w) : keyF w = magn w := by
  rw [keyF_fin hf, num_fmg]
  unfold fsg fmg
  rw [Nat.div_eq_of_lt h, Nat.mod_eq_of_lt h]; rfl
theorem gt_max (w : Nat) : (FloatKind.f64.format.order w 9218868437227405311 == some .gt) = (isInf w && !fsg w) := by
  change (double.order w 9218868437227405311 == some .gt) = _
  have hM : isNan 9218868437227405311 = false := by decide
  have hMf : Fin64 9218868437227405311 := by unfold Fin64; decide
  cases h : isNan w with
  | true =>
    rw [order_nan_l h]
    unfold isNan at h
    simp only [decide_eq_true_eq] at h
    unfold isInf
    rw [decide_eq_false (by omega)]; rfl
  | false =>
    rw [order_key h hM, key_pos (w := 9218868437227405311) (by decide) hMf, fcmpI]
    rcases not_nan h with hf | hi
    · have h1 : isInf w = false := by
        unfold isInf
        unfold Fin64 at hf
        exact decide_eq_false (by omega)
      have h2 : magn (w % 9223372036854775808) ≤ magn 9218868437227405311 := magn_le_of (by unfold Fin64 at hf; omega)
      have h3 : keyF w ≤ magn 9218868437227405311 := by
        rw [keyF_fin hf, num_fmg]; unfold fmg
        split <;> omega
      rw [h1]
      generalize magn 9218868437227405311 = M at *
      by_cases h4 : keyF w < (M : Int)
      · rw [if_pos h4]; rfl
      · rw [if_neg h4, if_pos (by omega)]; rfl
    · have h1 : isInf w = true := decide_eq_true hi
      rw [h1, key_inf hi]
      have hb := magn_lt (r := 9218868437227405311) (by decide)
      generalize magn 9218868437227405311 = M at *
      cases fsg w with
      | true => rw [if_pos rfl, if_pos (by omega)]; rfl
      | false => simp only [Bool.false_eq_true, if_false]; rw [if_neg (by omega), if_neg (by omega)]; rfl
/-- The other sign. -/
theorem neg_eq {b : Nat} (h : b < 18446744073709551616) : Op.negFloat .f64 b = if fsg b then b - 9223372036854775808 else b + 9223372036854775808 := by
  show b ^^^ 2 ^ 63 = _
  have hx : b = b % 9223372036854775808 + (b / 9223372036854775808) * 9223372036854775808 := by omega
  unfold fsg
  by_cases hs : b / 9223372036854775808 % 2 = 1
  · rw [if_pos (by simpa using hs)]
    apply Nat.eq_of_testBit_eq
    intro i
    rw [Nat.testBit_xor, Nat.testBit_two_pow]
    obtain ⟨r, hr⟩ : ∃ r, r = b - 9223372036854775808 := ⟨_, rfl⟩
    rw [← hr]
    have hb : b = 2 ^ 63 + r := by omega
    have hr2 : r < 2 ^ 63 := by omega
    have ho := Nat.two_pow_add_eq_or_of_lt hr2 1
    rw [Nat.mul_one] at ho
    rw [hb, ho, Nat.testBit_or, Nat.testBit_two_pow]
    by_cases hi : 63 = i
    · subst hi
      rw [Nat.testBit_lt_two_pow hr2]; rfl
    · simp [hi]
  · rw [if_neg (by simpa using hs)]
    have hr2 : b < 2 ^ 63 := by omega
    rw [Nat.add_comm, show b ^^^ 2 ^ 63 = 2 ^ 63 ||| b by
      apply Nat.eq_of_testBit_eq
      intro i
      rw [Nat.testBit_xor, Nat.testBit_or, Nat.testBit_two_pow]
      by_cases hi : 63 = i
      · subst hi; rw [Nat.testBit_lt_two_pow hr2]; rfl
      · simp [hi]]
    have ho := Nat.two_pow_add_eq_or_of_lt hr2 1
    rw [Nat.mul_one] at ho
    exact ho.symm
end Go.Proofs.YtjdanblijcdllaaGreatDoor
/- Floating and whole numbers: the rungs beside that nearest to a whole number. No program in sight. -/
namespace Go.Proofs.YtjdanblijcdllaaGreatDoor
open Ieee
theorem magn_at (e q : Nat) (h1 : 4503599627370496 ≤ q) (h2 : q ≤ 9007199254740992) : magn (e * 4503599627370496 + q) = q * 2 ^ e := by
  have hr : ¬ e * 4503599627370496 + q < 4503599627370496 := by omega
  unfold magn
  rw [if_neg hr]
  by_cases h : q < 9007199254740992
  · rw [show (e * 4503599627370496 + q) % 4503599627370496 = q - 4503599627370496 by omega, show (e * 4503599627370496 + q) / 4503599627370496 - 1 = e by omega, show 4503599627370496 + (q - 4503599627370496) = q by omega]
  · have hq : q = 9007199254740992 := by omega
    subst hq
    rw [show (e * 4503599627370496 + 9007199254740992) % 4503599627370496 = 0 by omega, show (e * 4503599627370496 + 9007199254740992) / 4503599627370496 - 1 = e + 1 by omega, Nat.add_zero, Nat.pow_succ, Nat.mul_comm (2 ^ e), ← Nat.mul_assoc]
theorem ofR_pos {v : Nat} (h : v ≠ 0) : 1 ≤ ofR v := by
  have := keptN_b h
  unfold ofR
  rw [if_neg h]
  omega
theorem near_of {v : Nat} (h : v ≠ 0) (hf : ofR v < 9218868437227405312) : magn (ofR v - 1) < v * U1 ∧ v * U1 < magn (ofR v + 1) := by
  by_cases hl : v.log2 ≤ 52
  · have hv : v < 9007199254740992 := by
      have := Nat.lt_log2_self (n := v)
      have h2 : (2 : Nat) ^ (v.log2 + 1) ≤ 2 ^ 53 := Nat.pow_le_pow_right (by decide) (by omega)
      have h3 : (2 : Nat) ^ 53 = 9007199254740992 := by decide
      omega
    rw [← magn_ofR hv]
    have := ofR_pos h
    exact ⟨magn_lt_of (by omega), magn_lt_of (by omega)⟩
  · have hb := lead_b h hl
    have ho : ofR v = (v.log2 + 1022) * 4503599627370496 + keptN v := by
      unfold ofR at hf ⊢
      rw [if_neg h] at hf ⊢
      omega
    have hk : keptN v = v / 2 ^ (v.log2 - 52) + (moreB .even false (2 ^ (v.log2 - 52)) (v / 2 ^ (v.log2 - 52)) (v % 2 ^ (v.log2 - 52))).toNat := if_neg hl
    have hdm := Nat.div_add_mod v (2 ^ (v.log2 - 52))
    have hml := Nat.mod_lt v (Nat.two_pow_pos (v.log2 - 52))
    have hz : v % 2 ^ (v.log2 - 52) = 0 → moreB .even false (2 ^ (v.log2 - 52)) (v / 2 ^ (v.log2 - 52)) (v % 2 ^ (v.log2 - 52)) = false := fun h0 => by rw [h0]; exact moreB_zero _ _ (Nat.two_pow_pos _)
    have hpow : (2 : Nat) ^ (v.log2 + 1022) = 2 ^ (v.log2 - 52) * U1 := by
      unfold U1
      rw [← Nat.pow_add, B1_eq]; congr 1; omega
    generalize moreB .even false (2 ^ (v.log2 - 52)) (v / 2 ^ (v.log2 - 52)) (v % 2 ^ (v.log2 - 52)) = z at *
    generalize v % 2 ^ (v.log2 - 52) = s at *
    generalize v / 2 ^ (v.log2 - 52) = q at *
    have m1 := magn_at (v.log2 + 1022) q (by omega) (by omega)
    have m2 := magn_at (v.log2 + 1022) (q + 1) (by omega) (by omega)
    rw [hpow] at m1 m2
    rw [hk] at ho
    have hU := U1_pos
    generalize 2 ^ (v.log2 - 52) = D at *
    have e1 : v * U1 = q * (D * U1) + s * U1 := by rw [← hdm, Nat.add_mul, Nat.mul_comm D q, Nat.mul_assoc]
    have e2 : (q + 1) * (D * U1) = q * (D * U1) + D * U1 := by rw [Nat.add_mul, Nat.one_mul]
    have e3 : s * U1 < D * U1 := Nat.mul_lt_mul_of_pos_right hml hU
    rw [e1]
    generalize D * U1 = DU at *
    cases z with
    | false =>
      simp only [Bool.toNat_false, Nat.add_zero] at ho
      rw [ho]
      have l1 := magn_lt_of (show (v.log2 + 1022) * 4503599627370496 + q - 1 < (v.log2 + 1022) * 4503599627370496 + q by omega)
      rw [m1] at l1
      rw [show (v.log2 + 1022) * 4503599627370496 + q + 1 = (v.log2 + 1022) * 4503599627370496 + (q + 1) by omega, m2, e2]
      constructor
      · omega
      · omega
    | true =>
      simp only [Bool.toNat_true] at ho
      have hs : 0 < s := by
        rcases Nat.eq_zero_or_pos s with h0 | h0
        · exact absurd (hz h0) (by simp)
        · exact h0
      have hs2 : 0 < s * U1 := Nat.mul_pos hs hU
      rw [ho]
      have l1 := magn_lt_of (show (v.log2 + 1022) * 4503599627370496 + (q + 1) < (v.log2 + 1022) * 4503599627370496 + (q + 1) + 1 by omega)
      rw [m2, e2] at l1
      rw [show (v.log2 + 1022) * 4503599627370496 + (q + 1) - 1 = (v.log2 + 1022) * 4503599627370496 + q by omega, m1]
      constructor
      · omega
      · omega
end Go.Proofs.YtjdanblijcdllaaGreatDoor
/- Floating numbers: the sum and the difference, where the format has them, and where they lie between a half and one. No program in sight. -/
namespace Go.Proofs.YtjdanblijcdllaaGreatDoor
open Ieee
theorem key_up (u : Int) (m a b : Nat) (h : b ≤ a) : u * ((m * 2 ^ a : Nat) : Int) = u * ((m * 2 ^ (a - b) : Nat) : Int) * 2 ^ b := by
  rw [Int.mul_assoc]
  congr 1
  rw [show a = (a - b) + b by omega, Nat.pow_add, Nat.add_sub_cancel, ← Nat.mul_assoc]
  push_cast
  rfl
theorem sum_fin (s t : Bool) (m n i j : Nat) : ∃ tot : Int, Datum.sum (.number s m (-1074 + (i : Int))) (.number t n (-1074 + (j : Int))) = some (.number (if tot = 0 then s && t else decide (tot < 0)) tot.natAbs (-1074 + ((min i j : Nat) : Int))) ∧ tot * 2 ^ (min i j) = (if s then -1 else 1) * ((m * 2 ^ i : Nat) : Int) + (if t then -1 else 1) * ((n * 2 ^ j : Nat) : Int) := by
  have hb : min (-1074 + (i : Int)) (-1074 + (j : Int)) = -1074 + ((min i j : Nat) : Int) := by omega
  refine ⟨signed s m ((-1074 + (i : Int)) - min (-1074 + (i : Int)) (-1074 + (j : Int))).toNat + signed t n ((-1074 + (j : Int)) - min (-1074 + (i : Int)) (-1074 + (j : Int))).toNat, ?_, ?_⟩
  · rw [← hb]; rfl
  rw [signed_eq, signed_eq]
  generalize (if s = true then (-1 : Int) else 1) = u
  generalize (if t = true then (-1 : Int) else 1) = v
  rcases Nat.le_total i j with h | h
  · rw [show min (-1074 + (i : Int)) (-1074 + (j : Int)) = -1074 + i by omega, Nat.min_eq_left h, show (-1074 + (i : Int) - (-1074 + i)).toNat = i - i by omega, show (-1074 + (j : Int) - (-1074 + i)).toNat = j - i by omega, key_up u m i i (Nat.le_refl _), key_up v n j i h, Int.add_mul]
  · rw [show min (-1074 + (i : Int)) (-1074 + (j : Int)) = -1074 + j by omega, Nat.min_eq_right h, show (-1074 + (i : Int) - (-1074 + j)).toNat = i - j by omega, show (-1074 + (j : Int) - (-1074 + j)).toNat = j - j by omega, key_up u m i j h, key_up v n j j (Nat.le_refl _), Int.add_mul]
theorem tot_abs (tot : Int) (k : Nat) : tot.natAbs * 2 ^ k = (tot * 2 ^ k).natAbs := by
  rw [Int.natAbs_mul, Int.natAbs_pow]; rfl
theorem tot_zero (tot : Int) (k : Nat) : (tot * 2 ^ k = 0) ↔ tot = 0 := by
  have hk : (0 : Int) < 2 ^ k := Int.pow_pos (by decide)
  constructor
  · intro h
    rcases Int.mul_eq_zero.1 h with h | h
    · exact h
    · omega
  · intro h; rw [h, Int.zero_mul]
theorem tot_neg (tot : Int) (k : Nat) : (tot * 2 ^ k < 0) ↔ tot < 0 := by
  have hk : (0 : Int) < 2 ^ k := Int.pow_pos (by decide)
  constructor
  · intro h
    rcases (show tot < 0 ∨ 0 ≤ tot by omega) with h1 | h1
    · exact h1
    · have := Int.mul_nonneg h1 (Int.le_of_lt hk); omega
  · intro h; exact Int.mul_neg_of_neg_of_pos h hk
theorem write_exact (g : Bool) {mag k r : Nat} (hr : r < 9218868437227405312) (h : mag * 2 ^ k = magn r) : double.write (.number g mag (-1074 + (k : Int))) = double.word g r := by
  have := nearest_exact (neg := g) (mag := mag) (r := r) (a := k) (b := 0) (place := -1074 + (k : Int)) hr (by rw [h, Nat.pow_zero, Nat.mul_one]) (by omega)
  exact this
/-- The sign of a sum. -/
def sgT (T : Int) (z : Bool) : Bool := if T = 0 then z else decide (T < 0)
theorem sgT_scale (tot : Int) (k : Nat) (z : Bool) : sgT (tot * 2 ^ k) z = sgT tot z := by
  unfold sgT
  have h1 := tot_zero tot k
  have h2 := tot_neg tot k
  by_cases h : tot = 0
  · rw [if_pos h, if_pos (h1.2 h)]
  · rw [if_neg h, if_neg (fun hc => h (h1.1 hc))]
    exact decide_eq_decide.2 h2
theorem sum_exact (s t : Bool) (m n i j : Nat) {r : Nat} {T : Int} (hr : r < 9218868437227405312) (hT : (if s then -1 else 1) * ((m * 2 ^ i : Nat) : Int) + (if t then -1 else 1) * ((n * 2 ^ j : Nat) : Int) = T) (hm : T.natAbs = magn r) : (Datum.sum (.number s m (-1074 + (i : Int))) (.number t n (-1074 + (j : Int)))).map double.write = some (double.word (sgT T (s && t)) r) := by
  obtain ⟨tot, h1, h2⟩ := sum_fin s t m n i j
  rw [h1, Option.map_some]
  rw [hT] at h2
  rw [write_exact _ hr (by rw [tot_abs, h2, hm]), ← h2, sgT_scale]
  rfl
theorem num_eq2 (w : Nat) : (if fsg w then -1 else 1) * ((rq (w % 9223372036854775808) * 2 ^ re (w % 9223372036854775808) : Nat) : Int) = num w := (num_eq w).symm
theorem num_opp (w : Nat) : (if (!fsg w) then -1 else 1) * ((rq (w % 9223372036854775808) * 2 ^ re (w % 9223372036854775808) : Nat) : Int) = -num w := by
  rw [← num_eq2]
  cases fsg w <;> simp
theorem add_exact {x y r : Nat} (hx : Fin64 x) (hy : Fin64 y) (hr : r < 9218868437227405312) (hm : (num x + num y).natAbs = magn r) : double.add x y = some (double.word (sgT (num x + num y) (fsg x && fsg y)) r) := by
  unfold Format.add
  rw [read_fin hx, read_fin hy]
  exact sum_exact (fsg x) (fsg y) _ _ _ _ hr (by rw [num_eq2, num_eq2]) hm
theorem sub_exact {x y r : Nat} (hx : Fin64 x) (hy : Fin64 y) (hr : r < 9218868437227405312) (hm : (num x - num y).natAbs = magn r) : double.sub x y = some (double.word (sgT (num x - num y) (fsg x && !fsg y)) r) := by
  unfold Format.sub
  rw [read_fin hx, read_fin hy]
  exact sum_exact (fsg x) (!fsg y) _ _ _ _ hr (by rw [num_eq2, num_opp, Int.sub_eq_add_neg]) hm
@[irreducible] def B3 : Nat := 1073
theorem B3_eq : B3 = 1073 := by unfold B3; rfl
/-- A half, in units of the least number. -/
def H1 : Nat := 2 ^ B3
theorem U1_H1 : U1 = 2 * H1 := by
  unfold U1 H1
  rw [show B1 = B3 + 1 by rw [B1_eq, B3_eq], Nat.pow_succ, Nat.mul_comm]
theorem H1_magn : magn 4602678819172646912 = H1 := by
  obtain ⟨e, he⟩ : ∃ e : Nat, e = 1021 := ⟨_, rfl⟩
  have := magn_at e 4503599627370496 (by omega) (by omega)
  rw [show e * 4503599627370496 + 4503599627370496 = 4602678819172646912 by omega] at this
  rw [this]
  unfold H1
  rw [show (4503599627370496 : Nat) = 2 ^ 52 by decide, ← Nat.pow_add, show 52 + e = B3 by rw [B3_eq]; omega]
theorem near_half {mag k : Nat} (h1 : H1 ≤ mag * 2 ^ k) (h2 : mag * 2 ^ k < U1) : ∃ R, double.write (.number false mag (-1074 + (k : Int))) = R ∧ 4602678819172646912 ≤ R ∧ R ≤ 4607182418800017408 := by
  have hp : 0 < 2 ^ k := Nat.two_pow_pos k
  have hH : 0 < H1 := Nat.two_pow_pos _
  have hm : mag ≠ 0 := by intro h0; rw [h0, Nat.zero_mul] at h1; omega
  have hlog : mag.log2 + k = 1073 := by
    rw [← log2_mul _ _ hm]
    have hne : mag * 2 ^ k ≠ 0 := by omega
    have e1 : B3 ≤ (mag * 2 ^ k).log2 := (Nat.le_log2 hne).2 h1
    have e2 : (mag * 2 ^ k).log2 < B1 := (Nat.log2_lt hne).2 h2
    rw [B3_eq] at e1
    rw [B1_eq] at e2
    omega
  refine ⟨_, rfl, ?_⟩
  show 4602678819172646912 ≤ double.nearest false mag (-1074 + (k : Int)) ∧ double.nearest false mag (-1074 + (k : Int)) ≤ 4607182418800017408
  unfold Format.nearest
  rw [least, binade, infR, if_neg hm]
  simp only
  have hf : ((double.fractionBits : Nat) : Int) = 52 := rfl
  rw [hf, show max (-1074 + (k : Int) + (mag.log2 : Int) - 52) (-1074) = -53 by omega, show ((-53 : Int) - -1074).toNat = 1021 by omega]
  have hb1 := Nat.log2_self_le hm
  have hb2 := Nat.lt_log2_self (n := mag)
  have hkept : 4503599627370496 ≤ Toward.even.cut false (mag <<< (-1074 + (k : Int) - -53).toNat) ((-53 : Int) - (-1074 + (k : Int))).toNat ∧ Toward.even.cut false (mag <<< (-1074 + (k : Int) - -53).toNat) ((-53 : Int) - (-1074 + (k : Int))).toNat ≤ 9007199254740992 := by
    rw [cut_plain, Nat.shiftLeft_eq]
    have p52 : (4503599627370496 : Nat) = 2 ^ 52 := by decide
    have p53 : (9007199254740992 : Nat) = 2 ^ 53 := by decide
    rcases Nat.le_total 1021 k with hk | hk
    · rw [show (-1074 + (k : Int) - -53).toNat = k - 1021 by omega, show ((-53 : Int) - (-1074 + (k : Int))).toNat = 0 by omega, Nat.pow_zero, Nat.div_one, Nat.mod_one, moreB_zero _ _ (by decide)]
      simp only [Bool.toNat_false, Nat.add_zero]
      have q1 : 2 ^ mag.log2 * 2 ^ (k - 1021) = 4503599627370496 := by rw [← Nat.pow_add, show mag.log2 + (k - 1021) = 52 by omega]
      have q2 : 2 ^ (mag.log2 + 1) * 2 ^ (k - 1021) = 9007199254740992 := by rw [← Nat.pow_add, show mag.log2 + 1 + (k - 1021) = 53 by omega]
      exact ⟨by rw [← q1]; exact Nat.mul_le_mul_right _ hb1, by rw [← q2]; exact Nat.mul_le_mul_right _ (Nat.le_of_lt hb2)⟩
    · rw [show (-1074 + (k : Int) - -53).toNat = 0 by omega, show ((-53 : Int) - (-1074 + (k : Int))).toNat = 1021 - k by omega, Nat.pow_zero, Nat.mul_one]
      have q1 : 4503599627370496 * 2 ^ (1021 - k) = 2 ^ mag.log2 := by rw [p52, ← Nat.pow_add, show 52 + (1021 - k) = mag.log2 by omega]
      have q2 : 9007199254740992 * 2 ^ (1021 - k) = 2 ^ (mag.log2 + 1) := by rw [p53, ← Nat.pow_add, show 53 + (1021 - k) = mag.log2 + 1 by omega]
      have hpd := Nat.two_pow_pos (1021 - k)
      have d1 : 4503599627370496 ≤ mag / 2 ^ (1021 - k) := (Nat.le_div_iff_mul_le hpd).2 (by rw [q1]; exact hb1)
      have d2 : mag / 2 ^ (1021 - k) < 9007199254740992 := (Nat.div_lt_iff_lt_mul hpd).2 (by rw [q2]; exact hb2)
      generalize moreB .even false (2 ^ (1021 - k)) (mag / 2 ^ (1021 - k)) (mag % 2 ^ (1021 - k)) = z
      cases z <;> simp <;> omega
  generalize Toward.even.cut false (mag <<< (-1074 + (k : Int) - -53).toNat) ((-53 : Int) - (-1074 + (k : Int))).toNat = K at *
  unfold Format.word
  simp only [Bool.false_eq_true, if_false]
  omega
theorem sub_half {x y : Nat} (hx : Fin64 x) (hy : Fin64 y) (h1 : (H1 : Int) ≤ num x - num y) (h2 : num x - num y < (U1 : Int)) : ∃ R, double.sub x y = some R ∧ 4602678819172646912 ≤ R ∧ R ≤ 4607182418800017408 := by
  obtain ⟨tot, e1, e2⟩ := sum_fin (fsg x) (!fsg y) (rq (x % 9223372036854775808)) (rq (y % 9223372036854775808)) (re (x % 9223372036854775808)) (re (y % 9223372036854775808))
  rw [num_eq2, num_opp, ← Int.sub_eq_add_neg] at e2
  have hH : 0 < H1 := Nat.two_pow_pos _
  have ht : (0 : Int) < tot := by
    rcases (show 0 < tot ∨ tot ≤ 0 by omega) with h | h
    · exact h
    · have hk : (0 : Int) < 2 ^ (min (re (x % 9223372036854775808)) (re (y % 9223372036854775808))) := Int.pow_pos (by decide)
      have := Int.mul_nonpos_of_nonpos_of_nonneg h (Int.le_of_lt hk)
      omega
  have ha := tot_abs tot (min (re (x % 9223372036854775808)) (re (y % 9223372036854775808)))
  rw [e2] at ha
  obtain ⟨R, f1, f2, f3⟩ := near_half (mag := tot.natAbs) (k := min (re (x % 9223372036854775808)) (re (y % 9223372036854775808))) (by rw [ha]; omega) (by rw [ha]; omega)
  refine ⟨R, ?_, f2, f3⟩
  unfold Format.sub
  rw [read_fin hx, read_fin hy]
  show (Datum.sum (.number (fsg x) _ _) (.number (!fsg y) _ _)).map double.write = some R
  rw [e1, Option.map_some, if_neg (by omega), decide_eq_false (by omega), f1]
end Go.Proofs.YtjdanblijcdllaaGreatDoor
/- Floating numbers: the nearest whole one, by both ways. No program in sight. -/
namespace Go.Proofs.YtjdanblijcdllaaGreatDoor
open Ieee
theorem rung_ex {q e : Nat} (hq : q < 9007199254740992) (he : e ≤ 2045) : ∃ r, r < 9218868437227405312 ∧ magn r = q * 2 ^ e := by
  by_cases hq0 : q = 0
  · exact ⟨0, by decide, by rw [hq0, Nat.zero_mul]; decide⟩
  · by_cases h52 : 52 ≤ q.log2 + e
    · exact rung_of hq hq0 he h52
    · have hlt : q * 2 ^ e < 4503599627370496 := by
        have h1 := Nat.lt_log2_self (n := q)
        have h2 : q * 2 ^ e < 2 ^ (q.log2 + 1) * 2 ^ e := Nat.mul_lt_mul_of_pos_right h1 (Nat.two_pow_pos e)
        rw [← Nat.pow_add] at h2
        have h3 : (2 : Nat) ^ (q.log2 + 1 + e) ≤ 2 ^ 52 := Nat.pow_le_pow_right (by decide) (by omega)
        have h4 : (2 : Nat) ^ 52 = 4503599627370496 := by decide
        omega
      exact ⟨q * 2 ^ e, by omega, if_pos hlt⟩
theorem more_even (s : Bool) (P q t : Nat) : moreB .even s (2 * P) q t = (decide (2 * P < 2 * t) || (decide (2 * P = 2 * t) && decide (q % 2 = 1))) := by
  show (decide (2 * P < 2 * t) || (2 * P == 2 * t && q % 2 == 1)) = _
  rw [beqd, beqd]
/-- Is the floor left for the one above it? -/
def goUp (n : Int) : Bool := decide ((H1 : Int) < n % U1) || (decide (n % U1 = H1) && decide ((n / U1) % 2 = 1))
theorem up_even {b : Nat} (h : fmg b % U1 ≠ 0) : (num b / U1 + if goUp (num b) then 1 else 0).natAbs = mkWh .even (fsg b) (fmg b) ∧ (num b / U1 + if goUp (num b) then 1 else 0 : Int) = if fsg b then -(mkWh .even (fsg b) (fmg b) : Int) else (mkWh .even (fsg b) (fmg b) : Int) := by
  have hU := U1_H1
  have hH : 0 < H1 := Nat.two_pow_pos _
  suffices hs : (num b / U1 + if goUp (num b) then 1 else 0 : Int) = if fsg b then -(mkWh .even (fsg b) (fmg b) : Int) else (mkWh .even (fsg b) (fmg b) : Int) by
    refine ⟨?_, hs⟩
    rw [hs]; cases fsg b <;> simp
  rw [num_fmg]
  unfold mkWh goUp
  have hdm := Nat.div_add_mod (fmg b) U1
  have hml := Nat.mod_lt (fmg b) U1_pos
  generalize fmg b = X at *
  generalize fsg b = s at *
  obtain ⟨q, hq⟩ : ∃ q, q = X / U1 := ⟨_, rfl⟩
  obtain ⟨t, ht⟩ : ∃ t, t = X % U1 := ⟨_, rfl⟩
  rw [← hq, ← ht] at hdm ⊢
  rw [← ht] at h hml
  have hX : (X : Int) = (q : Int) * (U1 : Int) + (t : Int) := by rw [← hdm]; push_cast; rw [Int.mul_comm]
  have hq2 : (q : Int) % 2 = ((q % 2 : Nat) : Int) := by omega
  have hUp : (0 : Int) < (U1 : Int) := by omega
  cases s with
  | false =>
    simp only [Bool.false_eq_true, if_false]
    have e1 : (X : Int) / U1 = q := by rw [hX, Int.add_comm, Int.add_mul_ediv_right _ _ (by omega), Int.ediv_eq_zero_of_lt (by omega) (by omega)]; omega
    have e2 : (X : Int) % U1 = t := by rw [hX, Int.add_comm, Int.add_mul_emod_self_right, Int.emod_eq_of_lt (by omega) (by omega)]
    rw [e1, e2, hU, more_even]
    by_cases c1 : H1 < t
    · rw [decide_eq_true (show (H1 : Int) < (t : Int) by omega), decide_eq_true (show 2 * H1 < 2 * t by omega)]; simp
    · rw [decide_eq_false (show ¬ (H1 : Int) < (t : Int) by omega), decide_eq_false (show ¬ 2 * H1 < 2 * t by omega)]
      by_cases c2 : t = H1
      · rw [decide_eq_true (show (t : Int) = (H1 : Int) by omega), decide_eq_true (show 2 * H1 = 2 * t by omega)]
        by_cases c3 : q % 2 = 1
        · rw [decide_eq_true (show (q : Int) % 2 = 1 by omega), decide_eq_true c3]; simp
        · rw [decide_eq_false (show ¬ (q : Int) % 2 = 1 by omega), decide_eq_false c3]; simp
      · rw [decide_eq_false (show ¬ (t : Int) = (H1 : Int) by omega), decide_eq_false (show ¬ 2 * H1 = 2 * t by omega)]; simp
  | true =>
    simp only [if_true]
    have e0 : -(X : Int) = ((U1 : Int) - t) + (-(q : Int) - 1) * U1 := by rw [hX, Int.sub_mul, Int.neg_mul, Int.one_mul]; omega
    have e1 : -(X : Int) / U1 = -(q : Int) - 1 := by rw [e0, Int.add_mul_ediv_right _ _ (by omega), Int.ediv_eq_zero_of_lt (by omega) (by omega)]; omega
    have e2 : -(X : Int) % U1 = U1 - t := by rw [e0, Int.add_mul_emod_self_right, Int.emod_eq_of_lt (by omega) (by omega)]
    rw [e1, e2, hU, more_even]
    by_cases c1 : H1 < t
    · rw [decide_eq_false (show ¬ (H1 : Int) < ((2 * H1 : Nat) : Int) - (t : Int) by omega), decide_eq_false (show ¬ ((2 * H1 : Nat) : Int) - (t : Int) = (H1 : Int) by omega), decide_eq_true (show 2 * H1 < 2 * t by omega)]; simp; omega
    · rw [decide_eq_false (show ¬ 2 * H1 < 2 * t by omega)]
      by_cases c2 : t = H1
      · rw [decide_eq_false (show ¬ (H1 : Int) < ((2 * H1 : Nat) : Int) - (t : Int) by omega), decide_eq_true (show ((2 * H1 : Nat) : Int) - (t : Int) = (H1 : Int) by omega), decide_eq_true (show 2 * H1 = 2 * t by omega)]
        by_cases c3 : q % 2 = 1
        · rw [decide_eq_false (show ¬ (-(q : Int) - 1) % 2 = 1 by omega), decide_eq_true c3]; simp; omega
        · rw [decide_eq_true (show (-(q : Int) - 1) % 2 = 1 by omega), decide_eq_false c3]; simp
      · rw [decide_eq_true (show (H1 : Int) < ((2 * H1 : Nat) : Int) - (t : Int) by omega), decide_eq_false (show ¬ 2 * H1 = 2 * t by omega)]; simp
/-- What is left above the floor is some rung's, or more than a half, and then the number is just below nought. -/
theorem rest_rung {b : Nat} (hf : Fin64 b) (h : fmg b % U1 ≠ 0) : (∃ r, r < 9218868437227405312 ∧ magn r = (num b % U1).natAbs) ∨ ((H1 : Int) < num b % U1 ∧ num b / U1 = -1) := by
  have hU := U1_H1
  have hH : 0 < H1 := Nat.two_pow_pos _
  have hUp := U1_pos
  have hfm : fmg b = rq (b % 9223372036854775808) * 2 ^ re (b % 9223372036854775808) := magn_eq _
  have hql := rq_lt (b % 9223372036854775808)
  have hml := Nat.mod_lt (fmg b) hUp
  have hdm := Nat.div_add_mod (fmg b) U1
  generalize rq (b % 9223372036854775808) = M at *
  generalize re (b % 9223372036854775808) = t at *
  have ht : t < B1 := by
    rcases Nat.lt_or_ge t B1 with h1 | h1
    · exact h1
    · exfalso
      refine h ?_
      rw [hfm, show t = t - B1 + B1 by omega, Nat.pow_add, ← Nat.mul_assoc]
      exact Nat.mul_mod_left _ _
  have hUk : U1 = 2 ^ (B1 - t) * 2 ^ t := by unfold U1; rw [← Nat.pow_add]; congr 1; omega
  have hmod : fmg b % U1 = M % 2 ^ (B1 - t) * 2 ^ t := by rw [hfm, hUk, Nat.mul_mod_mul_right]
  rw [num_fmg]
  cases fsg b with
  | false =>
    left
    simp only [Bool.false_eq_true, if_false]
    obtain ⟨r, h1, h2⟩ := rung_ex (q := M % 2 ^ (B1 - t)) (e := t) (Nat.lt_of_le_of_lt (Nat.mod_le _ _) hql) (by have := B1_eq; omega)
    refine ⟨r, h1, ?_⟩
    rw [h2, ← hmod]
    omega
  | true =>
    simp only [if_true]
    have hX : (fmg b : Int) = ((fmg b / U1 : Nat) : Int) * (U1 : Int) + ((fmg b % U1 : Nat) : Int) := by
      rw [← Int.natCast_mul, ← Int.natCast_add, Nat.mul_comm, hdm]
    have e0 : -(fmg b : Int) = ((U1 : Int) - ((fmg b % U1 : Nat) : Int)) + (-((fmg b / U1 : Nat) : Int) - 1) * U1 := by
      rw [Int.sub_mul, Int.neg_mul, Int.one_mul]; omega
    have e1 : -(fmg b : Int) / U1 = -((fmg b / U1 : Nat) : Int) - 1 := by rw [e0, Int.add_mul_ediv_right _ _ (by omega), Int.ediv_eq_zero_of_lt (by omega) (by omega)]; omega
    have e2 : -(fmg b : Int) % U1 = U1 - ((fmg b % U1 : Nat) : Int) := by rw [e0, Int.add_mul_emod_self_right, Int.emod_eq_of_lt (by omega) (by omega)]
    rw [e1, e2]
    by_cases hk : B1 - t ≤ 53
    · left
      have hmk := Nat.mod_lt M (Nat.two_pow_pos (B1 - t))
      have h53 : (2 : Nat) ^ (B1 - t) ≤ 9007199254740992 := by
        have := Nat.pow_le_pow_right (n := 2) (by decide) hk
        have h4 : (2 : Nat) ^ 53 = 9007199254740992 := by decide
        omega
      have hm0 : M % 2 ^ (B1 - t) ≠ 0 := by intro h0; rw [hmod, h0, Nat.zero_mul] at h; exact h rfl
      obtain ⟨r, h1, h2⟩ := rung_ex (q := 2 ^ (B1 - t) - M % 2 ^ (B1 - t)) (e := t) (by omega) (by have := B1_eq; omega)
      refine ⟨r, h1, ?_⟩
      have e3 : (2 ^ (B1 - t) - M % 2 ^ (B1 - t)) * 2 ^ t = U1 - fmg b % U1 := by rw [Nat.sub_mul, ← hUk, ← hmod]
      rw [h2, e3]
      omega
    · right
      have hkk : (9007199254740992 : Nat) * 2 ^ t ≤ H1 := by
        have h4 : (2 : Nat) ^ 53 = 9007199254740992 := by decide
        rw [← h4, ← Nat.pow_add]
        unfold H1
        exact Nat.pow_le_pow_right (by decide) (by have := B1_eq; have := B3_eq; omega)
      have hlt : fmg b < H1 := by
        rw [hfm]
        exact Nat.lt_of_lt_of_le (Nat.mul_lt_mul_of_pos_right hql (Nat.two_pow_pos t)) hkk
      have hz : fmg b / U1 = 0 := Nat.div_eq_of_lt (by omega)
      have hmm : fmg b % U1 = fmg b := Nat.mod_eq_of_lt (by omega)
      rw [hz, hmm]
      constructor
      · omega
      · rfl
end Go.Proofs.YtjdanblijcdllaaGreatDoor
