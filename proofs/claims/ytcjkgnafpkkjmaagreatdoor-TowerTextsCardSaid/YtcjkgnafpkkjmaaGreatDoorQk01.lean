/- The texts and numbers of numbers: a part of the walk. No condition. -/
import Derived.Laws.FloatArith
set_option linter.all false
section
namespace Go.Proofs.YtcjkgnafpkkjmaaGreatDoor
open Ieee
def magn (r : Nat) : Nat := if r < 4503599627370496 then r else (4503599627370496 + r % 4503599627370496) * 2 ^ (r / 4503599627370496 - 1)
def Fin64 (w : Nat) : Prop := w % 9223372036854775808 < 9218868437227405312
def num (w : Nat) : Int := if w / 9223372036854775808 % 2 = 1 then -(magn (w % 9223372036854775808) : Int) else (magn (w % 9223372036854775808) : Int)
def rq (r : Nat) : Nat := if r < 4503599627370496 then r else 4503599627370496 + r % 4503599627370496
def re (r : Nat) : Nat := r / 4503599627370496 - 1
theorem magn_eq (r : Nat) : magn r = rq r * 2 ^ re r := by
  unfold magn rq re
  by_cases h : r < 4503599627370496
  · rw [if_pos h, if_pos h, show r / 4503599627370496 - 1 = 0 by omega]; simp
  · rw [if_neg h, if_neg h]
theorem rung_eq (r : Nat) : re r * 4503599627370496 + rq r = r := by
  unfold rq re
  by_cases h : r < 4503599627370496
  · rw [if_pos h]; omega
  · rw [if_neg h]; omega
theorem rq_lt (r : Nat) : rq r < 9007199254740992 := by
  unfold rq
  split <;> omega
theorem rq_ge (r : Nat) (h : re r ≠ 0) : 4503599627370496 ≤ rq r := by
  unfold rq; unfold re at h
  split <;> omega
theorem least : double.leastPlace = -1074 := by decide
theorem binade : double.binade = 4503599627370496 := by decide
theorem infR : double.infRung = 9218868437227405312 := by decide
theorem signW : double.signWeight = 9223372036854775808 := by decide
theorem read_fin {w : Nat} (h : Fin64 w) : double.read w = .number (w / 9223372036854775808 % 2 == 1) (rq (w % 9223372036854775808)) (-1074 + re (w % 9223372036854775808)) := by
  unfold Fin64 at h
  unfold Format.read rq re
  rw [least, binade, infR, signW]
  simp only
  by_cases h1 : w % 9223372036854775808 < 4503599627370496
  · rw [if_pos h1, if_pos h1, show w % 9223372036854775808 / 4503599627370496 - 1 = 0 by omega]; rfl
  · rw [if_neg h1, if_pos h, if_neg h1]
theorem signed_eq (s : Bool) (m k : Nat) : signed s m k = (if s then -1 else 1) * ((m * 2 ^ k : Nat) : Int) := by
  unfold signed
  rw [Nat.shiftLeft_eq]
  cases s <;> simp
theorem num_eq (w : Nat) : num w = (if (w / 9223372036854775808 % 2 == 1) then -1 else 1) * ((rq (w % 9223372036854775808) * 2 ^ re (w % 9223372036854775808) : Nat) : Int) := by
  unfold num
  rw [magn_eq]
  by_cases h : w / 9223372036854775808 % 2 = 1
  · rw [if_pos h, if_pos (by simpa using h)]; omega
  · rw [if_neg h, if_neg (by simpa using h)]; omega
theorem cmp_scale (a b : Int) (k : Nat) : compare (a * 2 ^ k) (b * 2 ^ k) = compare a b := by
  have hk : (0 : Int) < 2 ^ k := Int.pow_pos (by decide)
  have key : ∀ x y : Int, compare x y = if x < y then .lt else if x = y then .eq else .gt := fun _ _ => rfl
  rw [key, key]
  by_cases h : a < b
  · rw [if_pos h, if_pos (Int.mul_lt_mul_of_pos_right h hk)]
  · rw [if_neg h, if_neg (fun hc => h (Int.lt_of_mul_lt_mul_right hc (Int.le_of_lt hk)))]
    by_cases h2 : a = b
    · rw [if_pos h2, if_pos (by rw [h2])]
    · rw [if_neg h2, if_neg (fun hc => h2 (Int.eq_of_mul_eq_mul_right (by omega) hc))]
theorem log2_mul (n k : Nat) (h : n ≠ 0) : (n * 2 ^ k).log2 = n.log2 + k := by
  induction k with
  | zero => simp
  | succ k ih =>
    rw [Nat.pow_succ, ← Nat.mul_assoc, Nat.mul_comm _ 2, Nat.log2_two_mul (by have := Nat.two_pow_pos k; exact fun hc => by rcases Nat.mul_eq_zero.1 hc with h1 | h1 <;> omega), ih]
    omega
theorem order_fin {x y : Nat} (hx : Fin64 x) (hy : Fin64 y) : double.order x y = some (compare (num x) (num y)) := by
  unfold Format.order
  rw [read_fin hx, read_fin hy]
  simp only [Datum.order, Option.some.injEq]
  rw [signed_eq, signed_eq, num_eq, num_eq]
  generalize re (x % 9223372036854775808) = i
  generalize re (y % 9223372036854775808) = j
  generalize rq (x % 9223372036854775808) = m
  generalize rq (y % 9223372036854775808) = n
  generalize (if (x / 9223372036854775808 % 2 == 1) = true then (-1 : Int) else 1) = s
  generalize (if (y / 9223372036854775808 % 2 == 1) = true then (-1 : Int) else 1) = t
  have key : ∀ (u : Int) (m a b : Nat), b ≤ a → u * ((m * 2 ^ a : Nat) : Int) = u * ((m * 2 ^ (a - b) : Nat) : Int) * 2 ^ b := by
    intro u m a b h
    rw [Int.mul_assoc]
    congr 1
    rw [show a = (a - b) + b by omega, Nat.pow_add, Nat.add_sub_cancel, ← Nat.mul_assoc]
    push_cast
    rfl
  rcases Nat.le_total i j with h | h
  · rw [show min (-1074 + (i : Int)) (-1074 + (j : Int)) = -1074 + i by omega, show (-1074 + (i : Int) - (-1074 + i)).toNat = i - i by omega, show (-1074 + (j : Int) - (-1074 + i)).toNat = j - i by omega, key s m i i (Nat.le_refl _), key t n j i h, cmp_scale]
  · rw [show min (-1074 + (i : Int)) (-1074 + (j : Int)) = -1074 + j by omega, show (-1074 + (i : Int) - (-1074 + j)).toNat = i - j by omega, show (-1074 + (j : Int) - (-1074 + j)).toNat = j - j by omega, key s m i j h, key t n j j (Nat.le_refl _), cmp_scale]
theorem cut_exact (way : Toward) (neg : Bool) (q drop : Nat) : way.cut neg (q * 2 ^ drop) drop = q := by
  unfold Toward.cut
  dsimp only
  by_cases hq : q = 0
  · subst hq
    simp only [Nat.zero_mul, Nat.zero_div, Nat.zero_mod]
    have h0 : ∀ k, 0 < 1 <<< k := fun k => by rw [Nat.shiftLeft_eq]; have := Nat.two_pow_pos k; omega
    have := h0 (min drop (Nat.log2 0 + 2))
    cases way <;> simp <;> omega
  · have hp := Nat.two_pow_pos drop
    have hl : drop ≤ (q * 2 ^ drop).log2 := by
      rw [Nat.le_log2 (by have := Nat.mul_pos (Nat.pos_of_ne_zero hq) hp; omega)]
      exact Nat.le_mul_of_pos_left _ (Nat.pos_of_ne_zero hq)
    rw [Nat.min_eq_left (by omega), Nat.shiftLeft_eq, Nat.one_mul, Nat.mul_div_cancel _ hp, Nat.mul_mod_left]
    cases way <;> simp <;> omega
theorem nearest_exact (neg : Bool) {mag r a b : Nat} {place : Int} (hr : r < 9218868437227405312) (h : mag * 2 ^ a = magn r * 2 ^ b) (hp : place = (a : Int) - b - 1074) : double.nearest neg mag place = double.word neg r := by
  rw [magn_eq] at h
  have hre := rung_eq r
  have hql := rq_lt r
  have hqg := rq_ge r
  unfold Format.nearest
  rw [least, binade, infR]
  by_cases hm : mag = 0
  · subst hm
    have hq0 : rq r = 0 := by
      rw [Nat.zero_mul] at h
      rcases Nat.mul_eq_zero.1 h.symm with h | h
      · rcases Nat.mul_eq_zero.1 h with h | h
        · exact h
        · have := Nat.two_pow_pos (re r); omega
      · have := Nat.two_pow_pos b; omega
    have : r = 0 := by
      by_cases he : re r = 0
      · rw [he, hq0] at hre
        exact (by simpa using hre.symm)
      · exact absurd (hqg he) (by rw [hq0]; decide)
    rw [this]
    exact if_pos rfl
  rw [if_neg hm]
  have hq0 : rq r ≠ 0 := by
    intro hq
    rw [hq, Nat.zero_mul, Nat.zero_mul] at h
    rcases Nat.mul_eq_zero.1 h with h | h
    · exact hm h
    · have := Nat.two_pow_pos a; omega
  have hlog : mag.log2 + a = (rq r).log2 + re r + b := by
    have e1 : (mag * 2 ^ a).log2 = mag.log2 + a := log2_mul _ _ hm
    have e2 : (rq r * 2 ^ re r * 2 ^ b).log2 = (rq r).log2 + re r + b := by
      rw [Nat.mul_assoc, ← Nat.pow_add, log2_mul _ _ hq0]; omega
    rw [← e1, h, e2]
  have hlq : (rq r).log2 ≤ 52 := by
    have := (Nat.log2_lt hq0 (k := 53)).2 (by simpa using hql)
    omega
  have hlq2 : re r ≠ 0 → (rq r).log2 = 52 := fun he => by
    have := (Nat.le_log2 hq0 (k := 52)).2 (by simpa using hqg he)
    omega
  have hlast : max (place + (mag.log2 : Int) - ((double.fractionBits : Nat) : Int)) (-1074) = (re r : Int) - 1074 := by
    show max (place + (mag.log2 : Int) - ((52 : Nat) : Int)) (-1074) = (re r : Int) - 1074
    by_cases he : re r = 0
    · rw [he] at hlog ⊢; omega
    · have := hlq2 he; omega
  simp only
  rw [hlast]
  have hkept : Toward.even.cut neg (mag <<< (place - ((re r : Int) - 1074)).toNat) (((re r : Int) - 1074) - place).toNat = rq r := by
    rcases Nat.le_total (re r + b) a with hab | hab
    · rw [show (((re r : Int) - 1074) - place).toNat = 0 by omega, show (place - ((re r : Int) - 1074)).toNat = a - (re r + b) by omega, Nat.shiftLeft_eq]
      have : mag * 2 ^ (a - (re r + b)) = rq r := by
        have hk : 0 < 2 ^ (re r + b) := Nat.two_pow_pos _
        refine Nat.eq_of_mul_eq_mul_right hk ?_
        rw [Nat.mul_assoc, ← Nat.pow_add, show a - (re r + b) + (re r + b) = a by omega, h, Nat.mul_assoc, ← Nat.pow_add]
      rw [this]
      have := cut_exact .even neg (rq r) 0
      simpa using this
    · rw [show (place - ((re r : Int) - 1074)).toNat = 0 by omega, show (((re r : Int) - 1074) - place).toNat = re r + b - a by omega, Nat.shiftLeft_zero]
      have : mag = rq r * 2 ^ (re r + b - a) := by
        have hk : 0 < 2 ^ a := Nat.two_pow_pos _
        refine Nat.eq_of_mul_eq_mul_right hk ?_
        rw [h, Nat.mul_assoc, Nat.mul_assoc, ← Nat.pow_add, ← Nat.pow_add, show re r + b - a + a = re r + b by omega]
      rw [this]
      exact cut_exact .even neg _ _
  rw [hkept, show ((re r : Int) - 1074 - -1074).toNat = re r by omega, hre, Nat.min_eq_left (by omega)]
theorem rung_of {q e : Nat} (hq : q < 9007199254740992) (hq0 : q ≠ 0) (he : e ≤ 2045) (h52 : 52 ≤ q.log2 + e) : ∃ r, r < 9218868437227405312 ∧ magn r = q * 2 ^ e := by
  have hl : q.log2 ≤ 52 := by have := (Nat.log2_lt hq0 (k := 53)).2 (by simpa using hq); omega
  have hlo : 2 ^ q.log2 ≤ q := Nat.log2_self_le hq0
  have hhi : q < 2 ^ (q.log2 + 1) := Nat.lt_log2_self
  obtain ⟨d, hd⟩ : ∃ d, d = 52 - q.log2 := ⟨_, rfl⟩
  have p1 : 2 ^ q.log2 * 2 ^ d = 4503599627370496 := by rw [← Nat.pow_add, show q.log2 + d = 52 by omega]
  have p2 : 2 ^ (q.log2 + 1) * 2 ^ d = 9007199254740992 := by rw [← Nat.pow_add, show q.log2 + 1 + d = 53 by omega]
  obtain ⟨t, ht⟩ : ∃ t, t = q * 2 ^ d := ⟨_, rfl⟩
  have t1 : 4503599627370496 ≤ t := by rw [ht, ← p1]; exact Nat.mul_le_mul_right _ hlo
  have t2 : t < 9007199254740992 := by rw [ht, ← p2]; exact Nat.mul_lt_mul_of_pos_right hhi (Nat.two_pow_pos d)
  have hed : d ≤ e := by omega
  refine ⟨(e - d + 1) * 4503599627370496 + (t - 4503599627370496), by omega, ?_⟩
  unfold magn
  rw [if_neg (by omega), show ((e - d + 1) * 4503599627370496 + (t - 4503599627370496)) % 4503599627370496 = t - 4503599627370496 by omega, show ((e - d + 1) * 4503599627370496 + (t - 4503599627370496)) / 4503599627370496 - 1 = e - d by omega, show 4503599627370496 + (t - 4503599627370496) = t by omega, ht, Nat.mul_assoc, ← Nat.pow_add, show d + (e - d) = e by omega]
theorem num_word (neg : Bool) {r : Nat} (hr : r < 9218868437227405312) : Fin64 (double.word neg r) ∧ num (double.word neg r) = (if neg then -1 else 1) * (magn r : Int) := by
  unfold Format.word Fin64 num
  rw [signW]
  cases neg with
  | false =>
    simp only [Bool.false_eq_true, if_false]
    rw [show r % 9223372036854775808 = r by omega, show r / 9223372036854775808 = 0 by omega]
    simp
    exact hr
  | true =>
    simp only [if_true]
    rw [show (9223372036854775808 + r) % 9223372036854775808 = r by omega, show (9223372036854775808 + r) / 9223372036854775808 = 1 by omega]
    refine ⟨hr, ?_⟩
    simp
end Go.Proofs.YtcjkgnafpkkjmaaGreatDoor
namespace Go.Proofs.YtcjkgnafpkkjmaaGreatDoor
open Ieee
@[irreducible] def B1 : Nat := 1074
theorem B1_eq : B1 = 1074 := by unfold B1; rfl
def U1 : Nat := 2 ^ B1
theorem U1_pos : 0 < U1 := Nat.two_pow_pos _
def fmg (w : Nat) : Nat := magn (w % 9223372036854775808)
def fsg (w : Nat) : Bool := w / 9223372036854775808 % 2 == 1
theorem num_fmg (w : Nat) : num w = if fsg w then -(fmg w : Int) else fmg w := by
  unfold num fmg fsg
  by_cases h : w / 9223372036854775808 % 2 = 1
  · rw [if_pos h, if_pos (by simpa using h)]
  · rw [if_neg h, if_neg (by simpa using h)]
def moreB (way : Toward) (s : Bool) (gap low rest : Nat) : Bool :=
  match way with | .even => gap < 2 * rest || (gap == 2 * rest && low % 2 == 1) | .down => s && rest != 0 | .up => !s && rest != 0 | .zero => false
theorem beqd (a b : Nat) : (a == b) = decide (a = b) := by by_cases h : a = b <;> simp [h]
theorem moreB_far (way : Toward) (s : Bool) {g g' low low' rest : Nat} (h : 2 * rest < g) (h' : 2 * rest < g') : moreB way s g low rest = moreB way s g' low' rest := by
  unfold moreB
  cases way with
  | even =>
    have e1 : ¬ g < 2 * rest := by omega
    have e2 : ¬ g' < 2 * rest := by omega
    have e3 : ¬ g = 2 * rest := by omega
    have e4 : ¬ g' = 2 * rest := by omega
    simp only [beqd, e1, e2, e3, e4, decide_false, Bool.false_and, Bool.or_false]
  | down => rfl
  | up => rfl
  | zero => rfl
theorem moreB_scale (way : Toward) (s : Bool) {g low rest p : Nat} (hp : 0 < p) : moreB way s (g * p) low (rest * p) = moreB way s g low rest := by
  have h1 : (g * p < 2 * (rest * p)) ↔ g < 2 * rest := by
    rw [← Nat.mul_assoc]; exact Nat.mul_lt_mul_right hp
  have h2 : (g * p = 2 * (rest * p)) ↔ g = 2 * rest := by
    rw [← Nat.mul_assoc]; exact ⟨fun h => Nat.eq_of_mul_eq_mul_right hp h, fun h => congrArg (· * p) h⟩
  have h3 : (rest * p = 0) ↔ rest = 0 := by
    constructor
    · intro h
      rcases Nat.mul_eq_zero.1 h with h | h
      · exact h
      · omega
    · intro h; rw [h, Nat.zero_mul]
  unfold moreB
  cases way with
  | even => simp only [beqd, decide_eq_decide.2 h1, decide_eq_decide.2 h2]
  | down => simp only [bne, beqd, decide_eq_decide.2 h3]
  | up => simp only [bne, beqd, decide_eq_decide.2 h3]
  | zero => rfl
theorem cut_plain (way : Toward) (s : Bool) (n drop : Nat) : way.cut s n drop = n / 2 ^ drop + (moreB way s (2 ^ drop) (n / 2 ^ drop) (n % 2 ^ drop)).toNat := by
  unfold Toward.cut
  dsimp only
  rcases Nat.le_total drop (n.log2 + 2) with hl | hl
  · rw [Nat.min_eq_left hl, Nat.shiftLeft_eq, Nat.one_mul]
    rfl
  · rw [Nat.min_eq_right hl, Nat.shiftLeft_eq, Nat.one_mul]
    have hn2 : n < 2 ^ (n.log2 + 1) := Nat.lt_log2_self
    have hn3 : 2 ^ (n.log2 + 2) = 2 ^ (n.log2 + 1) * 2 := Nat.pow_succ ..
    have hn4 : 2 ^ (n.log2 + 2) ≤ 2 ^ drop := Nat.pow_le_pow_right (by decide) hl
    generalize 2 ^ (n.log2 + 2) = G at *
    generalize 2 ^ (n.log2 + 1) = H at *
    generalize 2 ^ drop = D at *
    rw [Nat.div_eq_of_lt (show n < G by omega), Nat.div_eq_of_lt (show n < D by omega), Nat.mod_eq_of_lt (show n < G by omega), Nat.mod_eq_of_lt (show n < D by omega)]
    congr 2
    exact moreB_far way s (g := G) (g' := D) (low := 0) (low' := 0) (by omega) (by omega)
def mkWh (way : Toward) (s : Bool) (X : Nat) : Nat := X / U1 + (moreB way s U1 (X / U1) (X % U1)).toNat
theorem mkWh_le (way : Toward) (s : Bool) (X : Nat) : mkWh way s X ≤ X / U1 + 1 := by
  unfold mkWh
  cases moreB way s U1 (X / U1) (X % U1) <;> simp
theorem moreB_zero (way : Toward) (s : Bool) {g low : Nat} (hg : 0 < g) : moreB way s g low 0 = false := by
  unfold moreB
  cases way with
  | even =>
    have : ¬ g = 0 := by omega
    simp [this]
  | down => simp
  | up => simp
  | zero => rfl
theorem mkWh_whole (way : Toward) (s : Bool) (q : Nat) : mkWh way s (q * U1) = q := by
  unfold mkWh
  rw [Nat.mul_div_cancel _ U1_pos, Nat.mul_mod_left, moreB_zero _ _ U1_pos]; rfl
theorem integral_fin (way : Toward) {w : Nat} (h : Fin64 w) : (double.read w).integral way = .number (fsg w) (mkWh way (fsg w) (fmg w)) 0 := by
  rw [read_fin h]
  unfold fmg
  rw [magn_eq]
  change Datum.number (fsg w) (way.cut (fsg w) _ _) 0 = _
  generalize fsg w = s
  generalize rq (w % 9223372036854775808) = n
  generalize re (w % 9223372036854775808) = e
  congr 1
  have hb := B1_eq
  rw [cut_plain]
  rcases Nat.le_total B1 e with he | he
  · rw [show (-(-1074 + (e : Int))).toNat = 0 by omega, show (-1074 + (e : Int)).toNat = e - B1 by omega, Nat.shiftLeft_eq, Nat.pow_zero, Nat.div_one, Nat.mod_one, moreB_zero _ _ (by decide)]
    have h2 : n * 2 ^ e = n * 2 ^ (e - B1) * U1 := by unfold U1; rw [Nat.mul_assoc, ← Nat.pow_add, show e - B1 + B1 = e by omega]
    rw [h2, mkWh_whole]; rfl
  · obtain ⟨d, hd, rfl⟩ : ∃ d, d ≤ B1 ∧ e = B1 - d := ⟨B1 - e, by omega, by omega⟩
    rw [show (-(-1074 + ((B1 - d : Nat) : Int))).toNat = d by omega, show (-1074 + ((B1 - d : Nat) : Int)).toNat = 0 by omega, Nat.shiftLeft_zero]
    have hU : U1 = 2 ^ d * 2 ^ (B1 - d) := by unfold U1; rw [← Nat.pow_add, show d + (B1 - d) = B1 by omega]
    have hp : 0 < 2 ^ (B1 - d) := Nat.two_pow_pos _
    unfold mkWh
    rw [hU, Nat.mul_div_mul_right _ _ hp, Nat.mul_mod_mul_right, moreB_scale _ _ hp]
theorem whole_bits (way : Toward) {w : Nat} (h : Fin64 w) : ∃ r, r < 9218868437227405312 ∧ magn r = mkWh way (fsg w) (fmg w) * U1 ∧ double.write ((double.read w).integral way) = double.word (fsg w) r := by
  rw [integral_fin way h]
  have key : ∃ r, r < 9218868437227405312 ∧ magn r = mkWh way (fsg w) (fmg w) * U1 := by
    have hq := rq_lt (w % 9223372036854775808)
    have hm : fmg w = rq (w % 9223372036854775808) * 2 ^ re (w % 9223372036854775808) := magn_eq _
    have hb := B1_eq
    rcases Nat.lt_or_ge (re (w % 9223372036854775808)) B1 with he | he
    · have hX : fmg w / U1 < 4503599627370496 + 1 := by
        rw [hm]
        refine (Nat.div_lt_iff_lt_mul U1_pos).2 ?_
        unfold U1
        have h1 : 2 ^ re (w % 9223372036854775808) ≤ 2 ^ (B1 - 1) := Nat.pow_le_pow_right (by decide) (by omega)
        have h2 : (2 : Nat) ^ B1 = 2 ^ (B1 - 1) * 2 := by rw [← Nat.pow_succ, show (B1 - 1).succ = B1 by omega]
        have h3 := Nat.mul_le_mul (Nat.le_of_lt hq) h1
        have h4 : 0 < 2 ^ (B1 - 1) := Nat.two_pow_pos _
        rw [h2]
        generalize 2 ^ (B1 - 1) = P at *
        generalize rq (w % 9223372036854775808) * 2 ^ re (w % 9223372036854775808) = Q at *
        omega
      have hI := mkWh_le way (fsg w) (fmg w)
      by_cases h0 : mkWh way (fsg w) (fmg w) = 0
      · exact ⟨0, by decide, by rw [h0, Nat.zero_mul]; rfl⟩
      · exact rung_of (e := B1) (by omega) h0 (by omega) (by omega)
    · refine ⟨w % 9223372036854775808, h, ?_⟩
      have h2 : fmg w = rq (w % 9223372036854775808) * 2 ^ (re (w % 9223372036854775808) - B1) * U1 := by
        rw [hm]; unfold U1; rw [Nat.mul_assoc, ← Nat.pow_add, show re (w % 9223372036854775808) - B1 + B1 = re (w % 9223372036854775808) by omega]
      rw [h2, mkWh_whole]
      exact h2
  obtain ⟨r, hr, hm⟩ := key
  exact ⟨r, hr, hm, nearest_exact (a := B1) (b := 0) _ hr (by rw [hm, Nat.pow_zero, Nat.mul_one]; rfl) (by have := B1_eq; omega)⟩
def floorW (w : Nat) : Nat := double.write ((double.read w).integral .down)
def truncW (w : Nat) : Nat := double.write ((double.read w).integral .zero)
theorem floor_num {w : Nat} (h : Fin64 w) : Fin64 (floorW w) ∧ num (floorW w) = num w / U1 * U1 := by
  obtain ⟨r, hr, hm, he⟩ := whole_bits .down h
  unfold floorW
  rw [he]
  obtain ⟨h1, h2⟩ := num_word (fsg w) hr
  refine ⟨h1, ?_⟩
  rw [h2, hm, num_fmg]
  have hU := U1_pos
  generalize fmg w = X
  generalize fsg w = s
  unfold mkWh moreB
  generalize U1 = U at *
  have hdm := Nat.div_add_mod X U
  have hml := Nat.mod_lt X hU
  cases s with
  | false =>
    simp only [Bool.false_eq_true, if_false, Bool.false_and, Bool.toNat_false, Nat.add_zero]
    push_cast; rw [Int.one_mul]
  | true =>
    simp only [if_true, Bool.true_and]
    by_cases hr0 : X % U = 0
    · have e1 : (-(X : Int)) / U = -((X / U : Nat) : Int) := by
        rw [show X = X / U * U by rw [Nat.mul_comm]; omega]
        rw [Nat.mul_div_cancel _ hU]
        push_cast
        rw [← Int.neg_mul, Int.mul_ediv_cancel _ (by omega)]
      rw [e1, hr0]
      simp only [bne_self_eq_false, Bool.toNat_false, Nat.add_zero]
      push_cast
      rw [Int.neg_mul, Int.neg_mul, Int.one_mul]
    · have e1 : (-(X : Int)) / U = -((X / U : Nat) : Int) - 1 := by
        have hb : (X : Int) = (U : Int) * ((X / U : Nat) : Int) + ((X % U : Nat) : Int) := by rw [← Int.natCast_mul, ← Int.natCast_add, hdm]
        rw [show -(X : Int) = ((U : Int) - ((X % U : Nat) : Int)) + (-((X / U : Nat) : Int) - 1) * U by rw [hb, Int.sub_mul, Int.neg_mul, Int.mul_comm (U : Int)]; omega]
        rw [Int.add_mul_ediv_right _ _ (by omega), Int.ediv_eq_zero_of_lt (by omega) (by omega)]
        omega
      rw [e1]
      have : (X % U != 0) = true := by simpa using hr0
      rw [this]
      simp only [Bool.toNat_true]
      push_cast
      generalize (X : Int) / (U : Int) = Q
      rw [show -Q - 1 = -(Q + 1) by omega, Int.neg_mul, Int.neg_mul, Int.one_mul]
theorem trunc_num {w : Nat} (h : Fin64 w) : Fin64 (truncW w) ∧ num (truncW w) = (if fsg w then -1 else 1) * ((fmg w / U1 * U1 : Nat) : Int) := by
  obtain ⟨r, hr, hm, he⟩ := whole_bits .zero h
  unfold truncW
  rw [he]
  obtain ⟨h1, h2⟩ := num_word (fsg w) hr
  refine ⟨h1, ?_⟩
  rw [h2, hm]
  rfl
end Go.Proofs.YtcjkgnafpkkjmaaGreatDoor
namespace Go.Proofs.YtcjkgnafpkkjmaaGreatDoor
open Ieee
def isNan (w : Nat) : Bool := decide (9218868437227405312 < w % 9223372036854775808)
@[irreducible] def B2 : Nat := 4294967296 ^ 64
theorem B2_eq : B2 = 4294967296 ^ 64 := by unfold B2; rfl
def BIG : Nat := B2 * U1
def keyF (w : Nat) : Int := if w % 9223372036854775808 < 9218868437227405312 then num w else if fsg w then -(BIG : Int) else BIG
theorem keyF_fin {w : Nat} (h : Fin64 w) : keyF w = num w := if_pos h
theorem magn_lt {r : Nat} (h : r < 9218868437227405312) : magn r < BIG := by
  rw [magn_eq]
  have hq := rq_lt r
  have he : re r ≤ 2045 := by unfold re; omega
  obtain ⟨k, hk⟩ : ∃ k, k = 971 := ⟨_, rfl⟩
  obtain ⟨j, hj⟩ : ∃ j, j = 64 := ⟨_, rfl⟩
  have h1 : 2 ^ re r ≤ 2 ^ k * U1 := by
    unfold U1
    rw [← Nat.pow_add]
    exact Nat.pow_le_pow_right (by decide) (by have := B1_eq; omega)
  have h2 : (9007199254740992 : Nat) * 2 ^ k < B2 := by
    rw [B2_eq, ← hj]
    calc (9007199254740992 : Nat) * 2 ^ k = 2 ^ (53 + k) := by rw [Nat.pow_add]
      _ < 2 ^ (32 * j) := Nat.pow_lt_pow_right (by decide) (by omega)
      _ = 4294967296 ^ j := by rw [Nat.pow_mul]
  unfold BIG
  calc rq r * 2 ^ re r ≤ 9007199254740992 * 2 ^ re r := Nat.mul_le_mul_right _ (Nat.le_of_lt hq)
    _ ≤ 9007199254740992 * (2 ^ k * U1) := Nat.mul_le_mul_left _ h1
    _ = 9007199254740992 * 2 ^ k * U1 := by rw [Nat.mul_assoc]
    _ < B2 * U1 := Nat.mul_lt_mul_of_pos_right h2 U1_pos
theorem num_lt {w : Nat} (h : Fin64 w) : -(BIG : Int) < num w ∧ num w < BIG := by
  have := magn_lt h
  rw [num_fmg]
  unfold fmg
  split <;> omega
theorem read_inf {w : Nat} (h : w % 9223372036854775808 = 9218868437227405312) : double.read w = .infinity (fsg w) := by
  unfold Format.read fsg
  rw [binade, infR, signW]
  simp only
  rw [if_neg (by omega), if_neg (by omega), if_pos h]
theorem read_nan {w : Nat} (h : isNan w = true) : ∃ f, double.read w = .nan (fsg w) f := by
  unfold isNan at h
  simp only [decide_eq_true_eq] at h
  unfold Format.read fsg
  rw [binade, infR, signW]
  simp only
  rw [if_neg (by omega), if_neg (by omega), if_neg (by omega)]
  exact ⟨_, rfl⟩
theorem not_nan {w : Nat} (h : isNan w = false) : Fin64 w ∨ w % 9223372036854775808 = 9218868437227405312 := by
  unfold isNan at h
  simp only [decide_eq_false_iff_not] at h
  unfold Fin64
  omega
theorem key_inf {w : Nat} (h : w % 9223372036854775808 = 9218868437227405312) : keyF w = if fsg w then -(BIG : Int) else BIG := if_neg (by omega)
theorem fcmpI (x y : Int) : compare x y = if x < y then .lt else if x = y then .eq else .gt := rfl
theorem order_nan_l {x y : Nat} (h : isNan x = true) : double.order x y = none := by
  obtain ⟨f, hf⟩ := read_nan h
  unfold Format.order
  rw [hf]; rfl
theorem order_key {x y : Nat} (hx : isNan x = false) (hy : isNan y = false) : double.order x y = some (compare (keyF x) (keyF y)) := by
  have hB : (0 : Int) < (BIG : Int) := by
    have h1 := U1_pos
    have h2 : 0 < B2 := by rw [B2_eq]; exact Nat.pow_pos (by decide)
    unfold BIG
    exact Int.natCast_pos.2 (Nat.mul_pos h2 h1)
  rcases not_nan hx with hx | hx
  · rcases not_nan hy with hy | hy
    · rw [order_fin hx hy, keyF_fin hx, keyF_fin hy]
    · have := num_lt hx
      rw [keyF_fin hx, key_inf hy]
      unfold Format.order
      rw [read_fin hx, read_inf hy]
      rw [fcmpI]
      cases fsg y with
      | true => simp only [Datum.order, if_true]; rw [if_neg (by omega), if_neg (by omega)]
      | false => simp only [Datum.order, Bool.false_eq_true, if_false]; rw [if_pos (by omega)]
  · rcases not_nan hy with hy | hy
    · have := num_lt hy
      rw [keyF_fin hy, key_inf hx]
      unfold Format.order
      rw [read_fin hy, read_inf hx]
      rw [fcmpI]
      cases fsg x with
      | true => simp only [Datum.order, if_true]; rw [if_pos (by omega)]
      | false => simp only [Datum.order, Bool.false_eq_true, if_false]; rw [if_neg (by omega), if_neg (by omega)]
    · rw [key_inf hx, key_inf hy]
      unfold Format.order
      rw [read_inf hy, read_inf hx]
      rw [fcmpI]
      cases fsg x <;> cases fsg y <;> simp only [Datum.order, if_true, Bool.false_eq_true, if_false]
      · rw [if_neg (by omega)]; rfl
      · rw [if_neg (by omega), if_neg (by omega)]; rfl
      · rw [if_pos (by omega)]; rfl
      · rw [if_neg (by omega)]; rfl
end Go.Proofs.YtcjkgnafpkkjmaaGreatDoor
namespace Go.Proofs.YtcjkgnafpkkjmaaGreatDoor
open Ieee
def keptN (v : Nat) : Nat := if v.log2 ≤ 52 then v * 2 ^ (52 - v.log2) else v / 2 ^ (v.log2 - 52) + (moreB .even false (2 ^ (v.log2 - 52)) (v / 2 ^ (v.log2 - 52)) (v % 2 ^ (v.log2 - 52))).toNat
def ofR (v : Nat) : Nat := if v = 0 then 0 else min ((v.log2 + 1022) * 4503599627370496 + keptN v) 9218868437227405312
theorem lead_b {v : Nat} (h : v ≠ 0) (hl : ¬ v.log2 ≤ 52) : 4503599627370496 ≤ v / 2 ^ (v.log2 - 52) ∧ v / 2 ^ (v.log2 - 52) < 9007199254740992 := by
  have h1 := Nat.log2_self_le h
  have h2 := Nat.lt_log2_self (n := v)
  obtain ⟨d, hd⟩ : ∃ d, d = v.log2 - 52 := ⟨_, rfl⟩
  have e1 : v.log2 = 52 + d := by omega
  rw [← hd]
  rw [e1, Nat.pow_add] at h1
  rw [e1, show 52 + d + 1 = 53 + d by omega, Nat.pow_add] at h2
  have hp := Nat.two_pow_pos d
  exact ⟨(Nat.le_div_iff_mul_le hp).2 h1, (Nat.div_lt_iff_lt_mul hp).2 h2⟩
theorem keptN_b {v : Nat} (h : v ≠ 0) : 4503599627370496 ≤ keptN v ∧ keptN v ≤ 9007199254740992 := by
  unfold keptN
  by_cases hl : v.log2 ≤ 52
  · rw [if_pos hl]
    have h1 := Nat.log2_self_le h
    have h2 := Nat.lt_log2_self (n := v)
    obtain ⟨d, hd⟩ : ∃ d, d = 52 - v.log2 := ⟨_, rfl⟩
    rw [← hd]
    have p1 : 2 ^ v.log2 * 2 ^ d = 4503599627370496 := by rw [← Nat.pow_add, show v.log2 + d = 52 by omega]
    have p2 : 2 ^ (v.log2 + 1) * 2 ^ d = 9007199254740992 := by rw [← Nat.pow_add, show v.log2 + 1 + d = 53 by omega]
    have hp := Nat.two_pow_pos d
    exact ⟨by rw [← p1]; exact Nat.mul_le_mul_right _ h1, by rw [← p2]; exact Nat.mul_le_mul_right _ (Nat.le_of_lt h2)⟩
  · rw [if_neg hl]
    have := lead_b h hl
    generalize moreB .even false (2 ^ (v.log2 - 52)) (v / 2 ^ (v.log2 - 52)) (v % 2 ^ (v.log2 - 52)) = z
    cases z <;> simp <;> omega
theorem nearest_of (s : Bool) (v : Nat) : double.nearest s v 0 = double.word s (ofR v) := by
  unfold Format.nearest ofR
  rw [least, binade, infR]
  by_cases h : v = 0
  · rw [if_pos h, if_pos h]
  · rw [if_neg h, if_neg h]
    simp only
    have hf : ((double.fractionBits : Nat) : Int) = 52 := rfl
    rw [hf, show max ((0 : Int) + (v.log2 : Int) - 52) (-1074) = (v.log2 : Int) - 52 by omega]
    rw [show (((v.log2 : Int) - 52) - -1074).toNat = v.log2 + 1022 by omega]
    congr 3
    unfold keptN
    by_cases hl : v.log2 ≤ 52
    · rw [if_pos hl, show ((0 : Int) - ((v.log2 : Int) - 52)).toNat = 52 - v.log2 by omega, show (((v.log2 : Int) - 52) - 0).toNat = 0 by omega, Nat.shiftLeft_eq]
      have := cut_exact .even s (v * 2 ^ (52 - v.log2)) 0
      simpa using this
    · rw [if_neg hl, show ((0 : Int) - ((v.log2 : Int) - 52)).toNat = 0 by omega, show (((v.log2 : Int) - 52) - 0).toNat = v.log2 - 52 by omega, Nat.shiftLeft_zero, cut_plain]
      rfl
theorem ofR_small {v : Nat} (h : v ≠ 0) (hl : v < 9007199254740992) : ofR v = (v.log2 + 1022) * 4503599627370496 + v * 2 ^ (52 - v.log2) ∧ ofR v < 9218868437227405312 := by
  have hl2 : v.log2 ≤ 52 := by have := (Nat.log2_lt h (k := 53)).2 (by simpa using hl); omega
  have hb := keptN_b h
  have hk : keptN v = v * 2 ^ (52 - v.log2) := by unfold keptN; rw [if_pos hl2]
  rw [hk] at hb
  unfold ofR
  rw [if_neg h, hk]
  omega
theorem magn_ofR {v : Nat} (hl : v < 9007199254740992) : magn (ofR v) = v * U1 := by
  by_cases h : v = 0
  · subst h; unfold ofR; rw [if_pos rfl, Nat.zero_mul]; rfl
  · have hl2 : v.log2 ≤ 52 := by have := (Nat.log2_lt h (k := 53)).2 (by simpa using hl); omega
    have hb := keptN_b h
    have hk : keptN v = v * 2 ^ (52 - v.log2) := by unfold keptN; rw [if_pos hl2]
    rw [hk] at hb
    have hlt : v * 2 ^ (52 - v.log2) < 9007199254740992 := by
      have h2 := Nat.lt_log2_self (n := v)
      have p2 : 2 ^ (v.log2 + 1) * 2 ^ (52 - v.log2) = 9007199254740992 := by rw [← Nat.pow_add, show v.log2 + 1 + (52 - v.log2) = 53 by omega]
      rw [← p2]
      exact Nat.mul_lt_mul_of_pos_right h2 (Nat.two_pow_pos _)
    have he := (ofR_small h hl).1
    unfold magn
    generalize hq : v * 2 ^ (52 - v.log2) = q at *
    rw [he, if_neg (by omega), show ((v.log2 + 1022) * 4503599627370496 + q) % 4503599627370496 = q - 4503599627370496 by omega, show ((v.log2 + 1022) * 4503599627370496 + q) / 4503599627370496 - 1 = v.log2 + 1022 by omega, show 4503599627370496 + (q - 4503599627370496) = q by omega, ← hq, Nat.mul_assoc, ← Nat.pow_add]
    unfold U1
    rw [show 52 - v.log2 + (v.log2 + 1022) = B1 by have := B1_eq; omega]
end Go.Proofs.YtcjkgnafpkkjmaaGreatDoor
namespace Go.Proofs.YtcjkgnafpkkjmaaGreatDoor
open Ieee
theorem word_of {w : Nat} (hw : w < 18446744073709551616) : double.word (fsg w) (w % 9223372036854775808) = w := by
  unfold Format.word fsg
  rw [signW]
  by_cases h : w / 9223372036854775808 % 2 = 1
  · rw [if_pos (by simpa using h)]; omega
  · rw [if_neg (by simpa using h)]; omega
theorem read_one : double.read 4607182418800017408 = .number false 4503599627370496 (-52) := by decide
theorem mul_one64 {w : Nat} (h : Fin64 w) (hw : w < 18446744073709551616) : double.mul 4607182418800017408 w = some w := by
  unfold Format.mul
  rw [read_one, read_fin h]
  simp only [Datum.product, Option.map_some, Option.some.injEq, Format.write, Bool.false_xor]
  have hm := magn_eq (w % 9223372036854775808)
  have := nearest_exact (neg := fsg w) (mag := 4503599627370496 * rq (w % 9223372036854775808)) (r := w % 9223372036854775808) (a := re (w % 9223372036854775808)) (b := 52) (place := -52 + (-1074 + (re (w % 9223372036854775808) : Int))) h (by rw [hm, Nat.mul_assoc, Nat.mul_comm]) (by omega)
  rw [word_of hw] at this
  exact this
theorem ofInt_nat (v : Nat) : floatOfInt .f64 (v : Int) = ofR v := by
  have h1 : floatOfInt .f64 (v : Int) = double.nearest (decide ((v : Int) < 0)) (v : Int).natAbs 0 := rfl
  have h2 : decide ((v : Int) < 0) = false := by simp
  have h3 : (v : Int).natAbs = v := by omega
  rw [h1, h2, h3, nearest_of]
  unfold Format.word
  rw [if_neg (by decide)]
theorem ofR_fin {v : Nat} (h : v < 9007199254740992) : Fin64 (ofR v) ∧ ofR v < 9218868437227405312 ∧ fsg (ofR v) = false ∧ fmg (ofR v) = v * U1 := by
  have hlt : ofR v < 9218868437227405312 := by
    by_cases h0 : v = 0
    · subst h0; unfold ofR; rw [if_pos rfl]; decide
    · exact (ofR_small h0 h).2
  have hm : ofR v % 9223372036854775808 = ofR v := Nat.mod_eq_of_lt (by omega)
  refine ⟨by unfold Fin64; rw [hm]; exact hlt, hlt, ?_, by unfold fmg; rw [hm]; exact magn_ofR h⟩
  unfold fsg
  rw [Nat.div_eq_of_lt (by omega)]; rfl
theorem toInt_ofR {v : Nat} (h : v < 9007199254740992) : floatToIntVal .f64 (ofR v) .u64 = some (v : Int) := by
  obtain ⟨h1, h2, h3, h4⟩ := ofR_fin h
  unfold floatToIntVal
  have hi := integral_fin .zero h1
  rw [h3, h4, mkWh_whole] at hi
  have : (FloatKind.decode .f64 (ofR v)).toInt .zero = some (v : Int) := by
    show (double.read (ofR v)).toInt .zero = _
    unfold Datum.toInt
    rw [hi]
    simp only [signed_eq]
    simp
  rw [this]
  simp only
  rw [if_pos ⟨by show (0 : Int) ≤ _; omega, by show (v : Int) ≤ 18446744073709551615; omega⟩]
end Go.Proofs.YtcjkgnafpkkjmaaGreatDoor
namespace Go.Proofs.YtcjkgnafpkkjmaaGreatDoor
open Ieee
theorem magn_step (r : Nat) : magn r < magn (r + 1) := by
  unfold magn
  by_cases h : r + 1 < 4503599627370496
  · rw [if_pos h, if_pos (by omega)]; omega
  · rw [if_neg h]
    by_cases h1 : r < 4503599627370496
    · rw [if_pos h1, show (r + 1) % 4503599627370496 = 0 by omega, show (r + 1) / 4503599627370496 - 1 = 0 by omega, Nat.pow_zero]; omega
    · rw [if_neg h1]
      by_cases h2 : r % 4503599627370496 = 4503599627370495
      · rw [h2, show (r + 1) % 4503599627370496 = 0 by omega, show (r + 1) / 4503599627370496 - 1 = (r / 4503599627370496 - 1) + 1 by omega, Nat.pow_succ]
        have := Nat.two_pow_pos (r / 4503599627370496 - 1)
        generalize 2 ^ (r / 4503599627370496 - 1) = P at *
        omega
      · rw [show (r + 1) % 4503599627370496 = r % 4503599627370496 + 1 by omega, show (r + 1) / 4503599627370496 - 1 = r / 4503599627370496 - 1 by omega]
        exact Nat.mul_lt_mul_of_pos_right (by omega) (Nat.two_pow_pos _)
theorem magn_lt_of {a b : Nat} (h : a < b) : magn a < magn b := by
  induction b with
  | zero => omega
  | succ b ih =>
    rcases Nat.lt_or_ge a b with h1 | h1
    · exact Nat.lt_trans (ih h1) (magn_step b)
    · rw [show a = b by omega]; exact magn_step b
theorem magn_le_of {a b : Nat} (h : a ≤ b) : magn a ≤ magn b := by
  rcases Nat.lt_or_ge a b with h1 | h1
  · exact Nat.le_of_lt (magn_lt_of h1)
  · rw [show a = b by omega]; exact Nat.le_refl _
def isInf (w : Nat) : Bool := decide (w % 9223372036854775808 = 9218868437227405312)
theorem key_pos {w : Nat} (h : w < 9223372036854775808) (hf : Fin64 w) : keyF w = magn w := by
  rw [keyF_fin hf, num_fmg]
  unfold fsg fmg
  rw [Nat.div_eq_of_lt h, Nat.mod_eq_of_lt h]; rfl
theorem gt_max (w : Nat) : (FloatKind.f64.format.order w 9218868437227405311 == some .gt) = (isInf w && !fsg w) := by
  change (double.order w 9218868437227405311 == some .gt) = _
  have hM : isNan 9218868437227405311 = false := by decide
  have hMf : Fin64 9218868437227405311 := by unfold Fin64; decide
  cases h : isNan w with
  | true =>
    rw [order_nan_l h]
    unfold isNan at h
    simp only [decide_eq_true_eq] at h
    unfold isInf
    rw [decide_eq_false (by omega)]; rfl
  | false =>
    rw [order_key h hM, key_pos (w := 9218868437227405311) (by decide) hMf, fcmpI]
    rcases not_nan h with hf | hi
    · have h1 : isInf w = false := by
        unfold isInf
        unfold Fin64 at hf
        exact decide_eq_false (by omega)
      have h2 : magn (w % 9223372036854775808) ≤ magn 9218868437227405311 := magn_le_of (by unfold Fin64 at hf; omega)
      have h3 : keyF w ≤ magn 9218868437227405311 := by
        rw [keyF_fin hf, num_fmg]; unfold fmg
        split <;> omega
      rw [h1]
      generalize magn 9218868437227405311 = M at *
      by_cases h4 : keyF w < (M : Int)
      · rw [if_pos h4]; rfl
      · rw [if_neg h4, if_pos (by omega)]; rfl
    · have h1 : isInf w = true := decide_eq_true hi
      rw [h1, key_inf hi]
      have hb := magn_lt (r := 9218868437227405311) (by decide)
      generalize magn 9218868437227405311 = M at *
      cases fsg w with
      | true => rw [if_pos rfl, if_pos (by omega)]; rfl
      | false => simp only [Bool.false_eq_true, if_false]; rw [if_neg (by omega), if_neg (by omega)]; rfl
theorem neg_eq {b : Nat} (h : b < 18446744073709551616) : Op.negFloat .f64 b = if fsg b then b - 9223372036854775808 else b + 9223372036854775808 := by
  show b ^^^ 2 ^ 63 = _
  have hx : b = b % 9223372036854775808 + (b / 9223372036854775808) * 9223372036854775808 := by omega
  unfold fsg
  by_cases hs : b / 9223372036854775808 % 2 = 1
  · rw [if_pos (by simpa using hs)]
    apply Nat.eq_of_testBit_eq
    intro i
    rw [Nat.testBit_xor, Nat.testBit_two_pow]
    obtain ⟨r, hr⟩ : ∃ r, r = b - 9223372036854775808 := ⟨_, rfl⟩
    rw [← hr]
    have hb : b = 2 ^ 63 + r := by omega
    have hr2 : r < 2 ^ 63 := by omega
    have ho := Nat.two_pow_add_eq_or_of_lt hr2 1
    rw [Nat.mul_one] at ho
    rw [hb, ho, Nat.testBit_or, Nat.testBit_two_pow]
    by_cases hi : 63 = i
    · subst hi
      rw [Nat.testBit_lt_two_pow hr2]; rfl
    · simp [hi]
  · rw [if_neg (by simpa using hs)]
    have hr2 : b < 2 ^ 63 := by omega
    rw [Nat.add_comm, show b ^^^ 2 ^ 63 = 2 ^ 63 ||| b by
      apply Nat.eq_of_testBit_eq
      intro i
      rw [Nat.testBit_xor, Nat.testBit_or, Nat.testBit_two_pow]
      by_cases hi : 63 = i
      · subst hi; rw [Nat.testBit_lt_two_pow hr2]; rfl
      · simp [hi]]
    have ho := Nat.two_pow_add_eq_or_of_lt hr2 1
    rw [Nat.mul_one] at ho
    exact ho.symm
end Go.Proofs.YtcjkgnafpkkjmaaGreatDoor
namespace Go.Proofs.YtcjkgnafpkkjmaaGreatDoor
open Ieee
theorem magn_at (e q : Nat) (h1 : 4503599627370496 ≤ q) (h2 : q ≤ 9007199254740992) : magn (e * 4503599627370496 + q) = q * 2 ^ e := by
  have hr : ¬ e * 4503599627370496 + q < 4503599627370496 := by omega
  unfold magn
  rw [if_neg hr]
  by_cases h : q < 9007199254740992
  · rw [show (e * 4503599627370496 + q) % 4503599627370496 = q - 4503599627370496 by omega, show (e * 4503599627370496 + q) / 4503599627370496 - 1 = e by omega, show 4503599627370496 + (q - 4503599627370496) = q by omega]
  · have hq : q = 9007199254740992 := by omega
    subst hq
    rw [show (e * 4503599627370496 + 9007199254740992) % 4503599627370496 = 0 by omega, show (e * 4503599627370496 + 9007199254740992) / 4503599627370496 - 1 = e + 1 by omega, Nat.add_zero, Nat.pow_succ, Nat.mul_comm (2 ^ e), ← Nat.mul_assoc]
end Go.Proofs.YtcjkgnafpkkjmaaGreatDoor
namespace Go.Proofs.YtcjkgnafpkkjmaaGreatDoor
open Ieee
@[irreducible] def B3 : Nat := 1073
def H1 : Nat := 2 ^ B3
end Go.Proofs.YtcjkgnafpkkjmaaGreatDoor
namespace Go.Proofs.YtcjkgnafpkkjmaaGreatDoor
open Ieee
end Go.Proofs.YtcjkgnafpkkjmaaGreatDoor
end
