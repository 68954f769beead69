/- The texts and numbers of numbers: a part of the walk. No condition. -/
import Derived.Test.YtcjkgnafpkkjmaaGreatDoorQk01
import Derived.Test.YtcjkgnafpkkjmaaGreatDoorQk02
import Derived.Laws.Externs
import Derived.Laws.Bits64b
import Derived.Laws.BitsLemmas
set_option linter.all false
section
namespace Go.Proofs.YtcjkgnafpkkjmaaGreatDoor
open Go.ChangeShapes Go.WideShapes Go.RowKit
theorem bits_run (b : Nat) (w : World) : (callFunc 39 #[.float .f64 b]).run Tryz.prog w = .ok (.value (.int .u64 (b : Int))) w := by
  rw [run_callFunc_extern Tryz.func39 (by kernel_rfl) (by kernel_rfl) (by kernel_rfl) (e := Extern.MathFloatBits.float64bits) (by kernel_rfl)]
  rfl
theorem from_run (b : Nat) (w : World) : (callFunc 8 #[.int .u64 (b : Int)]).run Tryz.prog w = .ok (.value (.float .f64 b)) w := by
  rw [run_callFunc_extern Tryz.func8 (by kernel_rfl) (by kernel_rfl) (by kernel_rfl) (e := Extern.MathFloatBits.float64frombits) (by kernel_rfl)]
  rfl
def bitsC (b : Nat) : Nat := if isNan b then 9221120237041090561 else b
theorem neq_nan (b : Nat) : (FloatKind.f64.format.order b b != some .eq) = isNan b := by
  change (Ieee.double.order b b != some .eq) = isNan b
  cases h : isNan b with
  | true => rw [order_nan_l h]; rfl
  | false =>
    rw [order_key h h, fcmpI, if_neg (by omega), if_pos rfl]; rfl
theorem and_exp (b : Nat) (h : b < 18446744073709551616) : bits BinOp.and IntKind.u64 ((b : Int) / 4503599627370496) 2047 = ((b / 4503599627370496 % 2048 : Nat) : Int) := by
  have h1 : ((b : Int) / 4503599627370496) = ((b / 4503599627370496 : Nat) : Int) := by omega
  rw [h1, show (2047 : Int) = ((2047 : Nat) : Int) from rfl, bits_and_u64_nat _ _ (by omega) (by decide), Nat.and_two_pow_sub_one_eq_mod _ 11]
theorem and_frac (b : Nat) (h : b < 18446744073709551616) : bits BinOp.and IntKind.u64 (b : Int) 4503599627370495 = ((b % 4503599627370496 : Nat) : Int) := by
  rw [show (4503599627370495 : Int) = ((4503599627370495 : Nat) : Int) from rfl, bits_and_u64_nat _ _ (by omega) (by decide), Nat.and_two_pow_sub_one_eq_mod _ 52]
theorem r3bits_c (b : Nat) (hb : b < 18446744073709551616) (w : World) : Calls Tryz.prog 33 #[.float .f64 b] w fun e w' => e = .returned (.int .u64 (bitsC b : Nat)) ∧ w = w' := by
  have hr := bits_run b
  have e1 := and_exp b hb
  have e2 := and_frac b hb
  obtain ⟨X, hX⟩ : ∃ X, X = bits BinOp.and IntKind.u64 ((b : Int) / 4503599627370496) 2047 := ⟨_, rfl⟩
  obtain ⟨Y, hY⟩ : ∃ Y, Y = bits BinOp.and IntKind.u64 (b : Int) 4503599627370495 := ⟨_, rfl⟩
  rw [← hX] at e1
  rw [← hY] at e2
  have hn : isNan b = (X == 2047 && Y != 0) := by
    unfold isNan
    by_cases h : X = 2047 ∧ Y ≠ 0
    · rw [decide_eq_true (by omega)]; simp [h.1, h.2]
    · rw [decide_eq_false (by omega)]
      by_cases h1 : X = 2047
      · have : Y = 0 := by omega
        simp [h1, this]
      · simp [h1]
  unfold bitsC
  by_cases h1 : X = 2047
  · by_cases h2 : Y = 0
    · have hf : isNan b = false := by rw [hn, h1, h2]; rfl
      rw [hf]
      rw [hX] at h1
      rw [hY] at h2
      have h2b : (bits BinOp.and IntKind.u64 (b : Int) 4503599627370495 != 0) = false := by rw [h2]; rfl
      clear hn e1 e2 hX hY
      go_enter Tryz.func33, Tryz.ntmps33
      go_wp2
      go_ret
      exact ⟨rfl, rfl⟩
    · have hf : isNan b = true := by rw [hn, h1]; simpa using h2
      rw [hf]
      rw [hX] at h1
      rw [hY] at h2
      have h2b : (bits BinOp.and IntKind.u64 (b : Int) 4503599627370495 != 0) = true := by simpa using h2
      clear hn e1 e2 hX hY
      go_enter Tryz.func33, Tryz.ntmps33
      go_wp2
      go_ret
      exact ⟨rfl, rfl⟩
  · have hf : isNan b = false := by rw [hn]; simp [h1]
    rw [hf]
    rw [hX] at h1
    have h1b : (bits BinOp.and IntKind.u64 ((b : Int) / 4503599627370496) 2047 == 2047) = false := by simpa using h1
    clear hn e1 e2 hX hY
    go_enter Tryz.func33, Tryz.ntmps33
    go_wp2
    go_ret
    exact ⟨rfl, rfl⟩
theorem r3same_c (a b : Nat) (ha : a < 18446744073709551616) (hb : b < 18446744073709551616) (w : World) : Calls Tryz.prog 11 #[.float .f64 a, .float .f64 b] w fun e w' => e = .returned (.bool (decide (bitsC a = bitsC b))) ∧ Fr [] w w' := by
  have hd : ((bitsC a : Int) == (bitsC b : Int)) = decide (bitsC a = bitsC b) := by
    by_cases h : bitsC a = bitsC b
    · rw [h]; simp
    · rw [decide_eq_false h]; simpa using fun hc => h (by omega)
  go_enter Tryz.func11, Tryz.ntmps11
  go_wp2_with (go_at_call 33; refine (r3bits_c _ (by assumption) _).mono ?_; rintro e w' ⟨rfl, rfl⟩)
  all_goals (
    go_ret
    first | exact ⟨rfl, Fr.refl _ _⟩ | exact ⟨rfl, (Fr.refl _ _).drew⟩ | exact ⟨rfl, (Fr.refl _ _).drew.drew⟩)
end Go.Proofs.YtcjkgnafpkkjmaaGreatDoor
namespace Go.Proofs.YtcjkgnafpkkjmaaGreatDoor
open Go.ChangeShapes Go.WideShapes Go.RowKit
theorem and_not63 (b : Nat) (h : b < 18446744073709551616) : bits BinOp.andNot IntKind.u64 (b : Int) 9223372036854775808 = ((b % 9223372036854775808 : Nat) : Int) := by
  have hx : b % 9223372036854775808 < 18446744073709551616 := by omega
  have h1 : (BitVec.ofInt 64 (b : Int)).toNat = b := by
    rw [BitVec.ofInt_natCast, BitVec.toNat_ofNat]; exact Nat.mod_eq_of_lt (by omega)
  have h2 : ~~~(BitVec.ofInt 64 (9223372036854775808 : Int)) = 9223372036854775807#64 := by decide
  show IntKind.u64.wrap ((BitVec.ofInt 64 (b : Int) &&& ~~~(BitVec.ofInt 64 (9223372036854775808 : Int))).toNat : Int) = _
  rw [h2, BitVec.toNat_and, h1, show (9223372036854775807#64).toNat = 9223372036854775807 from rfl, Nat.and_two_pow_sub_one_eq_mod _ 63, IntKind.wrap_u64]
  omega
theorem abs_c (b : Nat) (hb : b < 18446744073709551616) (w : World) : Calls Tryz.prog 27 #[.float .f64 b] w fun e w' => e = .returned (.float .f64 (b % 9223372036854775808)) ∧ w = w' := by
  have hr := bits_run b
  have hf := from_run (b % 9223372036854775808)
  have ha := and_not63 b hb
  obtain ⟨z, hz⟩ : ∃ z, z = b % 9223372036854775808 := ⟨_, rfl⟩
  rw [← hz] at hf ha ⊢
  clear hz
  go_enter Tryz.func27, Tryz.ntmps27
  go_wp2
  go_ret
  exact ⟨rfl, rfl⟩
theorem isnan_c (b : Nat) (w : World) : Calls Tryz.prog 123 #[.float .f64 b] w fun e w' => e = .returned (.bool (isNan b)) ∧ w = w' := by
  have hb := neq_nan b
  go_enter Tryz.func123, Tryz.ntmps123
  go_wp2
  go_ret
  exact ⟨rfl, rfl⟩
end Go.Proofs.YtcjkgnafpkkjmaaGreatDoor
namespace Go.Proofs.YtcjkgnafpkkjmaaGreatDoor
open Go.ChangeShapes Go.WideShapes Go.RowKit
theorem neg_run (b : Nat) (w : World) : (Op.unary .neg (.float .f64 b)).run Tryz.prog w = .ok (.float .f64 (Op.negFloat .f64 b)) w := rfl
theorem isInf_abs (b : Nat) : (isInf (b % 9223372036854775808) && !fsg (b % 9223372036854775808)) = isInf b := by
  have h1 : isInf (b % 9223372036854775808) = isInf b := by unfold isInf; rw [Nat.mod_mod]
  have h2 : fsg (b % 9223372036854775808) = false := by unfold fsg; rw [Nat.div_eq_of_lt (Nat.mod_lt _ (by decide))]; rfl
  rw [h1, h2]; simp
theorem isInf_neg {b : Nat} (h : b < 18446744073709551616) : (isInf (Op.negFloat .f64 b) && !fsg (Op.negFloat .f64 b)) = (isInf b && fsg b) := by
  rw [neg_eq h]
  by_cases hs : b / 9223372036854775808 % 2 = 1
  · have h1 : fsg b = true := by unfold fsg; simpa using hs
    have h2 : isInf (b - 9223372036854775808) = isInf b := by unfold isInf; rw [show (b - 9223372036854775808) % 9223372036854775808 = b % 9223372036854775808 by omega]
    have h3 : fsg (b - 9223372036854775808) = false := by unfold fsg; rw [Nat.div_eq_of_lt (by omega)]; rfl
    rw [h1, if_pos rfl, h2, h3]; simp
  · have h1 : fsg b = false := by unfold fsg; simpa using hs
    have h3 : fsg (b + 9223372036854775808) = true := by unfold fsg; rw [show (b + 9223372036854775808) / 9223372036854775808 = 1 by omega]; rfl
    rw [h1]
    simp only [Bool.false_eq_true, if_false]
    rw [h3]; simp
theorem isinf0_c (b : Nat) (hb : b < 18446744073709551616) (w : World) : Calls Tryz.prog 49 #[.float .f64 b, .int .i64 0] w fun e w' => e = .returned (.bool (isInf b)) ∧ w = w' := by
  have hg := gt_max (b % 9223372036854775808)
  rw [isInf_abs] at hg
  go_enter Tryz.func49, Tryz.ntmps49
  go_wp2_with (go_at_call 27; refine (abs_c _ hb _).mono ?_; rintro e w' ⟨rfl, rfl⟩)
  go_ret
  exact ⟨rfl, rfl⟩
theorem isinf1_c (b : Nat) (w : World) : Calls Tryz.prog 49 #[.float .f64 b, .int .i64 1] w fun e w' => e = .returned (.bool (isInf b && !fsg b)) ∧ w = w' := by
  have hg := gt_max b
  obtain ⟨z, hz⟩ : ∃ z, z = (isInf b && !fsg b) := ⟨_, rfl⟩
  rw [← hz] at hg ⊢
  clear hz
  go_enter Tryz.func49, Tryz.ntmps49
  go_wp2
  go_ret
  exact ⟨rfl, rfl⟩
theorem isinfm_c (b : Nat) (hb : b < 18446744073709551616) (w : World) : Calls Tryz.prog 49 #[.float .f64 b, .int .i64 (-1)] w fun e w' => e = .returned (.bool (isInf b && fsg b)) ∧ w = w' := by
  have hg := gt_max (Op.negFloat .f64 b)
  have hng := neg_run b
  rw [isInf_neg hb] at hg
  obtain ⟨z, hz⟩ : ∃ z, z = (isInf b && fsg b) := ⟨_, rfl⟩
  rw [← hz] at hg ⊢
  clear hz
  generalize Op.negFloat .f64 b = nb at *
  go_enter Tryz.func49, Tryz.ntmps49
  go_wp2
  go_ret
  exact ⟨rfl, rfl⟩
theorem integral_run (name : String) (way : Ieee.Toward) {b : Nat} (h : isNan b = false) (w : World) : (Extern.MathFloor.toIntegral name way #[.float .f64 b]).run Tryz.prog w = .ok (.float .f64 (Ieee.double.write ((Ieee.double.read b).integral way))) w := by
  have hd : ∃ d, Ieee.double.read b = d ∧ ∀ s f, d ≠ .nan s f := by
    refine ⟨_, rfl, fun s f hc => ?_⟩
    rcases not_nan h with h | h
    · rw [read_fin h] at hc; simp at hc
    · rw [read_inf h] at hc; simp at hc
  obtain ⟨d, hd, hn⟩ := hd
  change (match Ieee.double.read b with
    | .nan s t => _
    | d => pure (.float .f64 (FloatKind.f64.encode (d.integral way))) : Sem Value).run Tryz.prog w = _
  rw [hd]
  cases d with
  | nan s f => exact absurd rfl (hn s f)
  | infinity s => rfl
  | number s m p => rfl
theorem archfloor_run {b : Nat} (h : isNan b = false) (w : World) : (callFunc 161 #[.float .f64 b]).run Tryz.prog w = .ok (.value (.float .f64 (floorW b))) w := by
  rw [run_callFunc_extern Tryz.func161 (by kernel_rfl) (by kernel_rfl) (by kernel_rfl) (e := Extern.MathFloor.toIntegral "math.archFloor" .down) (by kernel_rfl), integral_run _ _ h]
  rfl
theorem archtrunc_run {b : Nat} (h : isNan b = false) (w : World) : (callFunc 87 #[.float .f64 b]).run Tryz.prog w = .ok (.value (.float .f64 (truncW b))) w := by
  rw [run_callFunc_extern Tryz.func87 (by kernel_rfl) (by kernel_rfl) (by kernel_rfl) (e := Extern.MathFloor.toIntegral "math.archTrunc" .zero) (by kernel_rfl), integral_run _ _ h]
  rfl
theorem floor_c (b : Nat) (h : isNan b = false) (w : World) : Calls Tryz.prog 116 #[.float .f64 b] w fun e w' => e = .returned (.float .f64 (floorW b)) ∧ w = w' := by
  have hr := fun w => archfloor_run h w
  go_enter Tryz.func116, Tryz.ntmps116
  go_wp2
  go_ret
  exact ⟨rfl, rfl⟩
theorem trunc_c (b : Nat) (h : isNan b = false) (w : World) : Calls Tryz.prog 48 #[.float .f64 b] w fun e w' => e = .returned (.float .f64 (truncW b)) ∧ w = w' := by
  have hr := fun w => archtrunc_run h w
  go_enter Tryz.func48, Tryz.ntmps48
  go_wp2
  go_ret
  exact ⟨rfl, rfl⟩
end Go.Proofs.YtcjkgnafpkkjmaaGreatDoor
namespace Go.Proofs.YtcjkgnafpkkjmaaGreatDoor
open Go.ChangeShapes Go.WideShapes Go.RowKit
theorem nn_of {b : Nat} (h : b < 9218868437227405312) : isNan b = false ∧ Fin64 b ∧ isInf b = false := by
  refine ⟨?_, ?_, ?_⟩
  · unfold isNan; exact decide_eq_false (by omega)
  · unfold Fin64; omega
  · unfold isInf; exact decide_eq_false (by omega)
theorem order_pos {a b : Nat} (ha : a < 9218868437227405312) (hb : b < 9218868437227405312) : FloatKind.f64.format.order a b = some (compare (a : Int) (b : Int)) := by
  change Ieee.double.order a b = _
  obtain ⟨h1, h2, _⟩ := nn_of ha
  obtain ⟨h3, h4, _⟩ := nn_of hb
  rw [order_key h1 h3, key_pos (by omega) h2, key_pos (by omega) h4, fcmpI, fcmpI]
  rcases Nat.lt_trichotomy a b with h | h | h
  · have := magn_lt_of h
    rw [if_pos (by omega), if_pos (by omega)]
  · subst h
    rw [if_neg (by omega), if_pos rfl, if_neg (by omega), if_pos rfl]
  · have := magn_lt_of h
    rw [if_neg (by omega), if_neg (by omega), if_neg (by omega), if_neg (by omega)]
theorem lt_pos {a b : Nat} (ha : a < 9218868437227405312) (hb : b < 9218868437227405312) : (FloatKind.f64.format.order a b == some .lt) = decide (a < b) := by
  rw [order_pos ha hb, fcmpI]
  by_cases h : a < b
  · rw [if_pos (by omega), decide_eq_true h]; rfl
  · rw [if_neg (by omega), decide_eq_false h]
    split <;> rfl
theorem eq_pos {a b : Nat} (ha : a < 9218868437227405312) (hb : b < 9218868437227405312) : (FloatKind.f64.format.order a b == some .eq) = decide (a = b) := by
  rw [order_pos ha hb, fcmpI]
  by_cases h : a = b
  · subst h; rw [if_neg (by omega), if_pos rfl, decide_eq_true rfl]; rfl
  · rw [decide_eq_false h]
    by_cases h2 : a < b
    · rw [if_pos (by omega)]; rfl
    · rw [if_neg (by omega), if_neg (by omega)]; rfl
theorem normalize_c (b : Nat) (h1 : 4503599627370496 ≤ b) (h2 : b < 9218868437227405312) (w : World) : Calls Tryz.prog 124 #[.float .f64 b] w fun e w' => e = .returned (.tuple #[.float .f64 b, .int .i64 0]) ∧ w = w' := by
  have hm : b % 9223372036854775808 = b := Nat.mod_eq_of_lt (by omega)
  have hl := lt_pos (a := b) (b := 4503599627370496) h2 (by decide)
  rw [decide_eq_false (by omega)] at hl
  have CA := Lib.hid (fun w1 => by have := abs_c b (by omega) w1; rw [hm] at this; exact this)
  clear hm
  go_enter Tryz.func124, Tryz.ntmps124
  go_wp2_with (go_at_call 27; refine (CA.out _).mono ?_; rintro e w' ⟨rfl, rfl⟩)
  go_ret2
  exact ⟨rfl, rfl⟩
theorem inf1_c (w : World) : Calls Tryz.prog 22 #[.int .i64 1] w fun e w' => e = .returned (.float .f64 9218868437227405312) ∧ w = w' := by
  have hf : ∀ w, (callFunc 8 #[.int .u64 9218868437227405312]).run Tryz.prog w = .ok (.value (.float .f64 9218868437227405312)) w := fun w => from_run 9218868437227405312 w
  go_enter Tryz.func22, Tryz.ntmps22
  go_wp2
  go_ret
  exact ⟨rfl, rfl⟩
end Go.Proofs.YtcjkgnafpkkjmaaGreatDoor
namespace Go.Proofs.YtcjkgnafpkkjmaaGreatDoor
open Go.ChangeShapes Go.WideShapes Go.RowKit
theorem fw_u64 (n : Int) (h₀ : 0 ≤ n) (h₁ : n < 2 ^ 64) : IntKind.u64.wrap n = n := by rw [IntKind.wrap_u64]; omega
theorem fw_i64 (n : Int) (h₀ : 0 ≤ n) (h₁ : n < 2 ^ 63) : IntKind.i64.wrap n = n := by rw [IntKind.wrap_i64]; omega
theorem andi2047 (t : Int) (h0 : 0 ≤ t) (h1 : t < 2048) : bits BinOp.and IntKind.i64 t 2047 = t := by
  have := bits_mask .i64 63 (by decide) fw_i64 11 (by decide) t h0 (by omega)
  rw [show ((2 : Int) ^ 11 - 1) = 2047 by decide] at this
  rw [this]; omega
theorem andu2047 (t : Int) (h0 : 0 ≤ t) (h1 : t < 2048) : bits BinOp.and IntKind.u64 t 2047 = t := by
  have := bits_mask .u64 64 (by decide) fw_u64 11 (by decide) t h0 (by omega)
  rw [show ((2 : Int) ^ 11 - 1) = 2047 by decide] at this
  rw [this]; omega
theorem not_exp (b : Nat) (h : b < 9223372036854775808) : bits BinOp.andNot IntKind.u64 (b : Int) 9218868437227405312 = ((b % 4503599627370496 : Nat) : Int) := by
  have h1 : (BitVec.ofInt 64 (b : Int)).toNat = b := by
    rw [BitVec.ofInt_natCast, BitVec.toNat_ofNat]; exact Nat.mod_eq_of_lt (by omega)
  have h2 : ~~~(BitVec.ofInt 64 (9218868437227405312 : Int)) = 9227875636482146303#64 := by decide
  show IntKind.u64.wrap ((BitVec.ofInt 64 (b : Int) &&& ~~~(BitVec.ofInt 64 (9218868437227405312 : Int))).toNat : Int) = _
  have h3 : b &&& 9227875636482146303 = b % 4503599627370496 := by
    have h0 : b &&& 2 ^ 63 = 0 := by
      apply Nat.eq_of_testBit_eq
      intro i
      rw [Nat.testBit_and, Nat.testBit_two_pow, Nat.zero_testBit]
      by_cases hi : 63 = i
      · subst hi; rw [Nat.testBit_lt_two_pow (by omega)]; rfl
      · simp [hi]
    rw [show (9227875636482146303 : Nat) = 2 ^ 63 ||| (2 ^ 52 - 1) by decide, Nat.and_or_distrib_left, h0, Nat.zero_or, Nat.and_two_pow_sub_one_eq_mod]
  rw [h2, BitVec.toNat_and, h1, show (9227875636482146303#64).toNat = 9227875636482146303 from rfl, h3, IntKind.wrap_u64]
  omega
theorem or_exp (F G : Int) (h0 : 0 ≤ F) (h1 : F < 4503599627370496) (h2 : 0 ≤ G) (h3 : G < 2048) : bits BinOp.or IntKind.u64 F (G * 4503599627370496) = G * 4503599627370496 + F := by
  have hc : bits BinOp.or IntKind.u64 F (G * 4503599627370496) = bits BinOp.or IntKind.u64 (G * 4503599627370496) F := by
    show IntKind.u64.wrap _ = IntKind.u64.wrap _
    rw [BitVec.or_comm]
  rw [hc, bits_join .u64 64 (by decide) fw_u64 52 _ _ (by omega) (by omega) (by omega) h0 (by omega) (by omega)]
def ldW (E F : Nat) (k : Int) : Nat := if 2046 < k + E then 9218868437227405312 else (k + E).toNat * 4503599627370496 + F
set_option maxRecDepth 100000 in
set_option maxHeartbeats 1000000 in
theorem ldexp_c (E F : Nat) (hE1 : 1 ≤ E) (hE : E ≤ 2046) (hF : F < 4503599627370496) (k : Int) (hk1 : 1 ≤ k + E) (hk2 : k ≤ 100000) (w : World) :
    Calls Tryz.prog 92 #[.float .f64 (E * 4503599627370496 + F), .int .i64 k] w fun e w' => e = .returned (.float .f64 (ldW E F k)) ∧ w = w' := by
  obtain ⟨b, hb⟩ : ∃ b, b = E * 4503599627370496 + F := ⟨_, rfl⟩
  have hbE : b / 4503599627370496 = E := by omega
  have hbF : b % 4503599627370496 = F := by omega
  have hb1 : 4503599627370496 ≤ b := by omega
  have hb2 : b < 9218868437227405312 := by omega
  rw [← hb]
  obtain ⟨hn1, hn2, hn3⟩ := nn_of hb2
  have CN := Lib.hid (fun w1 => normalize_c b hb1 hb2 w1)
  have CI := Lib.hid (fun w1 => by have := isinf0_c b (by omega) w1; rw [hn3] at this; exact this)
  have CQ := Lib.hid (fun w1 => by have := isnan_c b w1; rw [hn1] at this; exact this)
  have heq := eq_pos (a := b) (b := 0) hb2 (by decide)
  rw [decide_eq_false (by omega)] at heq
  have hlt0 := lt_pos (a := b) (b := 0) hb2 (by decide)
  rw [decide_eq_false (by omega)] at hlt0
  have hr := bits_run b
  have hE' : ((b : Int) / 4503599627370496) = (E : Int) := by omega
  have hand := andi2047 (E : Int) (by omega) (by omega)
  have hnot := not_exp b (by omega)
  rw [hbF] at hnot
  unfold ldW
  by_cases hov : 2046 < k + E
  · rw [if_pos hov]
    clear hnot hb hbE hbF hb1 hb2 hn1 hn2 hn3
    go_enter Tryz.func92, Tryz.ntmps92
    go_wp2_with (first | (go_at_call 49; refine (CI.out _).mono ?_; rintro e w' ⟨rfl, rfl⟩) | (go_at_call 123; refine (CQ.out _).mono ?_; rintro e w' ⟨rfl, rfl⟩) | (go_at_call 124; refine (CN.out _).mono ?_; rintro e w' ⟨rfl, rfl⟩) | (go_at_call 22; refine (inf1_c _).mono ?_; rintro e w' ⟨rfl, rfl⟩))
    go_ret
    exact ⟨rfl, rfl⟩
  · rw [if_neg hov]
    obtain ⟨G, hG⟩ : ∃ G : Nat, k + E = (G : Int) := ⟨(k + E).toNat, by omega⟩
    have hGt : (k + (E : Int)).toNat = G := by omega
    rw [hGt]
    have hor := or_exp (F : Int) (G : Int) (by omega) (by omega) (by omega) (by omega)
    have hfr := from_run (G * 4503599627370496 + F)
    have hcast : ((G : Int) * 4503599627370496 + (F : Int)) = ((G * 4503599627370496 + F : Nat) : Int) := by omega
    rw [hcast] at hor
    have hmul := mul_one64 (w := G * 4503599627370496 + F) (nn_of (by omega)).2.1 (by omega)
    obtain ⟨z, hz⟩ : ∃ z, z = G * 4503599627370496 + F := ⟨_, rfl⟩
    rw [← hz] at hor hfr hmul ⊢
    rw [show (G : Int) = k + ((E : Int) - 1023) + 1023 by omega] at hor
    have hm2 : ∀ t w, (binOp .mul t (.float .f64 4607182418800017408) (.float .f64 z)).run Tryz.prog w = .ok (.float .f64 z) w := fun t w => run_float_arith w .mul t .f64 _ _ _ hmul
    clear hz hcast hmul hb hbE hbF hb1 hb2 hn1 hn2 hn3 hGt
    go_enter Tryz.func92, Tryz.ntmps92
    go_wp2_with (first | (go_at_call 49; refine (CI.out _).mono ?_; rintro e w' ⟨rfl, rfl⟩) | (go_at_call 123; refine (CQ.out _).mono ?_; rintro e w' ⟨rfl, rfl⟩) | (go_at_call 124; refine (CN.out _).mono ?_; rintro e w' ⟨rfl, rfl⟩))
    go_ret
    exact ⟨rfl, rfl⟩
end Go.Proofs.YtcjkgnafpkkjmaaGreatDoor
namespace Go.Proofs.YtcjkgnafpkkjmaaGreatDoor
open Go.ChangeShapes Go.WideShapes Go.RowKit
theorem mldexp_c (E F : Nat) (hE1 : 1 ≤ E) (hE : E ≤ 2046) (hF : F < 4503599627370496) (k : Int) (hk1 : 1 ≤ k + E) (hk2 : k ≤ 100000) (w : World) :
    Calls Tryz.prog 52 #[.float .f64 (E * 4503599627370496 + F), .int .i64 k] w fun e w' => e = .returned (.float .f64 (ldW E F k)) ∧ w = w' := by
  have CL := Lib.hid (fun w1 => ldexp_c E F hE1 hE hF k hk1 hk2 w1)
  obtain ⟨b, hb⟩ : ∃ b, b = E * 4503599627370496 + F := ⟨_, rfl⟩
  rw [← hb] at CL ⊢
  clear hb
  go_enter Tryz.func52, Tryz.ntmps52
  go_wp2_with (go_at_call 92; refine (CL.out _).mono ?_; rintro e w' ⟨rfl, rfl⟩)
  go_ret
  exact ⟨rfl, rfl⟩
theorem ldexp0_c (k : Int) (w : World) : Calls Tryz.prog 52 #[.float .f64 0, .int .i64 k] w fun e w' => e = .returned (.float .f64 0) ∧ w = w' := by
  have heq := eq_pos (a := 0) (b := 0) (by decide) (by decide)
  have CL : Hid (∀ w1, Calls Tryz.prog 92 #[.float .f64 0, .int .i64 k] w1 fun e w' => e = .returned (.float .f64 0) ∧ w1 = w') := Lib.hid (fun w1 => by
    rw [decide_eq_true rfl] at heq
    go_enter Tryz.func92, Tryz.ntmps92
    go_wp2
    go_ret
    exact ⟨rfl, rfl⟩)
  clear heq
  go_enter Tryz.func52, Tryz.ntmps52
  go_wp2_with (go_at_call 92; refine (CL.out _).mono ?_; rintro e w' ⟨rfl, rfl⟩)
  go_ret
  exact ⟨rfl, rfl⟩
theorem frexp_c (E F : Nat) (hE1 : 1 ≤ E) (hE : E ≤ 2046) (hF : F < 4503599627370496) (w : World) :
    Calls Tryz.prog 50 #[.float .f64 (E * 4503599627370496 + F)] w fun e w' => e = .returned (.tuple #[.float .f64 (1022 * 4503599627370496 + F), .int .i64 ((E : Int) - 1022)]) ∧ w = w' := by
  obtain ⟨b, hb⟩ : ∃ b, b = E * 4503599627370496 + F := ⟨_, rfl⟩
  have hbF : b % 4503599627370496 = F := by omega
  have hb1 : 4503599627370496 ≤ b := by omega
  have hb2 : b < 9218868437227405312 := by omega
  have hE' : ((b : Int) / 4503599627370496) = (E : Int) := by omega
  rw [← hb]
  obtain ⟨hn1, hn2, hn3⟩ := nn_of hb2
  have CN := Lib.hid (fun w1 => normalize_c b hb1 hb2 w1)
  have CI := Lib.hid (fun w1 => by have := isinf0_c b (by omega) w1; rw [hn3] at this; exact this)
  have CQ := Lib.hid (fun w1 => by have := isnan_c b w1; rw [hn1] at this; exact this)
  have heq := eq_pos (a := b) (b := 0) hb2 (by decide)
  rw [decide_eq_false (by omega)] at heq
  have hr := bits_run b
  have hand := andu2047 (E : Int) (by omega) (by omega)
  have hnot := not_exp b (by omega)
  rw [hbF] at hnot
  have hor := or_exp (F : Int) 1022 (by omega) (by omega) (by omega) (by omega)
  rw [show (1022 : Int) * 4503599627370496 = 4602678819172646912 by decide] at hor
  have hfr := from_run (1022 * 4503599627370496 + F)
  have hcast : ((4602678819172646912 : Int) + (F : Int)) = ((1022 * 4503599627370496 + F : Nat) : Int) := by omega
  rw [hcast] at hor
  obtain ⟨z, hz⟩ : ∃ z, z = 1022 * 4503599627370496 + F := ⟨_, rfl⟩
  rw [← hz] at hor hfr ⊢
  clear hz hcast hb hbF hb1 hb2 hn1 hn2 hn3
  have CF : Hid (∀ w1, Calls Tryz.prog 90 #[.float .f64 b] w1 fun e w' => e = .returned (.tuple #[.float .f64 z, .int .i64 ((E : Int) - 1022)]) ∧ w1 = w') := Lib.hid (fun w1 => by
    go_enter Tryz.func90, Tryz.ntmps90
    go_wp2_with (first | (go_at_call 49; refine (CI.out _).mono ?_; rintro e w' ⟨rfl, rfl⟩) | (go_at_call 123; refine (CQ.out _).mono ?_; rintro e w' ⟨rfl, rfl⟩) | (go_at_call 124; refine (CN.out _).mono ?_; rintro e w' ⟨rfl, rfl⟩))
    go_ret2
    exact ⟨by rw [show (E : Int) - 1022 = (E : Int) - 1023 + 1 by omega]; rfl, rfl⟩)
  clear CN CI CQ heq hr hand hnot hor hfr hE'
  go_enter Tryz.func50, Tryz.ntmps50
  go_wp2_with (go_at_call 90; refine (CF.out _).mono ?_; rintro e w' ⟨rfl, rfl⟩)
  go_ret2
  exact ⟨rfl, rfl⟩
theorem frexp0_c (w : World) : Calls Tryz.prog 50 #[.float .f64 0] w fun e w' => e = .returned (.tuple #[.float .f64 0, .int .i64 0]) ∧ w = w' := by
  have heq := eq_pos (a := 0) (b := 0) (by decide) (by decide)
  have CF : Hid (∀ w1, Calls Tryz.prog 90 #[.float .f64 0] w1 fun e w' => e = .returned (.tuple #[.float .f64 0, .int .i64 0]) ∧ w1 = w') := Lib.hid (fun w1 => by
    rw [decide_eq_true rfl] at heq
    go_enter Tryz.func90, Tryz.ntmps90
    go_wp2
    go_ret2
    exact ⟨rfl, rfl⟩)
  clear heq
  go_enter Tryz.func50, Tryz.ntmps50
  go_wp2_with (go_at_call 90; refine (CF.out _).mono ?_; rintro e w' ⟨rfl, rfl⟩)
  go_ret2
  exact ⟨rfl, rfl⟩
end Go.Proofs.YtcjkgnafpkkjmaaGreatDoor
namespace Go.Proofs.YtcjkgnafpkkjmaaGreatDoor
open Go.ChangeShapes Go.WideShapes Go.RowKit
end Go.Proofs.YtcjkgnafpkkjmaaGreatDoor
namespace Go.Proofs.YtcjkgnafpkkjmaaGreatDoor
open Go.ChangeShapes Go.WideShapes Go.RowKit
theorem nan_fin {b : Nat} (h : Fin64 b) : isNan b = false := by unfold isNan; unfold Fin64 at h; exact decide_eq_false (by omega)
end Go.Proofs.YtcjkgnafpkkjmaaGreatDoor
end
