import Derived.Test.YtjdanblijcdllaaGreatDoorTwQ
import Derived.Test.YtjdanblijcdllaaGreatDoorRefG
/- Walks: the document's order of whole and floating numbers. -/
set_option linter.all false
namespace Go.Proofs.YtjdanblijcdllaaGreatDoor
open Go.ChangeShapes Go.WideShapes Go.RowKit
variable {w w' : World} {a a2 : Option Addr} {cap cap2 : Nat}
theorem lims_b (n k : Nat) (h : n < 4294967296 ^ k) : (lims n).length ≤ k := len_lims.2 h
theorem pow_fit (j q : Nat) (h : j ≤ 32 * q) : 2 ^ j ≤ 4294967296 ^ q := by
  rw [show (4294967296 : Nat) = 2 ^ 32 by decide, ← Nat.pow_mul]
  exact Nat.pow_le_pow_right (by decide) h
theorem doubled_c (w : World) (n k : Nat) (hn : n < 4294967296 ^ 64) (hk : k ≤ 1074) (h : In w a cap (lims n)) : Calls Tryz.prog 108 #[.slice a (lims n).length cap, .int .i64 (k : Int)] w fun e w' => ∃ a1 c1, e = .returned (.slice a1 (lims (n * 2 ^ k)).length c1) ∧ In w' a1 c1 (lims (n * 2 ^ k)) ∧ Fr [] w w' := by
  have hbound : ∀ j, j ≤ 1074 → (lims (n * 2 ^ j)).length ≤ 80000 := by
    intro j hj
    refine Nat.le_trans (lims_b _ 98 ?_) (by decide)
    have h1 : (2 : Nat) ^ j ≤ 4294967296 ^ 34 := pow_fit j 34 (by omega)
    have h2 : n * 2 ^ j < 4294967296 ^ 64 * 4294967296 ^ 34 := Nat.mul_lt_mul_of_lt_of_le hn h1 (Nat.pow_pos (by decide))
    rw [← Nat.pow_add] at h2
    exact h2
  have HB := Lib.hid hbound
  have H := Lib.hid h
  clear hbound hn h
  go_enter Tryz.func108, Tryz.ntmps108
  go_wp2_with fail
  go_loopw [0, 5] (fun l u wr => ∃ (j : Nat) (a1 : Option Addr) (c1 : Nat), j ≤ k ∧ l = .slice a1 (lims (n * 2 ^ j)).length c1 ∧ u = .int .i64 (j : Int) ∧ Hid (In wr a1 c1 (lims (n * 2 ^ j))) ∧ Hid (Fr [] w wr)) (fun _ u _ => k - (intOf u).toNat)
  case atStart => exact ⟨0, a, cap, Nat.zero_le _, by rw [Nat.pow_zero, Nat.mul_one], rfl, by rw [Nat.pow_zero, Nat.mul_one]; exact H, Lib.hid (Fr.refl _ _)⟩
  case round =>
    obtain ⟨j, a1, c1, hj, rfl, rfl, hI, hF⟩ := hrel
    by_cases hlt : j < k
    · have CP := Lib.hid (by have := r1plus_c wr hI.out hI.out (Nat.le_trans (HB.out j (by omega)) (by decide)) (Nat.le_trans (HB.out j (by omega)) (by decide)); rw [val_lims, show n * 2 ^ j + n * 2 ^ j = n * 2 ^ (j + 1) by rw [Nat.pow_succ, ← Nat.mul_assoc]; omega] at this; exact this)
      clear hI
      go_wp2_with fail
      refine CP.out.mono ?_
      rintro e w5 ⟨a5, c5, rfl, N5, F5⟩
      have I5 := Lib.hid N5.in
      have F5 := Lib.hid (hF.out.same F5)
      clear CP hF N5
      go_wp2_with fail
      go_roundw
      case rel => exact ⟨j + 1, a5, c5, by omega, rfl, by go_num, I5, F5⟩
      case measure => simp [intOf]; omega
    · have hjk : j = k := by omega
      subst hjk
      clear HB H hlt
      go_wp2_with fail
      go_ret
      exact ⟨a1, c1, rfl, hI.out, hF.out⟩
/-- A number's parts, as the document has them. -/
def ptM (b : Nat) : Nat := rq (b % 9223372036854775808) * 2 ^ (re (b % 9223372036854775808) - B1)
def ptD (b : Nat) : Nat := B1 - re (b % 9223372036854775808)
theorem part_num {b : Nat} : ptM b * 2 ^ (B1 - ptD b) = fmg b := by
  unfold ptM ptD fmg
  rw [magn_eq]
  generalize re (b % 9223372036854775808) = e
  rw [Nat.mul_assoc, ← Nat.pow_add]
  congr 2
  omega
end Go.Proofs.YtjdanblijcdllaaGreatDoor
/- Walks: distaffref03.parts. -/
namespace Go.Proofs.YtjdanblijcdllaaGreatDoor
open Go.ChangeShapes Go.WideShapes Go.RowKit
variable {w w' : World} {a a2 : Option Addr} {cap cap2 : Nat}
theorem pt_of (b : Nat) : ptM b = rq (b % 9223372036854775808) * 2 ^ (re (b % 9223372036854775808) - 1074) ∧ ptD b = 1074 - re (b % 9223372036854775808) := by
  unfold ptM ptD; rw [B1_eq]; exact ⟨rfl, rfl⟩
theorem pt_low {b E F : Nat} (hE : E = b % 9223372036854775808 / 4503599627370496) (hF : F = b % 4503599627370496) (h : E = 0) : ptM b = F ∧ ptD b = 1074 := by
  obtain ⟨h1, h2⟩ := pt_of b
  have hr : rq (b % 9223372036854775808) = F := by unfold rq; rw [if_pos (by omega)]; omega
  have he : re (b % 9223372036854775808) = 0 := by unfold re; omega
  rw [h1, h2, hr, he]
  exact ⟨Nat.mul_one F, rfl⟩
theorem pt_high {b E F : Nat} (hE : E = b % 9223372036854775808 / 4503599627370496) (hF : F = b % 4503599627370496) (h : E ≠ 0) : ptM b = (F + 4503599627370496) * 2 ^ (E - 1075) ∧ ptD b = 1075 - E := by
  obtain ⟨h1, h2⟩ := pt_of b
  have hr : rq (b % 9223372036854775808) = F + 4503599627370496 := by unfold rq; rw [if_neg (by omega)]; omega
  have he : re (b % 9223372036854775808) = E - 1 := by unfold re; omega
  rw [h1, h2, hr, he, show E - 1 - 1074 = E - 1075 by omega]
  exact ⟨rfl, by omega⟩
def PtR (w : World) (g : Bool) (M D : Nat) (e : Ending) (w' : World) : Prop := ∃ a c, e = .returned (.tuple #[.agg #[.bool (sg g M), .slice a (lims M).length c], .int .i64 (D : Int)]) ∧ In w' a c (lims M) ∧ Fr [] w w'
set_option maxRecDepth 20000 in
set_option maxHeartbeats 1000000 in
theorem parts_c (w : World) (b : Nat) (hb : b < 18446744073709551616) (hf : Fin64 b) : Calls Tryz.prog 107 #[.float .f64 b] w (PtR w (fsg b) (ptM b) (ptD b)) := by
  have hr := bits_run b
  obtain ⟨E, hE⟩ : ∃ E, E = b % 9223372036854775808 / 4503599627370496 := ⟨_, rfl⟩
  obtain ⟨F, hF⟩ : ∃ F, F = b % 4503599627370496 := ⟨_, rfl⟩
  have hE2 : E ≤ 2046 := by unfold Fin64 at hf; omega
  have hF2 : F < 4503599627370496 := by omega
  have hA : bits BinOp.and IntKind.u64 ((b : Int) / 4503599627370496) 2047 = (E : Int) := by
    have := bits_and_u64_nat (b / 4503599627370496) 2047 (by omega) (by omega)
    rw [Nat.and_two_pow_sub_one_eq_mod _ 11] at this
    rw [show ((b : Int) / 4503599627370496) = ((b / 4503599627370496 : Nat) : Int) by omega]
    refine this.trans ?_
    omega
  have hM : bits BinOp.and IntKind.u64 (b : Int) 4503599627370495 = (F : Int) := by
    have := bits_and_u64_nat b 4503599627370495 (by omega) (by omega)
    rw [Nat.and_two_pow_sub_one_eq_mod _ 52] at this
    refine this.trans ?_
    omega
  have hS : (((b : Int) / 9223372036854775808) == 1) = fsg b := by
    unfold fsg
    by_cases h : b / 9223372036854775808 % 2 = 1
    · rw [show (b : Int) / 9223372036854775808 = 1 by omega, show b / 9223372036854775808 % 2 = 1 from h]; rfl
    · rw [show (b : Int) / 9223372036854775808 = 0 by omega, show b / 9223372036854775808 % 2 = 0 by omega]; rfl
  obtain ⟨g, hg⟩ : ∃ g, g = fsg b := ⟨_, rfl⟩
  rw [← hg] at hS ⊢
  clear hg hf
  obtain ⟨W1, hW1⟩ : ∃ W1, W1 = w.alloc (.cells #[.bool false, .slice none 0 0] 25) := ⟨_, rfl⟩
  obtain ⟨k, hk⟩ : ∃ k, k = w.heap.size := ⟨_, rfl⟩
  have R1 : Hid (Bx W1 k (.bool false) (.slice none 0 0)) := Lib.hid (by rw [hW1, hk]; exact Bx.new w _ _)
  have F1 : Hid (Fr [] w W1) := Lib.hid (by rw [hW1]; exact (Fr.refl _ _).alloc _)
  have HK : Hid (w.heap.size ≤ k) := Lib.hid (by omega)
  by_cases h0 : E = 0
  · obtain ⟨p1, p2⟩ := pt_low hE hF h0
    rw [p1, p2]
    rw [h0] at hA
    have hA : bits BinOp.and IntKind.u64 ((b : Int) / 4503599627370496) 2047 = 0 := hA
    have CO := Lib.hid (r1of_c W1 F (by omega))
    clear p1 p2 hE hF h0 hb hE2
    by_cases hF0 : F = 0
    · have hl : (lims F).length = 0 := by rw [hF0]; rfl
      have HF0 := Lib.hid hF0
      clear hF0
      go_enter Tryz.func107, Tryz.ntmps107
      go_wp2_with fail
      rw [← hW1]
      try rw [← hk]
      clear hW1 hk
      refine CO.out.mono ?_
      rintro e w2 ⟨a2, c2, rfl, N2, F2⟩
      have I2 := Lib.hid N2.in
      have R2 := Lib.hid (R1.out.fr F2)
      have G2 := Lib.hid (F1.out.same F2)
      have rc0 := R2.out.c0
      have rc1 := R2.out.c1
      have rl := R2.out.lt
      have rf0 := R2.out.f 0
      have rf1 := R2.out.f 1
      go_wp2_with fail
      refine bodyPost_ret (ret_iv2 rfl _ _ _ _ _ rfl (R2.out.set _ _)) rfl ?_
      refine ⟨none, 0, by rw [hl, HF0.out, show sg g 0 = false by unfold sg; simp]; rfl, by rw [HF0.out]; exact (Nw.nil _ 0).in, G2.out.set2 HK.out _ _⟩
    · have hsg : sg g F = g := by unfold sg; rw [decide_eq_true hF0, Bool.and_true]
      have hnI : ¬ ((lims (F)).length : Int) = 0 := by have := lims_len_pos.2 hF0; omega
      have HSG := Lib.hid hsg
      clear hsg hF0
      go_enter Tryz.func107, Tryz.ntmps107
      go_wp2_with fail
      rw [← hW1]
      try rw [← hk]
      clear hW1 hk
      refine CO.out.mono ?_
      rintro e w2 ⟨a2, c2, rfl, N2, F2⟩
      have I2 := Lib.hid N2.in
      have R2 := Lib.hid (R1.out.fr F2)
      have G2 := Lib.hid (F1.out.same F2)
      have rc0 := R2.out.c0
      have rc1 := R2.out.c1
      have rl := R2.out.lt
      have rf0 := R2.out.f 0
      have rf1 := R2.out.f 1
      go_wp2_with fail
      refine bodyPost_ret (ret_iv2 rfl _ _ _ _ _ rfl (R2.out.set _ _)) rfl ?_
      refine ⟨a2, c2, by rw [HSG.out]; rfl, I2.out.set2 R2.out _ _, G2.out.set2 HK.out _ _⟩
  · obtain ⟨p1, p2⟩ := pt_high hE hF h0
    rw [p1, p2]
    have CO := Lib.hid (r1of_c W1 (F + 4503599627370496) (by omega))
    obtain ⟨m, hm⟩ : ∃ m, m = F + 4503599627370496 := ⟨_, rfl⟩
    have hmI : (F : Int) + 4503599627370496 = (m : Int) := by omega
    have hm1 : m < 9007199254740992 := by omega
    have hm0 : m ≠ 0 := by omega
    rw [← hm] at CO ⊢
    have HM1 := Lib.hid hm1
    have hEI : ((E : Int) - 1075 > -1075) := by omega
    clear p1 p2 hE hF hb hm
    by_cases hbig : 1075 < E
    · obtain ⟨j, hj⟩ : ∃ j : Nat, j = E - 1075 := ⟨_, rfl⟩
      rw [← hj, show 1075 - E = 0 by omega]
      have hjI : (E : Int) - 1075 = (j : Int) := by omega
      have hjp : (0 : Int) < (j : Int) := by omega
      have hj2 : j ≤ 1074 := by omega
      have HJ := Lib.hid hj2
      have hMM : m * 2 ^ j ≠ 0 := Nat.mul_ne_zero hm0 (Nat.ne_of_gt (Nat.two_pow_pos j))
      have hsg : sg g (m * 2 ^ j) = g := by unfold sg; rw [decide_eq_true hMM, Bool.and_true]
      have hnI : ¬ ((lims ((m * 2 ^ j))).length : Int) = 0 := by have := lims_len_pos.2 hMM; omega
      have HSG := Lib.hid hsg
      have HB : Hid (m < 4294967296 ^ 64) := Lib.hid (Nat.lt_of_lt_of_le hm1 (by decide +kernel))
      clear hsg hMM hj hbig hm0 hm1 hj2 h0
      go_enter Tryz.func107, Tryz.ntmps107
      go_wp2_with fail
      rw [← hW1]
      try rw [← hk]
      clear hW1 hk
      refine CO.out.mono ?_
      rintro e w2 ⟨a2, c2, rfl, N2, F2⟩
      have I2 := Lib.hid N2.in
      have R2 := Lib.hid (R1.out.fr F2)
      have G2 := Lib.hid (F1.out.same F2)
      have rc0 := R2.out.c0
      have rc1 := R2.out.c1
      have rl := R2.out.lt
      have rf0 := R2.out.f 0
      have rf1 := R2.out.f 1
      clear F2 N2
      go_wp2_with fail
      refine (doubled_c w2 m j HB.out HJ.out I2.out).mono ?_
      rintro e w3 ⟨a3, c3, rfl, I3, F3⟩
      have I3 := Lib.hid I3
      clear rc0 rc1 rl rf0 rf1
      have R3 := Lib.hid (R2.out.fr F3)
      have G3 := Lib.hid (G2.out.same F3)
      have rc0 := R3.out.c0
      have rc1 := R3.out.c1
      have rl := R3.out.lt
      have rf0 := R3.out.f 0
      have rf1 := R3.out.f 1
      go_wp2_with fail
      refine bodyPost_ret (ret_iv2 rfl _ _ _ _ _ rfl (R3.out.set _ _)) rfl ?_
      refine ⟨a3, c3, by rw [HSG.out]; rfl, I3.out.set2 R3.out _ _, G3.out.set2 HK.out _ _⟩
    · rw [show E - 1075 = 0 by omega, Nat.pow_zero, Nat.mul_one]
      have hDD : Hid (((1075 - E : Nat) : Int) = 1075 - (E : Int)) := Lib.hid (by omega)
      have hnb : ¬ (0 : Int) < (E : Int) - 1075 := by omega
      have hsg : sg g m = g := by unfold sg; rw [decide_eq_true hm0, Bool.and_true]
      have hnI : ¬ ((lims (m)).length : Int) = 0 := by have := lims_len_pos.2 hm0; omega
      have HSG := Lib.hid hsg
      clear hsg hm0 hm1 h0
      go_enter Tryz.func107, Tryz.ntmps107
      go_wp2_with fail
      rw [← hW1]
      try rw [← hk]
      clear hW1 hk
      refine CO.out.mono ?_
      rintro e w2 ⟨a2, c2, rfl, N2, F2⟩
      have I2 := Lib.hid N2.in
      have R2 := Lib.hid (R1.out.fr F2)
      have G2 := Lib.hid (F1.out.same F2)
      have rc0 := R2.out.c0
      have rc1 := R2.out.c1
      have rl := R2.out.lt
      have rf0 := R2.out.f 0
      have rf1 := R2.out.f 1
      clear F2 N2
      go_wp2_with fail
      refine bodyPost_ret (ret_iv2 rfl _ _ _ _ _ rfl (R2.out.set _ _)) rfl ?_
      refine ⟨a2, c2, by rw [HSG.out, hDD.out]; first | rfl | go_num | (congr 4; omega), I2.out.set2 R2.out _ _, G2.out.set2 HK.out _ _⟩
end Go.Proofs.YtjdanblijcdllaaGreatDoor
/- Walks: distaffref03.Cmp. -/
namespace Go.Proofs.YtjdanblijcdllaaGreatDoor
open Go.ChangeShapes Go.WideShapes Go.RowKit
variable {w w' : World} {a a2 : Option Addr} {cap cap2 : Nat}
theorem pt_le (b : Nat) : ptD b ≤ 1074 := by unfold ptD; rw [B1_eq]; omega
theorem ptM_lt {b : Nat} (hf : Fin64 b) : ptM b < 4294967296 ^ 40 := by
  obtain ⟨h1, _⟩ := pt_of b
  rw [h1]
  have h2 := rq_lt (b % 9223372036854775808)
  have h3 : re (b % 9223372036854775808) - 1074 ≤ 1000 := by unfold re; unfold Fin64 at hf; omega
  generalize re (b % 9223372036854775808) - 1074 = e at *
  generalize rq (b % 9223372036854775808) = q at *
  have h4 : q * 2 ^ e < 9007199254740992 * 2 ^ e := Nat.mul_lt_mul_of_pos_right h2 (Nat.two_pow_pos e)
  rw [show (9007199254740992 : Nat) = 2 ^ 53 by decide, ← Nat.pow_add] at h4
  exact Nat.lt_of_lt_of_le h4 (pow_fit (53 + e) 40 (by omega))
theorem dbl_len {n D : Nat} (hn : n < 4294967296 ^ 64) (hD : D ≤ 1074) : (lims (n * 2 ^ D)).length ≤ 70000 := by
  refine Nat.le_trans (lims_b _ 98 ?_) (by decide)
  have h1 : (2 : Nat) ^ D ≤ 4294967296 ^ 34 := pow_fit D 34 (by omega)
  have h2 : n * 2 ^ D < 4294967296 ^ 64 * 4294967296 ^ 34 := Nat.mul_lt_mul_of_lt_of_le hn h1 (Nat.pow_pos (by decide))
  rw [← Nat.pow_add] at h2
  exact h2
theorem fc_parts (s : Bool) (n b : Nat) (hs : s = true → n ≠ 0) (hf : Fin64 b) : cmpP s (n * 2 ^ ptD b) (sg (fsg b) (ptM b)) (ptM b) = fcP s n b := by
  have hD : ptD b ≤ B1 := by have := pt_le b; rw [B1_eq]; exact this
  have hm := part_num (b := b)
  have hnan : isNan b = false := by unfold isNan; unfold Fin64 at hf; exact decide_eq_false (by omega)
  unfold fcP
  rw [hnan, if_neg (by decide), keyF_fin hf, num_fmg]
  rw [cmpP_sgI (fun h => Nat.mul_ne_zero (hs h) (Nat.ne_of_gt (Nat.two_pow_pos _))) (by intro hc hz; rw [hz, sg_zero] at hc; cases hc), sInt_sg]
  have hp : (0 : Int) < ((2 ^ (B1 - ptD b) : Nat) : Int) := by have := Nat.two_pow_pos (B1 - ptD b); omega
  rw [← sgI_scale _ _ hp]
  have e1 : sInt s (n * 2 ^ ptD b) * ((2 ^ (B1 - ptD b) : Nat) : Int) = unitX s n := by
    have h1 : n * 2 ^ ptD b * 2 ^ (B1 - ptD b) = n * U1 := by
      unfold U1
      rw [Nat.mul_assoc, ← Nat.pow_add, show ptD b + (B1 - ptD b) = B1 by omega]
    have h2 : ((n * 2 ^ ptD b : Nat) : Int) * ((2 ^ (B1 - ptD b) : Nat) : Int) = (n : Int) * (U1 : Int) := by
      rw [← Int.natCast_mul, h1, Int.natCast_mul]
    unfold unitX sInt
    cases s with
    | false => simp only [Bool.false_eq_true, if_false]; exact h2
    | true => simp only [if_true]; rw [Int.neg_mul, Int.neg_mul, h2]
  have e2 : sInt (fsg b) (ptM b) * ((2 ^ (B1 - ptD b) : Nat) : Int) = if fsg b then -(fmg b : Int) else fmg b := by
    have h2 : (ptM b : Int) * ((2 ^ (B1 - ptD b) : Nat) : Int) = (fmg b : Int) := by rw [← Int.natCast_mul, hm]
    unfold sInt
    cases fsg b with
    | false => simp only [Bool.false_eq_true, if_false]; exact h2
    | true => simp only [if_true]; rw [Int.neg_mul, h2]
  rw [e1, e2]
set_option maxRecDepth 20000 in
set_option maxHeartbeats 1000000 in
theorem r3cmp_c (w : World) (s : Bool) (n b : Nat) (h : In w a cap (lims n)) (hn : n < B2) (hs : s = true → n ≠ 0) (hb : b < 18446744073709551616) :
    Calls Tryz.prog 52 #[.agg #[.bool s, .slice a (lims n).length cap], .float .f64 b] w fun e w' => e = .returned (.tuple #[.int .i64 (fcP s n b), .bool (!isNan b)]) ∧ Fr [] w w' := by
  obtain ⟨W1, hW1⟩ : ∃ W1, W1 = w.alloc (.cells #[.bool s, .slice a (lims n).length cap] 25) := ⟨_, rfl⟩
  obtain ⟨k, hk⟩ : ∃ k, k = w.heap.size := ⟨_, rfl⟩
  have P1 : Hid (Bx W1 k (.bool s) (.slice a (lims n).length cap)) := Lib.hid (by rw [hW1, hk]; exact Bx.new w _ _)
  have F1 : Hid (Fr [] w W1) := Lib.hid (by rw [hW1]; exact (Fr.refl _ _).alloc _)
  have CB := Lib.hid (fun w => r3bits_c b hb w)
  cases hnan : isNan b with
  | true =>
    have hf : Hid (fcP s n b = 0) := Lib.hid (by unfold fcP; rw [hnan]; rfl)
    rw [hf.out, show bitsC b = 9221120237041090561 by unfold bitsC; rw [hnan]; rfl] at *
    clear hnan hf h P1 hb hn hs
    generalize (lims n).length = L at *
    go_enter Tryz.func52, Tryz.ntmps52
    go_wp2_with fail
    try rw [← hW1]
    clear hW1 hk
    refine (CB.out _).mono ?_
    rintro e w' ⟨rfl, rfl⟩
    go_wp2_with fail
    go_ret2
    exact ⟨rfl, F1.out⟩
  | false =>
    rw [show bitsC b = b by unfold bitsC; rw [hnan]; rfl] at CB
    have n1 : ¬ (b : Int) = 9221120237041090561 := by
      intro hc
      have : b = 9221120237041090561 := by omega
      rw [this] at hnan
      exact absurd hnan (by decide)
    by_cases i1 : b = 9218868437227405312
    · have hf := Lib.hid (fc_pinf (s := s) (b := b) hn (by rw [i1]; decide) (by rw [i1]; decide))
      rw [hf.out]
      have i1I : (b : Int) = 9218868437227405312 := by omega
      clear hnan hf h P1 hb hn hs i1
      generalize (lims n).length = L at *
      go_enter Tryz.func52, Tryz.ntmps52
      go_wp2_with fail
      try rw [← hW1]
      clear hW1 hk
      refine (CB.out _).mono ?_
      rintro e w' ⟨rfl, rfl⟩
      go_wp2_with fail
      go_ret2
      exact ⟨rfl, F1.out⟩
    · by_cases i2 : b = 18442240474082181120
      · have hf := Lib.hid (fc_ninf (s := s) (b := b) hn (by rw [i2]; decide) (by rw [i2]; decide))
        rw [hf.out]
        have i2I : (b : Int) = 18442240474082181120 := by omega
        clear hnan hf h P1 hb hn hs i1 i2
        generalize (lims n).length = L at *
        go_enter Tryz.func52, Tryz.ntmps52
        go_wp2_with fail
        try rw [← hW1]
        clear hW1 hk
        refine (CB.out _).mono ?_
        rintro e w' ⟨rfl, rfl⟩
        go_wp2_with fail
        go_ret2
        exact ⟨rfl, F1.out⟩
      · have hf : Fin64 b := by
          rcases not_nan hnan with h1 | h1
          · exact h1
          · exfalso; omega
        have i1I : ¬ (b : Int) = 9218868437227405312 := by omega
        have i2I : ¬ (b : Int) = 18442240474082181120 := by omega
        have hfc := Lib.hid (fc_parts s n b hs hf)
        have CP : Hid (∀ w, Calls Tryz.prog 107 #[.float .f64 b] w (PtR w (fsg b) (ptM b) (ptD b))) := Lib.hid (fun w => parts_c w b hb hf)
        have hD := Lib.hid (pt_le b)
        have hML : Hid ((lims (ptM b)).length ≤ 70000) := Lib.hid (Nat.le_trans (lims_b _ 40 (ptM_lt hf)) (by decide))
        have hn64 : Hid (n < 4294967296 ^ 64) := Lib.hid (by rw [← B2_eq]; exact hn)
        obtain ⟨M, hM⟩ : ∃ M, M = ptM b := ⟨_, rfl⟩
        obtain ⟨D, hDD⟩ : ∃ D, D = ptD b := ⟨_, rfl⟩
        obtain ⟨g, hg⟩ : ∃ g, g = sg (fsg b) M := ⟨_, rfl⟩
        have CP : Hid (∀ w, Calls Tryz.prog 107 #[.float .f64 b] w fun e w' => ∃ a2 c2, e = .returned (.tuple #[.agg #[.bool g, .slice a2 (lims M).length c2], .int .i64 (D : Int)]) ∧ In w' a2 c2 (lims M) ∧ Fr [] w w') := Lib.hid (fun w => by
          rw [hg, hM, hDD]
          exact CP.out w)
        rw [← hM, ← hDD, ← hg] at hfc
        rw [← hDD] at hD
        rw [← hM] at hML
        have hgM : Hid (g = true → M ≠ 0) := Lib.hid (by rw [hg]; intro hc hz; rw [hz, sg_zero] at hc; cases hc)
        obtain ⟨c, hcc⟩ : ∃ c, c = fcP s n b := ⟨_, rfl⟩
        rw [← hcc] at hfc ⊢
        have HS := Lib.hid hs
        have I1 := Lib.hid (h.keep F1.out)
        clear hM hDD hg hcc hnan h hb hn hs i1 i2 hf
        go_enter Tryz.func52, Tryz.ntmps52
        go_wp2_with fail
        rw [← hW1, ← hk]
        clear hW1 hk
        refine (CB.out _).mono ?_
        rintro e w' ⟨rfl, rfl⟩
        go_wp2_with fail
        refine (CP.out _).mono ?_
        rintro e w2 ⟨a2, c2, rfl, I2, F2⟩
        obtain ⟨W2, hW2⟩ : ∃ W2, W2 = w2.alloc (.cells #[.bool g, .slice a2 (lims M).length c2] 25) := ⟨_, rfl⟩
        obtain ⟨k2, hk2⟩ : ∃ k2, k2 = w2.heap.size := ⟨_, rfl⟩
        have N2 : Fr [] w2 W2 := by rw [hW2]; exact (Fr.refl _ _).alloc _
        have Q2 : Hid (Bx W2 k2 (.bool g) (.slice a2 (lims M).length c2)) := Lib.hid (by rw [hW2, hk2]; exact Bx.new w2 _ _)
        have P2 := Lib.hid (P1.out.fr (F2.same N2))
        have I2 := Lib.hid (I2.keep N2)
        have J2 := Lib.hid (I1.out.keep (F2.same N2))
        have G2 := Lib.hid (F1.out.same (F2.same N2))
        clear F2 N2 I1 P1 F1 CB CP
        have x0 := P2.out.c0
        have x1 := P2.out.c1
        have xl := P2.out.lt
        have y0 := Q2.out.c0
        have y1 := Q2.out.c1
        have yl := Q2.out.lt
        have KEEP : Hid (∀ w_, Fr [] W2 w_ → (w_.cell? ⟨k, 0, none⟩ = some (.bool s) ∧ w_.cell? ⟨k, 1, none⟩ = some (.slice a (lims n).length cap) ∧ w_.cell? ⟨k2, 0, none⟩ = some (.bool g) ∧ w_.cell? ⟨k2, 1, none⟩ = some (.slice a2 (lims M).length c2))) := Lib.hid (fun w_ h => ⟨(P2.out.fr h).c0, (P2.out.fr h).c1, (Q2.out.fr h).c0, (Q2.out.fr h).c1⟩)
        have CD : Hid (∀ w_, Fr [] W2 w_ → Calls Tryz.prog 108 #[.slice a (lims n).length cap, .int .i64 (D : Int)] w_ fun e w' => ∃ a1 c1, e = .returned (.slice a1 (lims (n * 2 ^ D)).length c1) ∧ In w' a1 c1 (lims (n * 2 ^ D)) ∧ Fr [] w_ w') := Lib.hid (fun w_ h => doubled_c w_ n D hn64.out hD.out (J2.out.keep h))
        have CC : Hid (∀ w_ a1 c1, Fr [] W2 w_ → In w_ a1 c1 (lims (n * 2 ^ D)) → Calls Tryz.prog 44 #[.agg #[.bool s, .slice a1 (lims (n * 2 ^ D)).length c1], .agg #[.bool g, .slice a2 (lims M).length c2]] w_ fun e w' => e = .returned (.int .i64 c) ∧ Fr [] w_ w') := Lib.hid (fun w_ a1 c1 h h2 => by
          have := r2cmp_c w_ s g (n * 2 ^ D) M h2 (I2.out.keep h) (dbl_len hn64.out hD.out) hML.out
          rw [cmp_law (fun h => Nat.mul_ne_zero (HS.out h) (Nat.ne_of_gt (Nat.two_pow_pos _))) hgM.out, hfc.out] at this
          exact this)
        go_wp2_with fail
        rw [← hW2, ← hk2]
        clear hW2 hk2
        go_region_held3 (fun w_ => w_.cell? ⟨k, 0, none⟩ = some (.bool s) ∧ w_.cell? ⟨k, 1, none⟩ = some (.slice a (lims n).length cap) ∧ w_.cell? ⟨k2, 0, none⟩ = some (.bool g) ∧ w_.cell? ⟨k2, 1, none⟩ = some (.slice a2 (lims M).length c2)) (with_reducible first | assumption | exact KEEP.out _ ((Fr.refl [] _).drew) | exact KEEP.out _ K1.out | exact KEEP.out _ K2.out) (first | (go_at_call 108; refine Calls.mono (CD.out _ (Fr.refl [] W2).drew) ?_; rintro e u1 ⟨a5, c5, rfl, I5, G5⟩; have I5 := Lib.hid I5; have K1 := Lib.hid ((Fr.refl [] W2).drew.same G5)) | (go_at_call 44; refine Calls.mono (CC.out _ _ _ K1.out I5.out) ?_; rintro e u2 ⟨rfl, G6⟩; have K2 := Lib.hid (K1.out.same G6)))
        go_wp2_with fail
        go_ret2
        exact ⟨rfl, G2.out.same K2.out⟩
end Go.Proofs.YtjdanblijcdllaaGreatDoor
/- Walks: distaffref04.Cmp, Same, Int, Flo and tower.Same. -/
namespace Go.Proofs.YtjdanblijcdllaaGreatDoor
open Go.ChangeShapes Go.WideShapes Go.RowKit
open Ieee
variable {w w' : World} {a a2 : Option Addr} {cap cap2 : Nat}
set_option maxHeartbeats 1000000 in
set_option maxRecDepth 20000 in
theorem r4cmp_c (w : World) (fl : Bool) (f : Nat) (s : Bool) (n : Nat) (fl2 : Bool) (f2 : Nat) (s2 : Bool) (m : Nat) (hf : f < 18446744073709551616) (hf2 : f2 < 18446744073709551616) (h : In w a cap (lims n)) (h2 : In w a2 cap2 (lims m)) (hn : n < B2) (hm : m < B2) (hs : s = true → n ≠ 0) (hs2 : s2 = true → m ≠ 0) (hl1 : (lims n).length ≤ 64) (hl2 : (lims m).length ≤ 64) :
    Calls Tryz.prog 16 #[.agg #[.bool fl, .float .f64 f, .bool s, .slice a (lims n).length cap], .agg #[.bool fl2, .float .f64 f2, .bool s2, .slice a2 (lims m).length cap2]] w fun e w' => e = .returned (.tuple #[.int .i64 (tcP fl f s n fl2 f2 s2 m), .bool (tokP fl f fl2 f2)]) ∧ Fr [] w w' := by
  obtain ⟨W1, hW1⟩ : ∃ W1, W1 = (w.alloc (.cells #[.bool fl, .float .f64 f, .bool s, .slice a (lims n).length cap] 27)).alloc (.cells #[.bool fl2, .float .f64 f2, .bool s2, .slice a2 (lims m).length cap2] 27) := ⟨_, rfl⟩
  have F1 : Hid (Fr [] w W1) := Lib.hid (by rw [hW1]; exact ((Fr.refl _ _).alloc _).alloc _)
  have I1 := h.keep F1.out
  have I2 := h2.keep F1.out
  cases fl with
  | false =>
    cases fl2 with
    | false =>
      have CE : Hid (Calls Tryz.prog 44 #[.agg #[.bool s, .slice a (lims n).length cap], .agg #[.bool s2, .slice a2 (lims m).length cap2]] W1 fun e w' => e = .returned (.int .i64 (cmpP s n s2 m)) ∧ Fr [] W1 w') := Lib.hid (by
        have := r2cmp_c W1 s s2 n m I1 I2 (by omega) (by omega)
        rw [cmp_law hs hs2] at this
        exact this)
      have e2 : tokP false f false f2 = true := rfl
      rw [tc_ee hs hs2, e2]
      obtain ⟨c, hc⟩ : ∃ c, c = cmpP s n s2 m := ⟨_, rfl⟩
      rw [← hc] at CE ⊢
      clear I1 I2 h h2 hn hm hs hs2 hf hf2 hl1 hl2 hc e2
      generalize (lims n).length = l at *
      generalize (lims m).length = l2 at *
      go_enter Tryz.func16, Tryz.ntmps16
      go_wp2_with fail
      rw [← hW1]
      refine CE.out.mono ?_
      rintro e w2 ⟨rfl, F2⟩
      go_wp2
      go_ret2
      exact ⟨rfl, F1.out.same F2⟩
    | true =>
      have CE := Lib.hid (r3cmp_c W1 s n f2 I1 hn hs hf2)
      have e2 : tokP false f true f2 = !isNan f2 := rfl
      rw [tc_ef, e2]
      obtain ⟨c, hc⟩ : ∃ c, c = fcP s n f2 := ⟨_, rfl⟩
      obtain ⟨o, ho⟩ : ∃ o, o = !isNan f2 := ⟨_, rfl⟩
      rw [← hc, ← ho] at CE ⊢
      clear I1 I2 h h2 hn hm hs hs2 hf hf2 hl1 hl2 hc ho e2
      generalize (lims n).length = l at *
      generalize (lims m).length = l2 at *
      go_enter Tryz.func16, Tryz.ntmps16
      go_wp2_with fail
      rw [← hW1]
      refine CE.out.mono ?_
      rintro e w2 ⟨rfl, F2⟩
      go_wp2
      go_ret2
      exact ⟨rfl, F1.out.same F2⟩
  | true =>
    cases fl2 with
    | false =>
      have CE := Lib.hid (r3cmp_c W1 s2 m f I2 hm hs2 hf)
      have e2 : tokP true f false f2 = !isNan f := by unfold tokP nanN; simp
      have hcb := fcP_b s2 m f
      rw [tc_fe, e2]
      obtain ⟨c, hc⟩ : ∃ c, c = fcP s2 m f := ⟨_, rfl⟩
      obtain ⟨o, ho⟩ : ∃ o, o = !isNan f := ⟨_, rfl⟩
      rw [← hc, ← ho] at CE ⊢
      rw [← hc] at hcb
      obtain ⟨hc1, hc2⟩ := hcb
      clear I1 I2 h h2 hn hm hs hs2 hf hf2 hl1 hl2 hc ho e2
      generalize (lims n).length = l at *
      generalize (lims m).length = l2 at *
      go_enter Tryz.func16, Tryz.ntmps16
      go_wp2_with fail
      rw [← hW1]
      refine CE.out.mono ?_
      rintro e w2 ⟨rfl, F2⟩
      go_wp2
      go_ret2
      exact ⟨rfl, F1.out.same F2⟩
    | true =>
      clear I1 I2 h h2 hn hm hs hs2 hf hf2 hl1 hl2
      generalize (lims n).length = l at *
      generalize (lims m).length = l2 at *
      by_cases gn : isNan f = true ∨ isNan f2 = true
      · have ho : FloatKind.f64.format.order f f2 = none := by
          change double.order f f2 = none
          rcases gn with g1 | g1
          · exact order_nan_l g1
          · exact order_nan_r g1
        have e0 : (nanN true f || nanN true f2) = true := by unfold nanN; rcases gn with g1 | g1 <;> rw [g1] <;> simp
        have e1 : tcP true f s n true f2 s2 m = 0 := by unfold tcP; rw [if_pos e0]
        have e2 : tokP true f true f2 = false := by unfold tokP; rw [e0]; rfl
        rw [e1, e2]
        clear gn e0 e1 e2
        go_enter Tryz.func16, Tryz.ntmps16
        go_wp2_with fail
        go_region
        all_goals
          go_wp2_with fail
          go_ret2
          rw [← hW1]
          exact ⟨by first | rfl | simp [ho], by repeat (first | exact F1.out | apply Fr.drew)⟩
      · have g1 : isNan f = false := by cases hx : isNan f with | false => rfl | true => exact absurd (.inl hx) gn
        have g2 : isNan f2 = false := by cases hx : isNan f2 with | false => rfl | true => exact absurd (.inr hx) gn
        have ho : FloatKind.f64.format.order f f2 = some (compare (keyF f) (keyF f2)) := order_key g1 g2
        rw [fcmpI] at ho
        have e0 : (nanN true f || nanN true f2) = false := by unfold nanN; rw [g1, g2]; rfl
        have e2 : tokP true f true f2 = true := by unfold tokP; rw [e0]; rfl
        have e1 : tcP true f s n true f2 s2 m = sgI (keyF f) (keyF f2) := by unfold tcP; rw [if_neg (by rw [e0]; decide)]; rfl
        rw [e1, e2]
        clear gn e0 e1 e2 g1 g2
        unfold sgI
        by_cases c1 : keyF f < keyF f2
        · rw [if_pos c1] at ho ⊢
          clear c1
          go_enter Tryz.func16, Tryz.ntmps16
          go_wp2_with fail
          go_ret2
          rw [← hW1]
          exact ⟨rfl, F1.out⟩
        · rw [if_neg c1] at ho ⊢
          by_cases c2 : keyF f = keyF f2
          · rw [if_pos c2] at ho ⊢
            clear c1 c2
            go_enter Tryz.func16, Tryz.ntmps16
            go_wp2_with fail
            go_region
            all_goals
              go_wp2_with fail
              go_ret2
              rw [← hW1]
              exact ⟨by first | rfl | simp [ho], by repeat (first | exact F1.out | apply Fr.drew)⟩
          · rw [if_neg c2] at ho ⊢
            clear c1 c2
            go_enter Tryz.func16, Tryz.ntmps16
            go_wp2_with fail
            go_ret2
            rw [← hW1]
            exact ⟨rfl, F1.out⟩
/-- Whether two are the same. -/
def tsP (fl : Bool) (f : Nat) (s : Bool) (n : Nat) (fl2 : Bool) (f2 : Nat) (s2 : Bool) (m : Nat) : Bool := match fl, fl2 with
  | true, true => decide (bitsC f = bitsC f2)
  | false, false => decide (s = s2 ∧ n = m)
  | _, _ => false
set_option maxHeartbeats 1000000 in
set_option maxRecDepth 20000 in
theorem twsame_c (w : World) (fl : Bool) (f : Nat) (s : Bool) (n : Nat) (fl2 : Bool) (f2 : Nat) (s2 : Bool) (m : Nat) (hf : f < 18446744073709551616) (hf2 : f2 < 18446744073709551616) (h : In w a cap (lims n)) (h2 : In w a2 cap2 (lims m)) :
    Calls Tryz.prog 17 #[.agg #[.bool fl, .float .f64 f, .bool s, .slice a (lims n).length cap], .agg #[.bool fl2, .float .f64 f2, .bool s2, .slice a2 (lims m).length cap2]] w fun e w' => e = .returned (.bool (tsP fl f s n fl2 f2 s2 m)) ∧ Fr [] w w' := by
  obtain ⟨W1, hW1⟩ : ∃ W1, W1 = (w.alloc (.cells #[.bool fl, .float .f64 f, .bool s, .slice a (lims n).length cap] 27)).alloc (.cells #[.bool fl2, .float .f64 f2, .bool s2, .slice a2 (lims m).length cap2] 27) := ⟨_, rfl⟩
  have F1 : Hid (Fr [] w W1) := Lib.hid (by rw [hW1]; exact ((Fr.refl _ _).alloc _).alloc _)
  have CE := Lib.hid (esame_c W1 s s2 n m (h.keep F1.out) (h2.keep F1.out))
  have CF := Lib.hid (flsame_c f f2 W1)
  obtain ⟨p, hp⟩ : ∃ p, p = decide (s = s2 ∧ n = m) := ⟨_, rfl⟩
  obtain ⟨q, hq⟩ : ∃ q, q = decide (bitsC f = bitsC f2) := ⟨_, rfl⟩
  have e1 : tsP fl f s n fl2 f2 s2 m = (if fl && fl2 then q else if fl || fl2 then false else p) := by rw [hp, hq]; unfold tsP; cases fl <;> cases fl2 <;> rfl
  rw [e1]
  rw [← hp] at CE
  rw [← hq] at CF
  clear hp hq e1 h h2 hf hf2
  generalize (lims n).length = l at *
  generalize (lims m).length = l2 at *
  cases fl with
  | false =>
    cases fl2 with
    | false =>
      go_enter Tryz.func17, Tryz.ntmps17
      go_wp2_with fail
      rw [← hW1]
      refine CE.out.mono ?_
      rintro e w2 ⟨rfl, F2⟩
      go_wp2
      go_ret
      exact ⟨rfl, F1.out.same F2⟩
    | true =>
      go_enter Tryz.func17, Tryz.ntmps17
      go_wp2
      go_ret
      rw [← hW1]
      exact ⟨rfl, F1.out⟩
  | true =>
    cases fl2 with
    | false =>
      go_enter Tryz.func17, Tryz.ntmps17
      go_wp2
      go_ret
      rw [← hW1]
      exact ⟨rfl, F1.out⟩
    | true =>
      go_enter Tryz.func17, Tryz.ntmps17
      go_wp2_with fail
      rw [← hW1]
      refine CF.out.mono ?_
      rintro e w2 ⟨rfl, F2⟩
      go_wp2
      go_ret
      exact ⟨rfl, F1.out.same F2⟩
set_option maxHeartbeats 1000000 in
set_option maxRecDepth 20000 in
theorem r4same_c (w : World) (fl : Bool) (f : Nat) (s : Bool) (n : Nat) (fl2 : Bool) (f2 : Nat) (s2 : Bool) (m : Nat) (hf : f < 18446744073709551616) (hf2 : f2 < 18446744073709551616) (h : In w a cap (lims n)) (h2 : In w a2 cap2 (lims m)) :
    Calls Tryz.prog 18 #[.agg #[.bool fl, .float .f64 f, .bool s, .slice a (lims n).length cap], .agg #[.bool fl2, .float .f64 f2, .bool s2, .slice a2 (lims m).length cap2]] w fun e w' => e = .returned (.bool (tsP fl f s n fl2 f2 s2 m)) ∧ Fr [] w w' := by
  obtain ⟨W1, hW1⟩ : ∃ W1, W1 = (w.alloc (.cells #[.bool fl, .float .f64 f, .bool s, .slice a (lims n).length cap] 27)).alloc (.cells #[.bool fl2, .float .f64 f2, .bool s2, .slice a2 (lims m).length cap2] 27) := ⟨_, rfl⟩
  have F1 : Hid (Fr [] w W1) := Lib.hid (by rw [hW1]; exact ((Fr.refl _ _).alloc _).alloc _)
  have CE := Lib.hid (r2same_c W1 s s2 n m (h.keep F1.out) (h2.keep F1.out))
  have CF := Lib.hid (r3same_c f f2 hf hf2 W1)
  obtain ⟨p, hp⟩ : ∃ p, p = decide (s = s2 ∧ n = m) := ⟨_, rfl⟩
  obtain ⟨q, hq⟩ : ∃ q, q = decide (bitsC f = bitsC f2) := ⟨_, rfl⟩
  have e1 : tsP fl f s n fl2 f2 s2 m = (if fl && fl2 then q else if fl || fl2 then false else p) := by rw [hp, hq]; unfold tsP; cases fl <;> cases fl2 <;> rfl
  rw [e1]
  rw [← hp] at CE
  rw [← hq] at CF
  clear hp hq e1 h h2 hf hf2
  generalize (lims n).length = l at *
  generalize (lims m).length = l2 at *
  cases fl with
  | false =>
    cases fl2 with
    | false =>
      go_enter Tryz.func18, Tryz.ntmps18
      go_wp2_with fail
      rw [← hW1]
      refine CE.out.mono ?_
      rintro e w2 ⟨rfl, F2⟩
      go_wp2
      go_ret
      exact ⟨rfl, F1.out.same F2⟩
    | true =>
      go_enter Tryz.func18, Tryz.ntmps18
      go_wp2
      go_ret
      rw [← hW1]
      exact ⟨rfl, F1.out⟩
  | true =>
    cases fl2 with
    | false =>
      go_enter Tryz.func18, Tryz.ntmps18
      go_wp2
      go_ret
      rw [← hW1]
      exact ⟨rfl, F1.out⟩
    | true =>
      go_enter Tryz.func18, Tryz.ntmps18
      go_wp2_with fail
      rw [← hW1]
      refine CF.out.mono ?_
      rintro e w2 ⟨rfl, F2⟩
      go_wp2
      go_ret
      exact ⟨rfl, F1.out.same F2⟩
theorem r4int_c (w : World) (z : Int) (h1 : -9223372036854775808 ≤ z) (h2 : z ≤ 9223372036854775807) : Calls Tryz.prog 20 #[.int .i64 z] w fun e w' => ∃ a cap, e = .returned (.agg #[.bool false, .float .f64 0, .bool (decide (z < 0)), .slice a (lims z.natAbs).length cap]) ∧ In w' a cap (lims z.natAbs) ∧ Fr [] w w' := by
  obtain ⟨W1, hW1⟩ : ∃ W1, W1 = w.alloc (.cells #[.bool false, .float .f64 0, .bool false, .slice none 0 0] 27) := ⟨_, rfl⟩
  obtain ⟨k, hk⟩ : ∃ k, k = w.heap.size := ⟨_, rfl⟩
  have P1 : Hid (BxN W1 k (.bool false) (.float .f64 0) (.bool false) (.slice none 0 0)) := Lib.hid (by rw [hW1, hk]; exact BxN.new _ _ _ _ _)
  have F1 : Hid (Fr [] w W1) := Lib.hid (by rw [hW1]; exact (Fr.refl _ _).alloc _)
  have HK := Lib.hid hk
  have CO := Lib.hid (r2of_c W1 z h1 h2)
  obtain ⟨s, hs⟩ : ∃ s, s = decide (z < 0) := ⟨_, rfl⟩
  obtain ⟨n, hn⟩ : ∃ n, n = z.natAbs := ⟨_, rfl⟩
  rw [← hs, ← hn] at CO ⊢
  clear hs hn h1 h2
  have hsf := sf_run
  go_enter Tryz.func20, Tryz.ntmps20
  go_wp2_with fail
  rw [← hW1, ← hk]
  clear hW1 hk
  refine CO.out.mono ?_
  rintro e w2 ⟨a2, c2, rfl, I2, F2⟩
  have I2 := Lib.hid I2
  have P2 := Lib.hid (P1.out.fr F2)
  have F2 := Lib.hid (F1.out.same F2)
  clear CO P1 F1
  obtain ⟨l, hl⟩ : ∃ l, l = (lims n).length := ⟨_, rfl⟩
  have HL := Lib.hid hl
  rw [← hl]
  clear hl
  have I3 := I2
  have P3 := P2
  have F3 := F2
  clear I2 P2 F2
  have q0 := P3.out.f 0
  have q1 := P3.out.f 1
  have q2 := P3.out.f 2
  have q3 := P3.out.f 3
  have c0 := P3.out.c0
  have c1 := P3.out.c1
  have c2' := P3.out.c2
  have c3 := P3.out.c3
  have ql := P3.out.lt
  go_wp2_with fail
  refine bodyPost_ret (ret_nv rfl _ _ _ _ _ _ _ rfl (P3.out.set _ _ _ _)) rfl ?_
  have hkw : w.heap.size ≤ k := by rw [HK.out]; exact Nat.le_refl _
  exact ⟨a2, c2, by rw [HL.out], I3.out.set4 P3.out _ _ _ _, F3.out.set4 hkw _ _ _ _⟩
theorem r4flo_c (w : World) (f : Nat) : Calls Tryz.prog 22 #[.float .f64 f] w fun e w' => e = .returned (.agg #[.bool true, .float .f64 f, .bool false, .slice none 0 0]) ∧ Fr [] w w' := by
  have hsf := sf_run
  go_enter Tryz.func22, Tryz.ntmps22
  go_wp2
  refine bodyPost_ret (ret_nv rfl _ _ _ _ _ _ _ rfl (BxN.new w _ _ _ _)) rfl ?_
  exact ⟨rfl, (Fr.refl [] w).alloc _⟩
end Go.Proofs.YtjdanblijcdllaaGreatDoor
