/- The texts and numbers of numbers: a part of the walk. No condition. -/
import Derived.Test.YtcjkgnafpkkjmaaGreatDoorQk06
import Derived.Deep.DeepCutAuto
import Derived.Deep.CutRange
import Derived.Test.YtcjkgnafpkkjmaaGreatDoorQk12
set_option linter.all false
section
namespace Go.Proofs.YtcjkgnafpkkjmaaGreatDoor
theorem lims_get (v k : Nat) : (lims v)[k]?.getD 0 = v / 4294967296 ^ k % 4294967296 := by
  have h1 := val_take_drop (lims v) k
  have h2 := val_drop (lims v) k
  have h3 := val_lt (lim_take (lim_lims v) k)
  have h4 := lim_get (lim_lims v) k
  rw [val_lims] at h1
  have h5 : val ((lims v).take k) < 4294967296 ^ k := Nat.lt_of_lt_of_le h3 (Nat.pow_le_pow_right (by decide) (by rw [List.length_take]; exact Nat.min_le_left _ _))
  have hp : 0 < 4294967296 ^ k := Nat.pow_pos (by decide)
  have e : v / 4294967296 ^ k = val ((lims v).drop k) := by
    calc v / 4294967296 ^ k = (val ((lims v).take k) + 4294967296 ^ k * val ((lims v).drop k)) / 4294967296 ^ k := by rw [← h1]
      _ = val ((lims v).drop k) := by rw [Nat.add_mul_div_left _ _ hp, Nat.div_eq_of_lt h5, Nat.zero_add]
  rw [e, h2, Nat.add_mul_mod_self_left, Nat.mod_eq_of_lt h4]
def bitN (v n : Nat) : Nat := v / 2 ^ n % 2
theorem bit_limb (v n : Nat) : (lims v)[n / 32]?.getD 0 / 2 ^ (n % 32) % 2 = bitN v n := by
  rw [lims_get]
  unfold bitN
  rw [← Nat.toNat_testBit, ← Nat.toNat_testBit, show (4294967296 : Nat) = 2 ^ 32 by decide, Nat.testBit_mod_two_pow, ← Nat.pow_mul, Nat.testBit_div_two_pow]
  rw [decide_eq_true (Nat.mod_lt n (by decide)), Bool.true_and, show n % 32 + 32 * (n / 32) = n by omega]
theorem bit_high {v n : Nat} (h : 32 * (lims v).length ≤ n) : bitN v n = 0 := by
  have h1 : v < 4294967296 ^ (lims v).length := len_lims.1 (Nat.le_refl _)
  have h2 : v < 2 ^ n := by
    refine Nat.lt_of_lt_of_le h1 ?_
    rw [show (4294967296 : Nat) = 2 ^ 32 by decide, ← Nat.pow_mul]
    exact Nat.pow_le_pow_right (by decide) h
  unfold bitN
  rw [Nat.div_eq_of_lt h2]
def wid (v : Nat) : Nat := if v = 0 then 0 else v.log2 + 1
theorem wid_lims {v : Nat} (h : v ≠ 0) : 32 * ((lims v).length - 1) + Lib.bitLen ((lims v)[(lims v).length - 1]?.getD 0) = wid v := by
  have hl := lims_len_pos.2 h
  obtain ⟨k, hk⟩ : ∃ k, (lims v).length = k + 1 := ⟨(lims v).length - 1, by omega⟩
  rw [hk, Nat.add_sub_cancel]
  have hg := lims_get v k
  have hb := lim_get (lim_lims v) k
  have hv : v < 4294967296 ^ (k + 1) := len_lims.1 (by omega)
  have hv2 : ¬ v < 4294967296 ^ k := fun hc => by have := len_lims.2 hc; omega
  have hp : 0 < 4294967296 ^ k := Nat.pow_pos (by decide)
  have hq : v / 4294967296 ^ k < 4294967296 := (Nat.div_lt_iff_lt_mul hp).2 (by rw [Nat.pow_succ, Nat.mul_comm] at hv; exact hv)
  have hq0 : v / 4294967296 ^ k ≠ 0 := fun hc => by
    have := Nat.div_add_mod v (4294967296 ^ k)
    have := Nat.mod_lt v hp
    rw [hc] at *
    omega
  rw [Nat.mod_eq_of_lt hq] at hg
  rw [hg]
  obtain ⟨h1, h2, h3⟩ := bitLen_bounds (v / 4294967296 ^ k) hq0 (by omega)
  generalize Lib.bitLen (v / 4294967296 ^ k) = n at *
  have e : 4294967296 ^ k = 2 ^ (32 * k) := by rw [show (4294967296 : Nat) = 2 ^ 32 by decide, ← Nat.pow_mul]
  rw [e] at h2 h3 hp
  have lo : 2 ^ (32 * k + (n - 1)) ≤ v := by
    rw [Nat.pow_add, Nat.mul_comm]
    exact (Nat.le_div_iff_mul_le hp).1 h2
  have hi : v < 2 ^ (32 * k + n) := by
    rw [Nat.pow_add, Nat.mul_comm]
    exact (Nat.div_lt_iff_lt_mul hp).1 h3
  have l1 := (Nat.le_log2 h).2 lo
  have l2 := (Nat.log2_lt h).2 hi
  unfold wid
  rw [if_neg h]
  omega
end Go.Proofs.YtcjkgnafpkkjmaaGreatDoor
namespace Go.Proofs.YtcjkgnafpkkjmaaGreatDoor
open Go.ChangeShapes Go.WideShapes Go.RowKit
variable {w w' : World} {a : Option Addr} {cap : Nat}
theorem flwidth_c (w : World) (v : Nat) (h : In w a cap (lims v)) : Calls Tryz.prog 57 #[.slice a (lims v).length cap] w fun e w' => e = .returned (.int .i64 (wid v : Nat)) ∧ Fr [] w w' := by
  have hs := h.sm
  have hle := h.le
  have hcm : cap ≤ 9223372036854775807 := by have := h.cm; unfold maxLen at this; exact this
  by_cases h0 : v = 0
  · subst h0
    rw [lims_zero] at h hs hle ⊢
    have hw : wid 0 = 0 := rfl
    rw [hw]
    clear h
    go_enter Tryz.func57, Tryz.ntmps57
    go_wp2
    go_ret
    exact ⟨rfl, Fr.refl _ _⟩
  · have hl := lims_len_pos.2 h0
    obtain ⟨k, hk⟩ : ∃ k, (lims v).length = k + 1 := ⟨(lims v).length - 1, by omega⟩
    have hwd := wid_lims h0
    have ht := lim_get (lim_lims v) k
    rcases h.rd with hn | ⟨b, o, rfl, hb, hc⟩
    · rw [hn] at hl; simp at hl
    have d := hc k (by omega)
    rw [hk, Nat.add_sub_cancel] at hwd
    obtain ⟨t, hte⟩ : ∃ t, t = (lims v)[k]?.getD 0 := ⟨_, rfl⟩
    rw [← hte] at hwd ht d
    obtain ⟨bl, hbl⟩ : ∃ bl, bl = Lib.bitLen t := ⟨_, rfl⟩
    rw [← hbl] at hwd
    have CL := Lib.hid (fun w1 => by have := Tryz.bits_Len32 (t : Int) w1 (by omega) (by omega); rw [Int.toNat_natCast, ← hbl] at this; exact this)
    rw [hk] at hs hle ⊢
    have hblb : bl ≤ 64 := by rw [hbl]; exact Lib.bitLen_le t 64 (by decide) (by omega)
    obtain ⟨W, hW⟩ : ∃ W, W = wid v := ⟨_, rfl⟩
    rw [← hW] at hwd ⊢
    clear h hc hte hbl hW hk hl
    have hcast : ((k + 1 : Nat) : Int) = (k : Int) + 1 := by omega
    go_enter Tryz.func57, Tryz.ntmps57
    go_wp2_with (go_at_call 102; refine (CL.out _).mono ?_; rintro e w' ⟨rfl, rfl⟩)
    go_ret
    exact ⟨by rw [show (W : Int) = 32 * (k : Int) + (bl : Int) by omega]; rfl, Fr.refl _ _⟩
theorem and_one64 (y : Nat) (h : y < 4294967296) : bits BinOp.and IntKind.u64 (IntKind.u64.wrap (y : Int)) 1 = ((y % 2 : Nat) : Int) := by
  rw [fw_u64 _ (by omega) (by omega), show (1 : Int) = ((1 : Nat) : Int) from rfl, bits_and_u64_nat _ _ (by omega) (by decide), Nat.and_one_is_mod]
def bitZ (v : Nat) (n : Int) : Nat := if n < 0 then 0 else bitN v n.toNat
theorem bitZ_le (v : Nat) (n : Int) : bitZ v n ≤ 1 := by unfold bitZ bitN; split <;> omega
theorem flbit_c (w : World) (v : Nat) (h : In w a cap (lims v)) (n : Int) (hn : n ≤ 9223372036854775807) : Calls Tryz.prog 58 #[.slice a (lims v).length cap, .int .i64 n] w fun e w' => e = .returned (.int .u64 (bitZ v n : Nat)) ∧ w = w' := by
  have hs := h.sm
  have hle := h.le
  have hcm : cap ≤ 9223372036854775807 := by have := h.cm; unfold maxLen at this; exact this
  by_cases h0 : n < 0
  · have hz : bitZ v n = 0 := if_pos h0
    rw [hz]
    generalize (lims v).length = k at *
    clear h hz
    go_enter Tryz.func58, Tryz.ntmps58
    go_wp2
    go_ret
    exact ⟨rfl, rfl⟩
  obtain ⟨q, rfl⟩ : ∃ q : Nat, n = (q : Int) := ⟨n.toNat, by omega⟩
  have hz : bitZ v q = bitN v q := by unfold bitZ; rw [if_neg (by omega), Int.toNat_natCast]
  rw [hz]
  by_cases h1 : 32 * (lims v).length ≤ q
  · rw [bit_high h1]
    generalize (lims v).length = k at *
    clear h hz h0
    have h2 : 32 * (k : Int) ≤ (q : Int) := by omega
    go_enter Tryz.func58, Tryz.ntmps58
    go_wp2
    go_ret
    exact ⟨rfl, rfl⟩
  · have hb := bit_limb v q
    have hi : q / 32 < (lims v).length := by omega
    obtain ⟨b, o, rfl, hbl, d⟩ := h.at hi
    have ht := lim_get (lim_lims v) (q / 32)
    obtain ⟨t, hte⟩ : ∃ t, t = (lims v)[q / 32]?.getD 0 := ⟨_, rfl⟩
    rw [← hte] at hb ht d
    obtain ⟨r, hr⟩ : ∃ r, r = q % 32 := ⟨_, rfl⟩
    obtain ⟨j, hj⟩ : ∃ j, j = q / 32 := ⟨_, rfl⟩
    have e1 : (q : Int) / 32 = (j : Int) := by omega
    have e2 : (q : Int) % 32 = (r : Int) := by omega
    have e3 : Int.tdiv (q : Int) 32 = (j : Int) := by rw [Int.tdiv_eq_ediv_of_nonneg (by omega)]; exact e1
    have e4 : Int.tmod (q : Int) 32 = (r : Int) := by rw [Int.tmod_eq_emod_of_nonneg (by omega)]; exact e2
    have hrl : r < 32 := by omega
    rw [← hr] at hb
    rw [← hj] at d hi
    have e5 : (t : Int) / 2 ^ r = ((t / 2 ^ r : Nat) : Int) := by push_cast; rfl
    have hlt : t / 2 ^ r < 4294967296 := Nat.lt_of_le_of_lt (Nat.div_le_self _ _) ht
    have hx : bits BinOp.and IntKind.u64 (IntKind.u64.wrap ((t : Int) / 2 ^ r)) 1 = ((bitN v q : Nat) : Int) := by
      rw [e5, and_one64 _ hlt, hb]
    generalize (lims v).length = k at *
    clear h hz h0 hte hr hj e5 hb
    have h2 : ¬ 32 * (k : Int) ≤ (q : Int) := by omega
    go_enter Tryz.func58, Tryz.ntmps58
    go_wp2
    go_ret
    exact ⟨rfl, rfl⟩
end Go.Proofs.YtcjkgnafpkkjmaaGreatDoor
namespace Go.Proofs.YtcjkgnafpkkjmaaGreatDoor
open Go.ChangeShapes Go.WideShapes Go.RowKit
variable {w w' : World} {a : Option Addr} {cap : Nat}
theorem mod_step (v i : Nat) : v % 2 ^ (i + 1) = v % 2 ^ i + 2 ^ i * bitN v i := by
  unfold bitN
  rw [Nat.pow_succ, Nat.mod_mul]
theorem flsome_c (w : World) (v n : Nat) (h : In w a cap (lims v)) (hn : n ≤ 1000000) : Calls Tryz.prog 59 #[.slice a (lims v).length cap, .int .i64 (n : Int)] w fun e w' => e = .returned (.bool (decide (v % 2 ^ n ≠ 0))) ∧ w = w' := by
  have CB := Lib.hid (fun (i : Nat) (hi : i ≤ 1000000) => by have := flbit_c w v h (i : Int) (by omega); rw [show bitZ v (i : Int) = bitN v i by unfold bitZ; rw [if_neg (by omega), Int.toNat_natCast]] at this; exact this)
  have HE : Hid (v % 2 ^ 0 = 0) := Lib.hid (by rw [Nat.pow_zero, Nat.mod_one])
  have HM : Hid (∀ i, i < n → v % 2 ^ i = 0 → bitN v i = 1 → (decide (v % 2 ^ n ≠ 0)) = true) := Lib.hid (fun i hi h0 h1 => by
    refine decide_eq_true (fun hc => ?_)
    have hd : v % 2 ^ (i + 1) = v % 2 ^ n % 2 ^ (i + 1) := (Nat.mod_mod_of_dvd v (Nat.pow_dvd_pow 2 (show i + 1 ≤ n by omega))).symm
    rw [hc, mod_step, h0, h1, Nat.zero_mod] at hd
    have := Nat.two_pow_pos i
    omega)
  generalize (lims v).length = k at *
  clear h
  go_enter Tryz.func59, Tryz.ntmps59
  go_wp2_with fail
  go_loopw [7] (fun u wr => ∃ i : Nat, i ≤ n ∧ u = .int .i64 (i : Int) ∧ Hid (v % 2 ^ i = 0) ∧ w = wr) (fun u _ => n - (intOf u).toNat)
  case atStart => exact ⟨0, by omega, by go_num, HE, rfl⟩
  case round =>
    obtain ⟨i, hi, rfl, H0, rfl⟩ := hrel
    clear HE
    by_cases hlt : i < n
    · have hb2 : bitN v i ≤ 1 := by unfold bitN; omega
      have CI := Lib.hid (CB.out i (by omega))
      obtain ⟨x, hx⟩ : ∃ x, x = bitN v i := ⟨_, rfl⟩
      have HX := Lib.hid hx
      rw [← hx] at CI hb2
      clear hx
      by_cases h1 : x = 1
      · subst h1
        have hd := HM.out i hlt H0.out HX.out.symm
        have HD := Lib.hid hd
        clear hd HM
        go_wp2_with fail
        refine CI.out.mono ?_
        rintro e w' ⟨rfl, rfl⟩
        go_wp2
        go_ret
        rw [HD.out]
        exact ⟨rfl, rfl⟩
      · have hx0 : x = 0 := by omega
        subst hx0
        have H1 : Hid (v % 2 ^ (i + 1) = 0) := Lib.hid (by rw [mod_step, H0.out, ← HX.out, Nat.mul_zero])
        clear h1
        go_wp2_with fail
        refine CI.out.mono ?_
        rintro e w' ⟨rfl, rfl⟩
        go_wp2
        go_roundw
        case rel => exact ⟨i + 1, by omega, by go_num, H1, trivial⟩
        case measure => simp [intOf]; omega
    · have hin : i = n := by omega
      have hd : decide (v % 2 ^ n ≠ 0) = false := by rw [← hin]; exact decide_eq_false (by rw [H0.out]; simp)
      have HD := Lib.hid hd
      clear hd hin
      go_wp2
      go_ret
      rw [HD.out]
      exact ⟨rfl, rfl⟩
end Go.Proofs.YtcjkgnafpkkjmaaGreatDoor
namespace Go.Proofs.YtcjkgnafpkkjmaaGreatDoor
def topN (v i : Nat) : Nat := if i ≤ wid v then v / 2 ^ (wid v - i) else v * 2 ^ (i - wid v)
theorem topN_zero (v : Nat) : topN v 0 = 0 := by
  unfold topN wid
  rw [if_pos (by omega)]
  by_cases h : v = 0
  · rw [if_pos h, h, Nat.zero_div]
  · rw [if_neg h]
    exact Nat.div_eq_of_lt Nat.lt_log2_self
theorem topN_step (v i : Nat) : topN v (i + 1) = topN v i * 2 + bitZ v ((wid v : Int) - 1 - i) := by
  unfold topN bitZ
  by_cases h : i + 1 ≤ wid v
  · rw [if_pos h, if_pos (by omega), if_neg (by omega), show ((wid v : Int) - 1 - i).toNat = wid v - (i + 1) by omega]
    obtain ⟨d, hd⟩ : ∃ d, d = wid v - (i + 1) := ⟨_, rfl⟩
    rw [show wid v - i = d + 1 by omega, ← hd]
    unfold bitN
    rw [Nat.pow_succ, ← Nat.div_div_eq_div_mul]
    omega
  · rw [if_neg h]
    by_cases h2 : i ≤ wid v
    · have hi : i = wid v := by omega
      rw [if_pos h2, if_pos (by omega), hi, Nat.sub_self, Nat.pow_zero, Nat.div_one, show wid v + 1 - wid v = 1 by omega, Nat.pow_one, Nat.add_zero]
    · rw [if_neg h2, if_pos (by omega), show i + 1 - wid v = (i - wid v) + 1 by omega, Nat.pow_succ]
      rw [← Nat.mul_assoc, Nat.add_zero]
theorem topN_lt (v i : Nat) : topN v i < 2 ^ i := by
  induction i with
  | zero => rw [topN_zero]; simp
  | succ i ih =>
    rw [topN_step, Nat.pow_succ]
    have := bitZ_le v ((wid v : Int) - 1 - i)
    omega
theorem topN_53 {v : Nat} (h : v ≠ 0) : topN v 53 = if v.log2 ≤ 52 then v * 2 ^ (52 - v.log2) else v / 2 ^ (v.log2 - 52) := by
  unfold topN wid
  rw [if_neg h]
  by_cases hl : v.log2 ≤ 52
  · rw [if_pos hl]
    by_cases h2 : 53 ≤ v.log2 + 1
    · rw [if_pos h2, show v.log2 + 1 - 53 = 0 by omega, show 52 - v.log2 = 0 by omega]; simp
    · rw [if_neg h2, show 53 - (v.log2 + 1) = 52 - v.log2 by omega]
  · rw [if_neg hl, if_pos (by omega), show v.log2 + 1 - 53 = v.log2 - 52 by omega]
theorem even_up (P y z b : Nat) (hy : y < P) (hb : b ≤ 1) : (decide (P * 2 < 2 * (y + P * b)) || (decide (P * 2 = 2 * (y + P * b)) && decide (z = 1))) = decide (b = 1 ∧ (z = 1 ∨ y ≠ 0)) := by
  rcases (show b = 0 ∨ b = 1 by omega) with rfl | rfl
  · have e1 : ¬ P * 2 < 2 * (y + P * 0) := by rw [Nat.mul_zero]; omega
    have e2 : ¬ P * 2 = 2 * (y + P * 0) := by rw [Nat.mul_zero]; omega
    rw [decide_eq_false e1, decide_eq_false e2, decide_eq_false (show ¬ (0 = 1 ∧ (z = 1 ∨ y ≠ 0)) by omega)]; rfl
  · by_cases h0 : y = 0
    · have e1 : ¬ P * 2 < 2 * (y + P * 1) := by rw [Nat.mul_one]; omega
      have e2 : P * 2 = 2 * (y + P * 1) := by rw [Nat.mul_one]; omega
      rw [decide_eq_false e1, decide_eq_true e2]
      by_cases hz : z = 1
      · rw [decide_eq_true hz, decide_eq_true (show 1 = 1 ∧ (z = 1 ∨ y ≠ 0) from ⟨rfl, .inl hz⟩)]; rfl
      · rw [decide_eq_false hz, decide_eq_false (show ¬ (1 = 1 ∧ (z = 1 ∨ y ≠ 0)) by omega)]; rfl
    · have e1 : P * 2 < 2 * (y + P * 1) := by rw [Nat.mul_one]; omega
      rw [decide_eq_true e1, decide_eq_true (show 1 = 1 ∧ (z = 1 ∨ y ≠ 0) from ⟨rfl, .inr h0⟩)]; rfl
def upN (v : Nat) : Prop := bitZ v ((wid v : Int) - 53 - 1) = 1 ∧ (topN v 53 % 2 = 1 ∨ v % 2 ^ (wid v - 53 - 1) ≠ 0)
instance (v : Nat) : Decidable (upN v) := by unfold upN; exact inferInstance
theorem round_eq {v : Nat} (h : v ≠ 0) : keptN v = topN v 53 + if upN v then 1 else 0 := by
  rw [topN_53 h]
  unfold keptN
  have hw : wid v = v.log2 + 1 := if_neg h
  by_cases hl : v.log2 ≤ 52
  · have hu : ¬ upN v := by
      unfold upN bitZ
      rw [hw, if_pos (by omega)]
      intro hc; exact absurd hc.1 (by decide)
    rw [if_pos hl, if_pos hl, if_neg hu]; rfl
  · rw [if_neg hl, if_neg hl]
    congr 1
    obtain ⟨d, hd⟩ : ∃ d, v.log2 - 52 = d + 1 := ⟨v.log2 - 53, by omega⟩
    have hu : upN v ↔ bitN v d = 1 ∧ (v / 2 ^ (d + 1) % 2 = 1 ∨ v % 2 ^ d ≠ 0) := by
      unfold upN bitZ
      rw [topN_53 h, if_neg hl, hw, if_neg (by omega), show (((v.log2 + 1 : Nat) : Int) - 53 - 1).toNat = d by omega, show v.log2 + 1 - 53 - 1 = d by omega, hd]
    rw [hd]
    have hm := mod_step v d
    have hp := Nat.two_pow_pos d
    have hml := Nat.mod_lt v hp
    have hb : bitN v d ≤ 1 := by unfold bitN; omega
    have hps : 2 ^ (d + 1) = 2 ^ d * 2 := Nat.pow_succ ..
    have key : moreB .even false (2 ^ (d + 1)) (v / 2 ^ (d + 1)) (v % 2 ^ (d + 1)) = decide (upN v) := by
      obtain ⟨z, hz⟩ : ∃ z, z = v / 2 ^ (d + 1) % 2 := ⟨_, rfl⟩
      rw [← hz] at hu
      rw [decide_eq_decide.2 hu]
      unfold moreB
      simp only [beqd]
      rw [← hz, hm, hps]
      exact even_up _ _ _ _ hml hb
    rw [key]
    by_cases hU : upN v
    · rw [decide_eq_true hU, if_pos hU]; rfl
    · rw [decide_eq_false hU, if_neg hU]; rfl
end Go.Proofs.YtcjkgnafpkkjmaaGreatDoor
namespace Go.Proofs.YtcjkgnafpkkjmaaGreatDoor
open Go.ChangeShapes Go.WideShapes Go.RowKit
variable {w w' : World} {a : Option Addr} {cap : Nat}
def mN (v : Nat) : Nat := topN v 53 + if upN v then 1 else 0
theorem mN_zero : mN 0 = 0 := by
  have h1 : topN 0 53 = 0 := by unfold topN wid; rw [if_neg (by decide)]; simp
  have h2 : ¬ upN 0 := by
    unfold upN bitZ
    rw [if_pos (by decide)]
    intro hc; exact absurd hc.1 (by decide)
  unfold mN
  rw [h1, if_neg h2]
theorem mN_kept {v : Nat} (h : v ≠ 0) : mN v = keptN v := (round_eq h).symm
set_option maxRecDepth 20000 in
theorem ldexp_of (v : Nat) (hl : wid v ≤ 4000) (w : World) : Calls Tryz.prog 52 #[.float .f64 (ofR (mN v)), .int .i64 ((wid v : Int) - 53)] w fun e w' => e = .returned (.float .f64 (ofR v)) ∧ w = w' := by
  by_cases h : v = 0
  · subst h
    rw [mN_zero]
    have : ofR 0 = 0 := if_pos rfl
    rw [this]
    exact ldexp0_c _ _
  · have hb := keptN_b h
    have hw : wid v = v.log2 + 1 := if_neg h
    rw [mN_kept h]
    obtain ⟨m, hm⟩ : ∃ m, m = keptN v := ⟨_, rfl⟩
    have ho : ofR v = min ((v.log2 + 1022) * 4503599627370496 + m) 9218868437227405312 := by unfold ofR; rw [if_neg h, hm]
    rw [← hm] at hb ⊢
    have key : ∃ E F, 1075 ≤ E ∧ E ≤ 1076 ∧ F < 4503599627370496 ∧ ofR m = E * 4503599627370496 + F ∧ E * 4503599627370496 + F = 1074 * 4503599627370496 + m := by
      by_cases hm53 : m < 9007199254740992
      · have hs := (ofR_small (v := m) (by omega) hm53).1
        have hlog : m.log2 = 52 := by
          have h1 := (Nat.le_log2 (n := m) (k := 52) (by omega)).2 (by simpa using hb.1)
          have h2 := (Nat.log2_lt (n := m) (k := 53) (by omega)).2 (by simpa using hm53)
          omega
        rw [hlog] at hs
        exact ⟨1075, m - 4503599627370496, by omega, by omega, by omega, by rw [hs]; omega, by omega⟩
      · have hme : m = 9007199254740992 := by omega
        exact ⟨1076, 0, by omega, by omega, by omega, by rw [hme]; decide, by omega⟩
    obtain ⟨E, F, h1, h2, h3, h4, h5⟩ := key
    have hld : ldW E F ((wid v : Int) - 53) = ofR v := by
      unfold ldW
      rw [ho, hw]
      by_cases hov : 2046 < ((v.log2 + 1 : Nat) : Int) - 53 + E
      · rw [if_pos hov]; omega
      · rw [if_neg hov, show (((v.log2 + 1 : Nat) : Int) - 53 + E).toNat = v.log2 + E - 52 by omega]
        clear ho h4 hm hw
        generalize v.log2 = L at *
        have h6 : (E - 1074) * 4503599627370496 + F = m := by
          rcases (show E = 1075 ∨ E = 1076 by omega) with rfl | rfl <;> omega
        have h7 : (L + E - 52) * 4503599627370496 + F = (L + 1022) * 4503599627370496 + m := by
          rw [show L + E - 52 = L + 1022 + (E - 1074) by omega, Nat.add_mul, Nat.add_assoc, h6]
        have h8 : L + 1022 ≤ 2046 := by omega
        have h9 : (L + 1022) * 4503599627370496 + m ≤ 9218868437227405312 := by
          rw [← h7]
          have h10 : L + E - 52 ≤ 2046 := by omega
          have h11 : (L + E - 52) * 4503599627370496 ≤ 2046 * 4503599627370496 := Nat.mul_le_mul_right _ h10
          have h12 : 2046 * 4503599627370496 + 4503599627370496 = 9218868437227405312 := by decide
          rw [← h12]
          exact Nat.add_le_add h11 (Nat.le_of_lt h3)
        rw [h7, Nat.min_eq_left h9]
    rw [h4, ← hld]
    exact mldexp_c E F (by omega) (by omega) h3 _ (by omega) (by omega) w
end Go.Proofs.YtcjkgnafpkkjmaaGreatDoor
namespace Go.Proofs.YtcjkgnafpkkjmaaGreatDoor
open Go.ChangeShapes Go.WideShapes Go.RowKit
variable {w w' : World} {a : Option Addr} {cap : Nat}
theorem and1_64 (y : Nat) (h : y < 18446744073709551616) : bits BinOp.and IntKind.u64 (y : Int) 1 = ((y % 2 : Nat) : Int) := by
  rw [show (1 : Int) = ((1 : Nat) : Int) from rfl, bits_and_u64_nat _ _ (by omega) (by decide), Nat.and_one_is_mod]
theorem or1_64 (y x : Int) (h0 : 0 ≤ y) (h1 : y < 9007199254740992) (h2 : 0 ≤ x) (h3 : x ≤ 1) : bits BinOp.or IntKind.u64 (y * 2) x = y * 2 + x :=
  bits_join .u64 64 (by decide) fw_u64 1 _ _ (by omega) (by omega) (by omega) h2 (by omega) (by omega)
theorem bitLe53 {v i : Nat} (h : i ≤ 53) : topN v i < 9007199254740992 := Nat.lt_of_lt_of_le (topN_lt v i) (by
  have := Nat.pow_le_pow_right (n := 2) (by decide) h
  exact Nat.le_trans this (by decide))
set_option maxHeartbeats 1000000 in
set_option maxRecDepth 20000 in
theorem flof_c (w : World) (s : Bool) (v : Nat) (h : In w a cap (lims v)) (hl : (lims v).length ≤ 100) :
    Calls Tryz.prog 21 #[.agg #[.bool s, .slice a (lims v).length cap]] w fun e w' => e = .returned (.float .f64 (if s then Op.negFloat .f64 (ofR v) else ofR v)) ∧ Fr [] w w' := by
  obtain ⟨W1, hW1⟩ : ∃ W1, W1 = w.alloc (.cells #[.bool s, .slice a (lims v).length cap] 36) := ⟨_, rfl⟩
  have P1 := Lib.hid (show blk W1 w.heap.size = some (.cells #[.bool s, .slice a (lims v).length cap] 36 (0, 0)) by rw [hW1, blk_alloc, if_pos rfl])
  have F1 : Hid (Fr [] w W1) := Lib.hid (by rw [hW1]; exact (Fr.refl _ _).alloc _)
  have CT := Lib.hid (show Calls Tryz.prog 56 #[.slice a (lims v).length cap] W1 (Gives W1 (lims v)) by have := ltrim_c W1 (h.keep F1.out); rwa [val_lims] at this)
  obtain ⟨pb, hpb⟩ : ∃ pb, pb = w.heap.size := ⟨_, rfl⟩
  rw [← hpb] at P1
  have p1 := cell_of P1.out (i := 1) rfl
  have HL := Lib.hid hl
  clear h hl
  go_enter Tryz.func21, Tryz.ntmps21
  go_upto_region 1 with fail
  rw [← hW1, ← hpb]
  clear hW1 hpb
  go_wp2_with fail
  refine CT.out.mono ?_
  rintro e w2 ⟨a2, c2, rfl, hN, F2⟩
  have H2 := Lib.hid hN.in
  have P2 := Lib.hid (F2.at P1.out (by simp))
  have F2 := Lib.hid (F1.out.same F2)
  clear hN p1 CT P1 F1
  go_wp2_with fail
  refine (flwidth_c w2 v H2.out).mono ?_
  rintro e w3 ⟨rfl, F3⟩
  have H3 := Lib.hid (H2.out.keep F3)
  have P3 := Lib.hid (F3.at P2.out (by simp))
  have F3 := Lib.hid (F2.out.same F3)
  have CB := Lib.hid (fun n (hn : n ≤ 9223372036854775807) => flbit_c w3 v H3.out n hn)
  have CS := Lib.hid (fun n (hn : n ≤ 1000000) => flsome_c w3 v n H3.out hn)
  have HW : Hid (wid v ≤ 3200) := Lib.hid (by
    by_cases h0 : v = 0
    · rw [h0]; decide
    · have := wid_lims h0
      have hl := HL.out
      have hb := Lib.bitLen_le ((lims v)[(lims v).length - 1]?.getD 0) 32 (by decide) (by have := lim_get (lim_lims v) ((lims v).length - 1); omega)
      omega)
  clear H2 P2 F2
  obtain ⟨k, hk⟩ : ∃ k, k = (lims v).length := ⟨_, rfl⟩
  rw [← hk] at CB CS ⊢
  obtain ⟨W, hW⟩ : ∃ W, W = wid v := ⟨_, rfl⟩
  have HWE := Lib.hid hW
  have hWb : W ≤ 3200 := by rw [hW]; exact HW.out
  rw [← hW]
  clear hk hW HL
  go_wp2_with fail
  go_loopw [5, 14] (fun m u wr => ∃ i : Nat, i ≤ 53 ∧ u = .int .i64 (i : Int) ∧ m = .int .u64 ((topN v i : Nat) : Int) ∧ w3 = wr) (fun _ u _ => 53 - (intOf u).toNat)
  case atStart => exact ⟨0, by omega, by go_num, by rw [topN_zero]; rfl, rfl⟩
  case round =>
    obtain ⟨i, hi, rfl, rfl, rfl⟩ := hrel
    by_cases hlt : i < 53
    · have hm := bitLe53 (v := v) (i := i) (by omega)
      have hst := topN_step v i
      rw [← HWE.out] at hst
      have hb1 := bitZ_le v ((W : Int) - 1 - i)
      have CI := Lib.hid (CB.out ((W : Int) - 1 - i) (by omega))
      obtain ⟨x, hx⟩ : ∃ x, x = bitZ v ((W : Int) - 1 - i) := ⟨_, rfl⟩
      rw [← hx] at hst hb1 CI
      obtain ⟨m, hmm⟩ : ∃ m, m = topN v i := ⟨_, rfl⟩
      rw [← hmm] at hst hm ⊢
      have hor := or1_64 (m : Int) (x : Int) (by omega) (by omega) (by omega) (by omega)
      have HST : Hid (((topN v (i + 1) : Nat) : Int) = (m : Int) * 2 + (x : Int)) := Lib.hid (by rw [hst]; push_cast; rfl)
      clear hst hx hmm
      go_wp2_with fail
      refine CI.out.mono ?_
      rintro e w' ⟨rfl, rfl⟩
      go_wp2
      go_roundw
      case rel => exact ⟨i + 1, by omega, by go_num, by rw [HST.out], trivial⟩
      case measure => simp [intOf]; omega
    · have hi53 : i = 53 := by omega
      subst hi53
      have hm := bitLe53 (v := v) (i := 53) (by omega)
      clear hlt hi
      have CL := Lib.hid (CB.out ((W : Int) - 53 - 1) (by omega))
      have CO := Lib.hid (fun w1 => ldexp_of v (by have := HW.out; omega) w1)
      rw [← HWE.out] at CO
      have HU : Hid (upN v ↔ bitZ v ((W : Int) - 53 - 1) = 1 ∧ (topN v 53 % 2 = 1 ∨ v % 2 ^ (W - 53 - 1) ≠ 0)) := Lib.hid (by unfold upN; rw [← HWE.out])
      have HMN : Hid (mN v = topN v 53 + if upN v then 1 else 0) := Lib.hid rfl
      have hb1 := bitZ_le v ((W : Int) - 53 - 1)
      have HBN : Hid (bitZ v ((W : Int) - 53 - 1) = 1 → 54 ≤ W) := Lib.hid (fun hb => by
        unfold bitZ at hb
        split at hb
        · omega
        · omega)
      obtain ⟨x, hx⟩ : ∃ x, x = bitZ v ((W : Int) - 53 - 1) := ⟨_, rfl⟩
      rw [← hx] at CL HU hb1 HBN
      obtain ⟨m, hmm⟩ : ∃ m, m = topN v 53 := ⟨_, rfl⟩
      rw [← hmm] at hm HU HMN ⊢
      have hand := and1_64 m (by omega)
      clear hx hmm
      have p0 := cell_of P3.out (i := 0) rfl
      go_upto_region 10 with fail
      go_cut [44] (fun q wx => q = .bool (decide (upN v)) ∧ wx = w3)
      case first =>
        by_cases h1 : x = 1
        · subst h1
          by_cases h2 : m % 2 = 1
          · have HD : Hid (decide (upN v) = true) := Lib.hid (decide_eq_true (HU.out.2 ⟨rfl, .inl h2⟩))
            rw [h2] at hand
            clear h2
            go_wp2_with fail
            refine CL.out.mono ?_
            rintro e w' ⟨rfl, rfl⟩
            go_wp2_with fail
            go_meet
            exact ⟨by rw [HD.out], rfl⟩
          · have hm0 : m % 2 = 0 := by omega
            have hW54 := HBN.out rfl
            have CSN := Lib.hid (CS.out (W - 53 - 1) (by omega))
            rw [show ((W - 53 - 1 : Nat) : Int) = (W : Int) - 53 - 1 by omega] at CSN
            obtain ⟨z, hz⟩ : ∃ z, z = decide (v % 2 ^ (W - 53 - 1) ≠ 0) := ⟨_, rfl⟩
            have HD : Hid (decide (upN v) = z) := Lib.hid (by
              rw [hz, decide_eq_decide]
              exact HU.out.trans ⟨fun hc => by rcases hc.2 with h | h; exact absurd h h2; exact h, fun hc => ⟨rfl, .inr hc⟩⟩)
            rw [← hz] at CSN
            rw [hm0] at hand
            clear hz h2 hm0
            go_wp2_with fail
            refine CL.out.mono ?_
            rintro e w' ⟨rfl, rfl⟩
            go_wp2_with fail
            refine CSN.out.mono ?_
            rintro e w' ⟨rfl, rfl⟩
            go_wp2_with fail
            go_meet
            exact ⟨by rw [HD.out], rfl⟩
        · have hx0 : x = 0 := by omega
          subst hx0
          have HD : Hid (decide (upN v) = false) := Lib.hid (decide_eq_false (fun hc => by have := (HU.out.1 hc).1; omega))
          clear h1
          go_wp2_with fail
          refine CL.out.mono ?_
          rintro e w' ⟨rfl, rfl⟩
          go_wp2_with fail
          go_meet
          exact ⟨by rw [HD.out], rfl⟩
      case rest =>
        obtain ⟨rfl, rfl⟩ := hcut
        obtain ⟨q, hq⟩ : ∃ q, q = mN v := ⟨_, rfl⟩
        have hof := ofInt_nat q
        have HQ : Hid (q = m + if upN v then 1 else 0) := Lib.hid (by rw [hq]; exact HMN.out)
        rw [← hq] at CO
        clear hq CL CS CB HU HBN hand
        by_cases hu : upN v
        · have hqm : (m : Int) + 1 = (q : Int) := by have := HQ.out; rw [if_pos hu] at this; omega
          clear HQ HMN
          cases s with
          | true =>
            have hng := neg_run (ofR v)
            go_wp2_with fail
            refine (CO.out _).mono ?_
            rintro e w' ⟨rfl, rfl⟩
            go_wp2
            go_ret
            exact ⟨rfl, F3.out⟩
          | false =>
            go_wp2_with fail
            refine (CO.out _).mono ?_
            rintro e w' ⟨rfl, rfl⟩
            go_wp2
            go_ret
            exact ⟨rfl, F3.out⟩
        · have hqm : q = m := by have := HQ.out; rw [if_neg hu] at this; omega
          clear HQ HMN
          subst hqm
          cases s with
          | true =>
            have hng := neg_run (ofR v)
            go_wp2_with fail
            refine (CO.out _).mono ?_
            rintro e w' ⟨rfl, rfl⟩
            go_wp2
            go_ret
            exact ⟨rfl, F3.out⟩
          | false =>
            go_wp2_with fail
            refine (CO.out _).mono ?_
            rintro e w' ⟨rfl, rfl⟩
            go_wp2
            go_ret
            exact ⟨rfl, F3.out⟩
end Go.Proofs.YtcjkgnafpkkjmaaGreatDoor
namespace Go.Proofs.YtcjkgnafpkkjmaaGreatDoor
def sgI (a b : Int) : Int := if a < b then -1 else if a = b then 0 else 1
theorem sgI_scale (a b : Int) {U : Int} (hU : 0 < U) : sgI (a * U) (b * U) = sgI a b := by
  unfold sgI
  by_cases h : a < b
  · rw [if_pos h, if_pos (Int.mul_lt_mul_of_pos_right h hU)]
  · rw [if_neg h, if_neg (fun hc => h (Int.lt_of_mul_lt_mul_right hc (Int.le_of_lt hU)))]
    by_cases h2 : a = b
    · rw [if_pos h2, if_pos (by rw [h2])]
    · rw [if_neg h2, if_neg (fun hc => h2 (Int.eq_of_mul_eq_mul_right (by omega) hc))]
theorem sgI_neg (a b : Int) : sgI b a = -sgI a b := by
  unfold sgI
  split <;> split <;> (try split) <;> (try split) <;> omega
theorem cmp_floor (X n : Int) {U : Int} (hU : 0 < U) : (if sgI X (n / U) = 0 ∧ n / U * U < n then -1 else sgI X (n / U)) = sgI (X * U) n := by
  have h1 : n / U * U ≤ n := Int.ediv_mul_le n (by omega)
  have h2 := Int.lt_ediv_add_one_mul_self n hU
  rw [Int.add_mul, Int.one_mul] at h2
  generalize n / U = F at *
  unfold sgI
  by_cases hlt : X < F
  · have : X * U + U ≤ F * U := by
      have := Int.mul_le_mul_of_nonneg_right (show X + 1 ≤ F by omega) (Int.le_of_lt hU)
      rw [Int.add_mul, Int.one_mul] at this
      exact this
    rw [if_pos hlt, if_neg (show ¬ ((-1 : Int) = 0 ∧ F * U < n) by omega), if_pos (show X * U < n by omega)]
  · rw [if_neg hlt]
    by_cases he : X = F
    · subst he
      rw [if_pos rfl]
      by_cases hn : X * U < n
      · rw [if_pos ⟨rfl, hn⟩, if_pos hn]
      · rw [if_neg (fun hc => hn hc.2), if_neg hn, if_pos (by omega)]
    · have : F * U + U ≤ X * U := by
        have := Int.mul_le_mul_of_nonneg_right (show F + 1 ≤ X by omega) (Int.le_of_lt hU)
        rw [Int.add_mul, Int.one_mul] at this
        exact this
      rw [if_neg he, if_neg (show ¬ ((1 : Int) = 0 ∧ F * U < n) by omega), if_neg (show ¬ X * U < n by omega), if_neg (show ¬ X * U = n by omega)]
def sInt (s : Bool) (n : Nat) : Int := if s then -(n : Int) else n
theorem cmpP_sgI {s s2 : Bool} {n m : Nat} (h : s = true → n ≠ 0) (h2 : s2 = true → m ≠ 0) : cmpP s n s2 m = sgI (sInt s n) (sInt s2 m) := by
  unfold cmpP sgI sInt
  cases s <;> cases s2 <;> simp only [if_true, Bool.false_eq_true, if_false, cmpN]
  · split <;> (try split) <;> (try split) <;> (try split) <;> omega
  · have := h2 rfl
    rw [if_neg (by omega), if_neg (by omega)]
  · have := h rfl
    rw [if_pos (by omega)]
  · split <;> (try split) <;> (try split) <;> (try split) <;> omega
end Go.Proofs.YtcjkgnafpkkjmaaGreatDoor
namespace Go.Proofs.YtcjkgnafpkkjmaaGreatDoor
open Ieee
def exN (b : Nat) : Nat := fmg b / U1
def WholeF (b : Nat) : Prop := Fin64 b ∧ fmg b % U1 = 0
def exq (m : Nat) (P : Int) : Nat := if P < 0 then m / 2 ^ (-P).toNat else m * 2 ^ P.toNat
theorem sInt_sg (s : Bool) (n : Nat) : sInt (sg s n) n = sInt s n := by
  by_cases h : n = 0
  · subst h; rw [sg_zero]; cases s <;> rfl
  · rw [sg_pos s h]
theorem whole_mul {b : Nat} (h : WholeF b) : fmg b = exN b * U1 := by
  have := Nat.div_add_mod (fmg b) U1
  rw [h.2, Nat.add_zero, Nat.mul_comm] at this
  exact this.symm
theorem whole_num {b : Nat} (h : WholeF b) : num b = sInt (fsg b) (exN b) * U1 := by
  rw [num_fmg, whole_mul h]
  unfold sInt
  generalize exN b = n
  generalize U1 = U
  cases fsg b with
  | true => simp only [if_true]; push_cast; rw [Int.neg_mul]
  | false => simp only [Bool.false_eq_true, if_false]; push_cast; rfl
theorem trunc_whole {b : Nat} (h : WholeF b) : num (truncW b) = num b := by
  rw [(trunc_num h.1).2, num_fmg]
  have : fmg b / U1 * U1 = fmg b := (whole_mul h).symm
  rw [this]
  cases fsg b with
  | true => simp only [if_true]; omega
  | false => simp only [Bool.false_eq_true, if_false]; omega
theorem eq_trunc {b : Nat} (h : WholeF b) : (FloatKind.f64.format.order b (truncW b) != some .eq) = false := by
  change (double.order b (truncW b) != some .eq) = false
  rw [order_fin h.1 (trunc_num h.1).1, trunc_whole h, fcmpI, if_neg (by omega), if_pos rfl]
  rfl
theorem fin_zero : Fin64 0 := by unfold Fin64; decide
theorem num_zero : num 0 = 0 := by decide
theorem lt_zeroF {b : Nat} (h : WholeF b) : (FloatKind.f64.format.order b 0 == some .lt) = sg (fsg b) (exN b) := by
  change (double.order b 0 == some .lt) = _
  rw [order_fin h.1 fin_zero, num_zero, whole_num h, fcmpI]
  have hU := U1_pos
  generalize exN b = n
  generalize U1 = U at *
  unfold sInt
  by_cases hn : n = 0
  · subst hn
    have e : (if fsg b = true then -((0 : Nat) : Int) else ((0 : Nat) : Int)) * (U : Int) = 0 := by cases fsg b <;> simp
    rw [sg_zero, e, if_neg (by omega), if_pos rfl]
    rfl
  · rw [sg_pos _ hn]
    have hp : 0 < (n : Int) * (U : Int) := Int.mul_pos (by omega) (by omega)
    cases fsg b with
    | true =>
      simp only [if_true]
      rw [Int.neg_mul, if_pos (by omega)]; rfl
    | false =>
      simp only [Bool.false_eq_true, if_false]
      rw [if_neg (by omega), if_neg (by omega)]; rfl
theorem U1_big : 4503599627370496 < U1 := by
  have h : (2 : Nat) ^ 53 ≤ 2 ^ B1 := Nat.pow_le_pow_right (by decide) (by rw [B1_eq]; decide)
  have h2 : (2 : Nat) ^ 53 = 9007199254740992 := by decide
  unfold U1
  omega
theorem whole_parts {b : Nat} (h : WholeF b) : (b % 9223372036854775808 = 0 ∧ exN b = 0) ∨ ∃ E F, 1 ≤ E ∧ E ≤ 2046 ∧ F < 4503599627370496 ∧ b % 9223372036854775808 = E * 4503599627370496 + F ∧ exN b = exq (4503599627370496 + F) ((E : Int) - 1075) := by
  have h1 := h.1
  have h2 := h.2
  unfold Fin64 at h1
  unfold exN
  unfold fmg at *
  generalize b % 9223372036854775808 = r at *
  by_cases h0 : r = 0
  · subst h0
    left
    exact ⟨rfl, by show magn 0 / U1 = 0; rw [show magn 0 = 0 from by decide]; exact Nat.zero_div _⟩
  · by_cases hd : r < 4503599627370496
    · have : magn r = r := if_pos hd
      rw [this, Nat.mod_eq_of_lt (Nat.lt_trans hd U1_big)] at h2
      exact absurd h2 h0
    · right
      have hm : magn r = (4503599627370496 + r % 4503599627370496) * 2 ^ (r / 4503599627370496 - 1) := if_neg hd
      refine ⟨r / 4503599627370496, r % 4503599627370496, by omega, by omega, by omega, by omega, ?_⟩
      rw [hm]
      have hE : 1 ≤ r / 4503599627370496 := by omega
      clear h2 hm h1 h0 hd
      generalize 4503599627370496 + r % 4503599627370496 = X
      generalize r / 4503599627370496 = E at *
      unfold exq U1
      by_cases hP : (E : Int) - 1075 < 0
      · rw [if_pos hP, show (-((E : Int) - 1075)).toNat = B1 - (E - 1) by rw [B1_eq]; omega]
        have hle : E - 1 ≤ B1 := by rw [B1_eq]; omega
        generalize B1 = B at *
        have : (2 : Nat) ^ B = 2 ^ (B - (E - 1)) * 2 ^ (E - 1) := by rw [← Nat.pow_add]; congr 1; omega
        rw [this]
        exact Nat.mul_div_mul_right _ _ (Nat.two_pow_pos _)
      · rw [if_neg hP, show ((E : Int) - 1075).toNat = E - 1 - B1 by rw [B1_eq]; omega]
        have hle : B1 ≤ E - 1 := by rw [B1_eq]; omega
        generalize B1 = B at *
        have : (2 : Nat) ^ (E - 1) = 2 ^ (E - 1 - B) * 2 ^ B := by rw [← Nat.pow_add]; congr 1; omega
        rw [this, ← Nat.mul_assoc]
        exact Nat.mul_div_cancel _ (Nat.two_pow_pos _)
theorem floor_whole {b : Nat} (h : Fin64 b) : WholeF (floorW b) ∧ sInt (fsg (floorW b)) (exN (floorW b)) = num b / U1 := by
  obtain ⟨h1, h2⟩ := floor_num h
  have hU := U1_pos
  rw [num_fmg] at h2
  have hf : fmg (floorW b) = (num b / U1).natAbs * U1 := by
    have h3 : (fmg (floorW b) : Int).natAbs = (num b / U1 * U1).natAbs := by
      rw [← h2]; cases fsg (floorW b) <;> simp
    rw [Int.natAbs_mul, Int.natAbs_natCast, Int.natAbs_natCast] at h3
    exact h3
  have hw : WholeF (floorW b) := ⟨h1, by rw [hf]; exact Nat.mul_mod_left _ _⟩
  refine ⟨hw, ?_⟩
  have h4 := whole_num hw
  rw [(floor_num h).2] at h4
  have hUi : (U1 : Int) ≠ 0 := by omega
  exact (Int.eq_of_mul_eq_mul_right hUi h4).symm
theorem word_lt (s : Bool) {r : Nat} (hr : r < 9218868437227405312) : double.word s r < 18446744073709551616 := by
  unfold Format.word
  rw [signW]
  cases s <;> simp <;> omega
theorem floorW_lt {b : Nat} (h : Fin64 b) : floorW b < 18446744073709551616 := by
  obtain ⟨r, hr, _, he⟩ := whole_bits .down h
  unfold floorW
  rw [he]
  exact word_lt _ hr
theorem gt_floor {b : Nat} (h : Fin64 b) : (FloatKind.f64.format.order b (floorW b) == some .gt) = decide (num b / U1 * U1 < num b) := by
  change (double.order b (floorW b) == some .gt) = _
  rw [order_fin h (floor_num h).1, (floor_num h).2, fcmpI]
  have hle : num b / U1 * U1 ≤ num b := Int.ediv_mul_le _ (by have := U1_pos; omega)
  generalize num b / U1 * U1 = F at *
  generalize num b = X at *
  by_cases hlt : F < X
  · rw [if_neg (by omega), if_neg (by omega), decide_eq_true hlt]; rfl
  · rw [if_neg (by omega), if_pos (by omega), decide_eq_false hlt]; rfl
def unitX (s : Bool) (n : Nat) : Int := sInt s n * U1
theorem key_bound {s : Bool} {n : Nat} (h : n < B2) : -(BIG : Int) < unitX s n ∧ unitX s n < BIG := by
  have hU := U1_pos
  unfold unitX BIG sInt
  have h1 : n * U1 < B2 * U1 := Nat.mul_lt_mul_of_pos_right h hU
  have h2 : ((n * U1 : Nat) : Int) < ((B2 * U1 : Nat) : Int) := by omega
  have h3 : (0 : Int) ≤ ((n * U1 : Nat) : Int) := by omega
  generalize B2 * U1 = Z at *
  push_cast at h2 h3
  cases s with
  | true => simp only [if_true, Int.neg_mul]; omega
  | false => simp only [Bool.false_eq_true, if_false]; omega
theorem cmp_by_floor {s : Bool} {n : Nat} (hs : s = true → n ≠ 0) {b : Nat} (h : Fin64 b) : (if cmpP s n (sg (fsg (floorW b)) (exN (floorW b))) (exN (floorW b)) = 0 ∧ num b / U1 * U1 < num b then -1 else cmpP s n (sg (fsg (floorW b)) (exN (floorW b))) (exN (floorW b))) = sgI (unitX s n) (keyF b) := by
  have h2 : sg (fsg (floorW b)) (exN (floorW b)) = true → exN (floorW b) ≠ 0 := by
    intro hc hz; rw [hz, sg_zero] at hc; cases hc
  rw [cmpP_sgI hs h2, sInt_sg, (floor_whole h).2, keyF_fin h]
  exact cmp_floor _ _ (by have := U1_pos; omega)
end Go.Proofs.YtcjkgnafpkkjmaaGreatDoor
namespace Go.Proofs.YtcjkgnafpkkjmaaGreatDoor
open Go.ChangeShapes Go.WideShapes Go.RowKit
variable {w w' : World} {a : Option Addr} {cap : Nat}
theorem fits_B2 {n : Nat} : fits n = true ↔ n < B2 := by unfold fits; rw [B2_eq, decide_eq_true_iff]
theorem exN_fits {b : Nat} (h : Fin64 b) : exN b < B2 := by
  have h1 : fmg b < BIG := magn_lt h
  unfold exN BIG at *
  exact (Nat.div_lt_iff_lt_mul U1_pos).2 h1
theorem val_2L : val [2] = 2 := by decide
theorem div2_c (w : World) (n : Nat) (hn : n < B2) (h : In w a cap (lims n)) : Calls Tryz.prog 53 #[.slice a (lims n).length cap, .slice (some ⟨w.heap.size, 0, none⟩) 1 1] (w.alloc (.cells #[.int .u32 2] 84)) fun e w' => ∃ a1 c1 a2 l2 c2, e = .returned (.tuple #[.slice a1 (lims (n / 2)).length c1, .slice a2 l2 c2, .int .i64 0]) ∧ In w' a1 c1 (lims (n / 2)) ∧ Fr [] w w' := by
  have h1 := in_new w [2] (lim_of _ rfl) (by decide)
  refine (ldiv_c _ (h.keep ((Fr.refl [] _).alloc _)) h1).mono ?_
  intro e w' hd
  unfold DivR at hd
  rw [val_lims, val_2L] at hd
  have e1 : (fits n && fits 2) = true := by
    rw [fits_B2.2 hn, Bool.true_and, fits_B2, B2_eq]; exact Nat.lt_of_lt_of_le (show 2 < 4294967296 by decide) (Nat.le_self_pow (by decide) _)
  rw [e1, if_neg (by decide), if_neg (by decide)] at hd
  obtain ⟨a1, c1, a2, c2, rfl, hN, _, hF⟩ := hd
  exact ⟨a1, c1, a2, _, c2, rfl, hN.in, ((Fr.refl [] w).alloc _).same hF⟩
theorem dbl_c (w : World) (n : Nat) (hn : n + n < B2) (h : In w a cap (lims n)) : Calls Tryz.prog 54 #[.slice a (lims n).length cap, .slice a (lims n).length cap] w fun e w' => ∃ a1 c1, e = .returned (.tuple #[.slice a1 (lims (n + n)).length c1, .int .i64 0]) ∧ In w' a1 c1 (lims (n + n)) ∧ Fr [] w w' := by
  refine (ladd_c _ h h).mono ?_
  intro e w' hd
  rw [val_lims, fits_B2.2 hn] at hd
  obtain ⟨a1, c1, rfl, hN, hF⟩ := hd
  exact ⟨a1, c1, rfl, hN.in, hF⟩
def ExR (w : World) (s : Bool) (n : Nat) (e : Ending) (w' : World) : Prop := ∃ a cap, e = .returned (.tuple #[.agg #[.bool s, .slice a (lims n).length cap], .int .i64 0]) ∧ In w' a cap (lims n) ∧ Fr [] w w'
theorem frexp_whole {b : Nat} (h : WholeF b) : ∃ (z m : Nat) (P : Int), (∀ w, Calls Tryz.prog 50 #[.float .f64 (b % 9223372036854775808)] w fun e w' => e = .returned (.tuple #[.float .f64 z, .int .i64 (P + 53)]) ∧ w = w') ∧ (∀ w, Calls Tryz.prog 52 #[.float .f64 z, .int .i64 53] w fun e w' => e = .returned (.float .f64 (ofR m)) ∧ w = w') ∧ m < 9007199254740992 ∧ -1074 ≤ P ∧ P ≤ 971 ∧ exN b = exq m P := by
  rcases whole_parts h with ⟨h1, h2⟩ | ⟨E, F, h1, h2, h3, h4, h5⟩
  · refine ⟨0, 0, -53, fun w => ?_, fun w => ?_, by decide, by decide, by decide, ?_⟩
    · rw [h1]; exact frexp0_c w
    · have : ofR 0 = 0 := if_pos rfl
      rw [this]; exact ldexp0_c 53 w
    · rw [h2]; unfold exq; rw [if_pos (by decide), Nat.zero_div]
  · refine ⟨1022 * 4503599627370496 + F, 4503599627370496 + F, (E : Int) - 1075, fun w => ?_, fun w => ?_, by omega, by omega, by omega, h5⟩
    · rw [h4, show (E : Int) - 1075 + 53 = (E : Int) - 1022 by omega]; exact frexp_c E F h1 h2 h3 w
    · have hl : (4503599627370496 + F).log2 = 52 := by
        have e1 := (Nat.le_log2 (n := 4503599627370496 + F) (k := 52) (by omega)).2 (by omega)
        have e2 := (Nat.log2_lt (n := 4503599627370496 + F) (k := 53) (by omega)).2 (by omega)
        omega
      have ho := (ofR_small (v := 4503599627370496 + F) (by omega) (by omega)).1
      rw [hl] at ho
      have hw : ldW 1022 F 53 = ofR (4503599627370496 + F) := by
        rw [ho]; unfold ldW; rw [if_neg (by decide)]; omega
      rw [← hw]
      exact mldexp_c 1022 F (by decide) (by decide) h3 53 (by decide) (by decide) w
theorem conv_ofR (m : Nat) (h : m < 9007199254740992) (w : World) : (convert 24 22 (.float .f64 (ofR m))).run Tryz.prog w = .ok (.int .u64 (m : Int)) w :=
  run_convert_float_int w _ _ _ _ _ _ (show (Tryz.prog.underlying 24).isSome = true by rw [Tryz.underlying24]; exact Option.isSome_some) Tryz.underlying22 (toInt_ofR h)
set_option maxHeartbeats 1000000 in
set_option maxRecDepth 20000 in
theorem flexact_c (w : World) (b : Nat) (hb : b < 18446744073709551616) (h : WholeF b) : Calls Tryz.prog 19 #[.float .f64 b] w (ExR w (sg (fsg b) (exN b)) (exN b)) := by
  have hnan : isNan b = false := by unfold isNan; have := h.1; unfold Fin64 at this; exact decide_eq_false (by omega)
  have hinf : isInf b = false := by unfold isInf; have := h.1; unfold Fin64 at this; exact decide_eq_false (by omega)
  have heq := eq_trunc h
  have hlt := lt_zeroF h
  obtain ⟨z, m, P, CF, CL, hm, hP1, hP2, hx⟩ := frexp_whole h
  have HF := exN_fits h.1
  have CT := Lib.hid (fun w1 => trunc_c b hnan w1)
  have CI := Lib.hid (fun w1 => by have := isinf0_c b hb w1; rw [hinf] at this; exact this)
  have CA := Lib.hid (fun w1 => abs_c b hb w1)
  have CF := Lib.hid CF
  have CL := Lib.hid CL
  have hcv := conv_ofR m hm
  have CO := Lib.hid (fun w1 => lof_c w1 m (by omega))
  obtain ⟨W1, hW1⟩ : ∃ W1, W1 = w.alloc (.cells #[.bool false, .slice none 0 0] 36) := ⟨_, rfl⟩
  obtain ⟨k, hk⟩ : ∃ k, k = w.heap.size := ⟨_, rfl⟩
  have P1 : Hid (Bx W1 k (.bool false) (.slice none 0 0)) := Lib.hid (by rw [hW1, hk]; exact Bx.new w _ _)
  have F1 : Hid (Fr [] w W1) := Lib.hid (by rw [hW1]; exact (Fr.refl _ _).alloc _)
  have HK := Lib.hid hk
  obtain ⟨sx, hsx⟩ : ∃ sx, sx = sg (fsg b) (exN b) := ⟨_, rfl⟩
  obtain ⟨N, hN⟩ : ∃ N, N = exN b := ⟨_, rfl⟩
  rw [← hN] at hsx HF hx hlt
  rw [← hsx] at hlt
  rw [← hN, ← hsx]
  have HX := Lib.hid hx
  have HF := Lib.hid HF
  obtain ⟨tb, htb⟩ : ∃ tb, tb = truncW b := ⟨_, rfl⟩
  obtain ⟨ab, hab⟩ : ∃ ab, ab = b % 9223372036854775808 := ⟨_, rfl⟩
  obtain ⟨om, hom⟩ : ∃ om, om = ofR m := ⟨_, rfl⟩
  rw [← htb] at CT heq
  rw [← hab] at CA CF
  rw [← hom] at CL hcv
  clear h hnan hinf hN hsx htb hab hom hx hb
  go_enter Tryz.func19, Tryz.ntmps19
  go_upto_region 1 with fail
  rw [← hW1, ← hk]
  clear hW1 hk
  go_wp2_with fail
  refine (CT.out _).mono ?_
  rintro e w' ⟨rfl, rfl⟩
  go_wp2_with fail
  refine (CI.out _).mono ?_
  rintro e w' ⟨rfl, rfl⟩
  go_wp2_with fail
  refine (CA.out _).mono ?_
  rintro e w' ⟨rfl, rfl⟩
  go_wp2_with fail
  refine (CF.out _).mono ?_
  rintro e w' ⟨rfl, rfl⟩
  go_wp2_with fail
  refine (CL.out _).mono ?_
  rintro e w' ⟨rfl, rfl⟩
  go_wp2_with fail
  refine (CO.out _).mono ?_
  rintro e w2 ⟨a2, c2, rfl, hN, F2⟩
  have I2 := Lib.hid hN.in
  have P2 := Lib.hid (P1.out.fr F2)
  have F2 := Lib.hid (F1.out.same F2)
  clear hN P1 F1 CT CI CA CF CL CO heq hcv
  have hlf := HF.out
  go_wp2_with fail
  go_loopw [6, 7] (fun l u wr => ∃ (i : Nat) (a1 : Option Addr) (c1 : Nat), (P < 0 → P + i ≤ 0) ∧ (0 ≤ P → i = 0) ∧ l = .slice a1 (lims (m / 2 ^ i)).length c1 ∧ u = .int .i64 (P + i) ∧ Hid (In wr a1 c1 (lims (m / 2 ^ i))) ∧ Hid (Fr [] w2 wr)) (fun _ u _ => (-(intOf u)).toNat)
  case atStart => exact ⟨0, a2, c2, by omega, by omega, by rw [Nat.pow_zero, Nat.div_one], by go_num, by rw [Nat.pow_zero, Nat.div_one]; exact I2, Lib.hid (Fr.refl _ _)⟩
  case round =>
    obtain ⟨i, a1, c1, hi1, hi2, rfl, rfl, hI, hF⟩ := hrel
    by_cases hlt0 : P + i < 0
    · have CD := Lib.hid (div2_c wr (m / 2 ^ i) (Nat.lt_of_le_of_lt (Nat.div_le_self _ _) (Nat.lt_of_lt_of_le (Nat.lt_trans hm (show 9007199254740992 < 4294967296 ^ 2 by decide)) (by rw [B2_eq]; exact Nat.pow_le_pow_right (by decide) (by decide)))) hI.out)
      have hst : m / 2 ^ i / 2 = m / 2 ^ (i + 1) := by rw [Nat.div_div_eq_div_mul, Nat.pow_succ]
      rw [hst] at CD
      have HI3 : Hid (P < 0 → P + ((i + 1 : Nat) : Int) ≤ 0) := Lib.hid (by omega)
      have HI4 : Hid (0 ≤ P → i + 1 = 0) := Lib.hid (by omega)
      generalize lims (m / 2 ^ i) = L at *
      clear hst hi1 hi2 hI
      go_wp2_with fail
      refine CD.out.mono ?_
      rintro e w5 ⟨a5, c5, a6, l6, c6, rfl, I5, F5⟩
      have I5 := Lib.hid I5
      have F5 := Lib.hid (hF.out.same F5)
      clear CD hF
      go_wp2_with fail
      go_roundw
      case rel => exact ⟨i + 1, a5, c5, HI3.out, HI4.out, rfl, by go_num, I5, F5⟩
      case measure => simp [intOf]; omega
    · obtain ⟨Q, hQ⟩ : ∃ Q : Nat, P + i = (Q : Int) := ⟨(P + i).toNat, by omega⟩
      obtain ⟨n0, hn0⟩ : ∃ n0, n0 = m / 2 ^ i := ⟨_, rfl⟩
      have HXQ : Hid (N = n0 * 2 ^ Q) := Lib.hid (by
        rw [HX.out]
        unfold exq
        by_cases hP : P < 0
        · have h0 := hi1 hP
          rw [if_pos hP, show (-P).toNat = i by omega, show Q = 0 by omega, Nat.pow_zero, Nat.mul_one, hn0]
        · have h0 := hi2 (by omega)
          rw [if_neg hP, show P.toNat = Q by omega, hn0, h0, Nat.pow_zero, Nat.div_one])
      rw [← hn0] at hI
      have hQb : Q ≤ 971 := by
        by_cases hP : P < 0
        · have := hi1 hP; omega
        · have := hi2 (by omega); omega
      rw [hQ]
      clear hi1 hi2 hlt0
      rw [← hn0]
      clear hn0
      go_wp2_with fail
      have HFF := Lib.hid (F2.out.same hF.out)
      have PW := Lib.hid (P2.out.fr hF.out)
      clear F2 P2 HX hm
      go_loopw [6, 7] (fun l u w9 => ∃ (j : Nat) (a1 : Option Addr) (c1 : Nat), j ≤ Q ∧ l = .slice a1 (lims (n0 * 2 ^ j)).length c1 ∧ u = .int .i64 ((Q : Int) - j) ∧ Hid (In w9 a1 c1 (lims (n0 * 2 ^ j))) ∧ Hid (Fr [] wr w9)) (fun _ u _ => (intOf u).toNat)
      case atStart => exact ⟨0, a1, c1, by omega, by rw [Nat.pow_zero, Nat.mul_one], by go_num, by rw [Nat.pow_zero, Nat.mul_one]; exact hI, Lib.hid (Fr.refl _ _)⟩
      case round =>
        obtain ⟨j, a8, c8, hj, rfl, rfl, hI8, hF8⟩ := hrel
        by_cases hjq : j < Q
        · have hst : n0 * 2 ^ j + n0 * 2 ^ j = n0 * 2 ^ (j + 1) := by rw [Nat.pow_succ, ← Nat.mul_assoc]; omega
          have hle : n0 * 2 ^ (j + 1) ≤ N := by rw [HXQ.out]; exact Nat.mul_le_mul_left _ (Nat.pow_le_pow_right (by decide) hjq)
          have CD := Lib.hid (dbl_c wr (n0 * 2 ^ j) (by rw [hst]; exact Nat.lt_of_le_of_lt hle HF.out) hI8.out)
          rw [hst] at CD
          generalize lims (n0 * 2 ^ j) = L at *
          clear hst hle hI8
          go_wp2_with fail
          refine CD.out.mono ?_
          rintro e w5 ⟨a5, c5, rfl, I5, F5⟩
          have I5 := Lib.hid I5
          have F5 := Lib.hid (hF8.out.same F5)
          clear CD hF8
          go_wp2_with fail
          go_roundw
          case rel => exact ⟨j + 1, a5, c5, by omega, rfl, by go_num, I5, F5⟩
          case measure => simp [intOf]; omega
        · have hjQ : j = Q := by omega
          subst hjQ
          have HNN := Lib.hid HXQ.out.symm
          rw [HNN.out] at hI8 ⊢
          have PX := Lib.hid (PW.out.fr hF8.out)
          have q0 := PX.out.f 0
          have q1 := PX.out.f 1
          have ql := PX.out.lt
          have q2 := PX.out.c0
          have q3 := PX.out.c1
          have FX := Lib.hid (HFF.out.same hF8.out)
          have HKL : Hid (w.heap.size ≤ k) := Lib.hid (by rw [HK.out]; exact Nat.le_refl _)
          clear hF8 HFF PW hjq HXQ hI
          go_wp2_with fail
          refine bodyPost_ret (ret_iv2 rfl _ _ _ _ _ rfl (PX.out.set _ _)) rfl ?_
          exact ⟨a8, c8, rfl, hI8.out.set2 PX.out _ _, FX.out.set2 HKL.out _ _⟩
end Go.Proofs.YtcjkgnafpkkjmaaGreatDoor
namespace Go.Proofs.YtcjkgnafpkkjmaaGreatDoor
open Ieee
end Go.Proofs.YtcjkgnafpkkjmaaGreatDoor
namespace Go.Proofs.YtcjkgnafpkkjmaaGreatDoor
open Go.ChangeShapes Go.WideShapes Go.RowKit
variable {w w' : World} {a : Option Addr} {cap : Nat}
def fcP (s : Bool) (n b : Nat) : Int := if isNan b then 0 else sgI (unitX s n) (keyF b)
theorem fc_pinf {s : Bool} {n b : Nat} (hn : n < B2) (h : isInf b = true) (h2 : fsg b = false) : fcP s n b = -1 := by
  unfold isInf at h
  have h3 := of_decide_eq_true h
  have hb := key_bound (s := s) hn
  unfold fcP
  rw [if_neg (by unfold isNan; simp; omega), key_inf h3, h2]
  simp only [Bool.false_eq_true, if_false]
  unfold sgI
  rw [if_pos hb.2]
theorem fc_ninf {s : Bool} {n b : Nat} (hn : n < B2) (h : isInf b = true) (h2 : fsg b = true) : fcP s n b = 1 := by
  unfold isInf at h
  have h3 := of_decide_eq_true h
  have hb := key_bound (s := s) hn
  unfold fcP
  rw [if_neg (by unfold isNan; simp; omega), key_inf h3, h2]
  unfold sgI
  rw [if_pos rfl, if_neg (by omega), if_neg (by omega)]
theorem nan_or {b : Nat} (h1 : isNan b = false) (h2 : isInf b = false) : Fin64 b := by
  unfold isNan at h1; unfold isInf at h2
  have h1 := of_decide_eq_false h1
  have h2 := of_decide_eq_false h2
  unfold Fin64
  omega
set_option maxHeartbeats 1000000 in
set_option maxRecDepth 20000 in
theorem flcmp_c (w : World) (s : Bool) (n b : Nat) (h : In w a cap (lims n)) (hn : n < B2) (hs : s = true → n ≠ 0) (hb : b < 18446744073709551616) :
    Calls Tryz.prog 78 #[.agg #[.bool s, .slice a (lims n).length cap], .float .f64 b] w fun e w' => e = .returned (.tuple #[.int .i64 (fcP s n b), .bool (!isNan b)]) ∧ Fr [] w w' := by
  have hb1 := neq_nan b
  obtain ⟨W1, hW1⟩ : ∃ W1, W1 = w.alloc (.cells #[.bool s, .slice a (lims n).length cap] 36) := ⟨_, rfl⟩
  obtain ⟨k, hk⟩ : ∃ k, k = w.heap.size := ⟨_, rfl⟩
  have P1 : Hid (Bx W1 k (.bool s) (.slice a (lims n).length cap)) := Lib.hid (by rw [hW1, hk]; exact Bx.new w _ _)
  have F1 : Hid (Fr [] w W1) := Lib.hid (by rw [hW1]; exact (Fr.refl _ _).alloc _)
  have C1 := Lib.hid (fun w1 => isinf1_c b w1)
  have C2 := Lib.hid (fun w1 => isinfm_c b hb w1)
  cases hnan : isNan b with
  | true =>
    have hf : Hid (fcP s n b = 0) := Lib.hid (by unfold fcP; rw [hnan]; rfl)
    rw [hnan] at hb1
    rw [hf.out]
    clear hnan hf h P1 C1 C2 hb hn hs
    generalize (lims n).length = L at *
    go_enter Tryz.func78, Tryz.ntmps78
    go_wp2
    go_ret2
    rw [← hW1]
    exact ⟨rfl, F1.out⟩
  | false =>
    rw [hnan] at hb1
    cases hinf : isInf b with
    | true =>
      rw [hinf] at C1 C2
      cases hsg : fsg b with
      | false =>
        have hf := Lib.hid (fc_pinf (s := s) hn hinf hsg)
        rw [hsg] at C1 C2
        rw [hf.out]
        clear hnan hf h P1 hb hn hs hinf hsg
        generalize (lims n).length = L at *
        go_enter Tryz.func78, Tryz.ntmps78
        go_wp2_with (go_at_call 49; refine (C1.out _).mono ?_; rintro e w' ⟨rfl, rfl⟩)
        go_ret2
        rw [← hW1]
        exact ⟨rfl, F1.out⟩
      | true =>
        have hf := Lib.hid (fc_ninf (s := s) hn hinf hsg)
        rw [hsg] at C1 C2
        rw [hf.out]
        clear hnan hf h P1 hb hn hs hinf hsg
        generalize (lims n).length = L at *
        go_enter Tryz.func78, Tryz.ntmps78
        go_wp2_with fail
        refine (C1.out _).mono ?_
        rintro e w' ⟨rfl, rfl⟩
        clear C1
        go_wp2_with fail
        refine (C2.out _).mono ?_
        rintro e w' ⟨rfl, rfl⟩
        go_wp2
        go_ret2
        rw [← hW1]
        exact ⟨rfl, F1.out⟩
    | false =>
      have hfin := nan_or hnan hinf
      rw [hinf] at C1 C2
      have CF := Lib.hid (fun w1 => floor_c b hnan w1)
      have HW := floor_whole hfin
      have CX := Lib.hid (fun w1 => flexact_c w1 (floorW b) (floorW_lt hfin) HW.1)
      have hgt := gt_floor hfin
      have HC : Hid (fcP s n b = if cmpP s n (sg (fsg (floorW b)) (exN (floorW b))) (exN (floorW b)) = 0 ∧ num b / U1 * U1 < num b then -1 else cmpP s n (sg (fsg (floorW b)) (exN (floorW b))) (exN (floorW b))) := Lib.hid (by
        rw [cmp_by_floor hs hfin]; unfold fcP; rw [hnan]; rfl)
      have CE := Lib.hid (fun (w1 : World) (a2 : Option Addr) (c2 : Nat) (h1 : In w1 a cap (lims n)) (h2 : In w1 a2 c2 (lims (exN (floorW b)))) => ecmp_c w1 s (sg (fsg (floorW b)) (exN (floorW b))) n (exN (floorW b)) h1 h2)
      obtain ⟨fl, hfl⟩ : ∃ fl, fl = floorW b := ⟨_, rfl⟩
      rw [← hfl] at CF CX hgt HC CE
      obtain ⟨sm, hsm⟩ : ∃ sm, sm = sg (fsg fl) (exN fl) := ⟨_, rfl⟩
      rw [← hsm] at CX HC CE
      obtain ⟨m, hm⟩ : ∃ m, m = exN fl := ⟨_, rfl⟩
      rw [← hm] at CX HC CE
      obtain ⟨c, hc⟩ : ∃ c, c = cmpP s n sm m := ⟨_, rfl⟩
      rw [← hc] at HC CE
      obtain ⟨g, hg⟩ : ∃ g, g = decide (num b / U1 * U1 < num b) := ⟨_, rfl⟩
      rw [← hg] at hgt
      have HC : Hid (fcP s n b = if c = 0 ∧ g = true then -1 else c) := Lib.hid (by
        rw [HC.out]; congr 1; rw [hg, decide_eq_true_iff])
      rw [Bool.not_false]
      have I1 := Lib.hid (h.keep F1.out)
      obtain ⟨z, hz⟩ : ∃ z, z = fcP s n b := ⟨_, rfl⟩
      rw [← hz] at HC ⊢
      clear hz hg hc hm hsm hfl HW hinf hnan hfin hb hs hn h
      go_enter Tryz.func78, Tryz.ntmps78
      go_upto_region 1 with fail
      rw [← hW1, ← hk]
      clear hW1 hk
      go_wp2_with fail
      refine (C1.out _).mono ?_
      rintro e w' ⟨rfl, rfl⟩
      clear C1
      go_wp2_with fail
      refine (C2.out _).mono ?_
      rintro e w' ⟨rfl, rfl⟩
      clear C2
      go_wp2_with fail
      refine (CF.out _).mono ?_
      rintro e w' ⟨rfl, rfl⟩
      go_wp2_with fail
      refine (CX.out _).mono ?_
      rintro e w3 ⟨a3, c3, rfl, hI3, F3⟩
      have I3 := Lib.hid hI3
      have P3 := Lib.hid (P1.out.fr F3)
      have J3 := Lib.hid (I1.out.keep F3)
      have F3 := Lib.hid (F1.out.same F3)
      clear hI3 P1 I1 F1 CX
      have q0 := P3.out.c0
      have q1 := P3.out.c1
      have ql := P3.out.lt
      have F4 := Lib.hid (F3.out.alloc (.cells #[.bool sm, .slice a3 (lims m).length c3] 36))
      have CE := Lib.hid (CE.out _ a3 c3 (J3.out.keep ((Fr.refl _ _).alloc (.cells #[.bool sm, .slice a3 (lims m).length c3] 36))) (I3.out.keep ((Fr.refl _ _).alloc (.cells #[.bool sm, .slice a3 (lims m).length c3] 36))))
      clear J3 I3 F3 P3
      generalize (lims n).length = L at *
      generalize (lims m).length = M at *
      go_wp2_with fail
      refine CE.out.mono ?_
      rintro e w5 ⟨rfl, F5⟩
      have F5 := Lib.hid (F4.out.same F5)
      clear CE F4 q0 q1 ql
      by_cases hc0 : c = 0
      · subst hc0
        cases g with
        | true =>
          have HZ : Hid (z = -1) := Lib.hid (by rw [HC.out]; exact if_pos ⟨rfl, rfl⟩)
          clear HC
          go_wp2_with (go_at_call 116; refine (CF.out _).mono ?_; rintro e w' ⟨rfl, rfl⟩)
          go_ret2
          rw [HZ.out]
          exact ⟨rfl, F5.out⟩
        | false =>
          have HZ : Hid (z = 0) := Lib.hid (by rw [HC.out]; exact if_neg (fun hc => by cases hc.2))
          clear HC
          go_wp2_with (go_at_call 116; refine (CF.out _).mono ?_; rintro e w' ⟨rfl, rfl⟩)
          go_ret2
          rw [HZ.out]
          exact ⟨rfl, F5.out⟩
      · have HZ : Hid (z = c) := Lib.hid (by rw [HC.out]; exact if_neg (fun hc => hc0 hc.1))
        have hcb : (c == 0) = false := by simpa using hc0
        clear HC
        go_wp2
        go_ret2
        rw [HZ.out]
        exact ⟨rfl, F5.out⟩
end Go.Proofs.YtcjkgnafpkkjmaaGreatDoor
end
