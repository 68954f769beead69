/- floRounds: rounding to the nearest whole number. -/
import Derived.Test.YtjdanblijcdllaaGreatDoorFloP
/- Walks: math.Mod by two, and distaffref03.Round. -/
set_option linter.all false
namespace Go.Proofs.YtjdanblijcdllaaGreatDoor
open Go.ChangeShapes Go.WideShapes Go.RowKit
open Ieee
theorem log2_pos {v : Nat} (h : 2 ≤ v) : 1 ≤ v.log2 := by
  rcases Nat.lt_or_ge v.log2 1 with h1 | h1
  · have := (Nat.log2_lt (n := v) (k := 1) (by omega)).1 h1; omega
  · exact h1
theorem pow_unit (l : Nat) : 4503599627370496 * 2 ^ (l + 1022) = 2 ^ l * U1 := by
  obtain ⟨e, he⟩ : ∃ e : Nat, e = 1022 := ⟨_, rfl⟩
  rw [← he]
  unfold U1
  rw [show B1 = 52 + e by rw [B1_eq]; omega, show (4503599627370496 : Nat) = 2 ^ 52 by decide, ← Nat.pow_add, ← Nat.pow_add]
  congr 1; omega
theorem num_pos {b : Nat} (h : b < 9223372036854775808) : num b = ((magn b : Nat) : Int) := by
  have hs : fsg b = false := by unfold fsg; rw [Nat.div_eq_of_lt h]; rfl
  rw [num_fmg, hs]
  unfold fmg
  rw [Nat.mod_eq_of_lt h]
  simp only [Bool.false_eq_true, if_false]
theorem sub_pos {x y r : Nat} {U a b : Nat} (hU : 0 < U) (hx : x < 9218868437227405312) (hy : y < 9218868437227405312) (hr : r < 9218868437227405312) (h1 : magn x = a * U) (h2 : magn y = b * U) (h3 : magn r = (a - b) * U) (hle : b ≤ a) : double.sub x y = some r := by
  have e1 : (a - b) * U + b * U = a * U := by rw [← Nat.add_mul, Nat.sub_add_cancel hle]
  have hd : num x - num y = ((magn r : Nat) : Int) := by
    rw [num_pos (by omega), num_pos (by omega), h1, h2, h3]
    generalize (a - b) * U = A at *
    generalize b * U = B at *
    generalize a * U = C at *
    omega
  have hsx : fsg x = false := by unfold fsg; rw [Nat.div_eq_of_lt (by omega)]; rfl
  have hsub := sub_exact (x := x) (y := y) (r := r) (by unfold Fin64; omega) (by unfold Fin64; omega) hr (by rw [hd]; exact Int.natAbs_natCast _)
  have hsg : sgT (num x - num y) (fsg x && !fsg y) = false := by
    rw [hd, hsx]
    unfold sgT
    split
    · rfl
    · exact decide_eq_false (by omega)
  rw [hsg] at hsub
  rw [hsub]; rfl
theorem fmod_step {v : Nat} (h2 : 2 ≤ v) (hl : v < 9007199254740992) : ∃ l F, 1 ≤ l ∧ l ≤ 52 ∧ F < 4503599627370496 ∧ ofR v = (l + 1023) * 4503599627370496 + F ∧ 2 ^ l ≤ v ∧ double.sub (ofR v) ((l + 1023) * 4503599627370496) = some (ofR (v - 2 ^ l)) ∧ (v - 2 ^ l) % 2 = v % 2 := by
  have h0 : v ≠ 0 := by omega
  have l1 := log2_pos h2
  have l52 : v.log2 ≤ 52 := by have := (Nat.log2_lt h0 (k := 53)).2 (by simpa using hl); omega
  have hb := keptN_b h0
  have hk : keptN v = v * 2 ^ (52 - v.log2) := by unfold keptN; rw [if_pos l52]
  have he := ofR_small h0 hl
  have hlt : v * 2 ^ (52 - v.log2) < 9007199254740992 := by
    have h3 := Nat.lt_log2_self (n := v)
    have p2 : 2 ^ (v.log2 + 1) * 2 ^ (52 - v.log2) = 9007199254740992 := by rw [← Nat.pow_add, show v.log2 + 1 + (52 - v.log2) = 53 by omega]
    rw [← p2]
    exact Nat.mul_lt_mul_of_pos_right h3 (Nat.two_pow_pos _)
  rw [hk] at hb
  have hle := Nat.log2_self_le h0
  have hmx := magn_ofR hl
  have hxl := (ofR_fin hl).2.1
  generalize v * 2 ^ (52 - v.log2) = q at *
  generalize v.log2 = l at *
  have hv2 : v - 2 ^ l < 9007199254740992 := Nat.lt_of_le_of_lt (Nat.sub_le _ _) hl
  have hmr := magn_ofR hv2
  have hrl := (ofR_fin hv2).2.1
  have hmy : magn ((l + 1023) * 4503599627370496) = 2 ^ l * U1 := by
    rw [show (l + 1023) * 4503599627370496 = (l + 1022) * 4503599627370496 + 4503599627370496 by omega, magn_at _ _ (by omega) (by omega), pow_unit]
  have hsub := sub_pos U1_pos hxl (by omega) hrl hmx hmy hmr hle
  refine ⟨l, q - 4503599627370496, l1, l52, by omega, by rw [he.1]; omega, hle, hsub, ?_⟩
  obtain ⟨k, hk2⟩ : ∃ k, l = k + 1 := ⟨l - 1, by omega⟩
  subst hk2
  have e := Nat.pow_succ 2 k
  generalize 2 ^ (k + 1) = P at *
  generalize 2 ^ k = R at *
  omega
theorem ofR_ge2 {v : Nat} (hl : v < 9007199254740992) : (FloatKind.f64.format.order (ofR v) 4611686018427387904 == some .gt || FloatKind.f64.format.order (ofR v) 4611686018427387904 == some .eq) = decide (2 ≤ v) := by
  have h := (ofR_fin hl).2.1
  rw [gt_pos h (by decide), eq_pos h (by decide)]
  have h2 : magn 4611686018427387904 = 2 * U1 := by
    have := magn_ofR (v := 2) (by decide)
    rw [← this]
    congr 1
  have hm := magn_ofR hl
  have hU := U1_pos
  by_cases hc : 2 ≤ v
  · rw [decide_eq_true hc]
    have : 4611686018427387904 ≤ ofR v := by
      rcases Nat.lt_or_ge (ofR v) 4611686018427387904 with h3 | h3
      · have h4 := magn_lt_of h3
        rw [hm, h2] at h4
        have := Nat.mul_le_mul_right U1 hc
        omega
      · exact h3
    by_cases h5 : 4611686018427387904 < ofR v
    · rw [decide_eq_true h5]; rfl
    · rw [decide_eq_true (show ofR v = 4611686018427387904 by omega)]; simp
  · rw [decide_eq_false hc]
    have : ofR v < 4611686018427387904 := by
      rcases Nat.lt_or_ge (ofR v) 4611686018427387904 with h3 | h3
      · exact h3
      · have h4 := magn_le_of h3
        rw [hm, h2] at h4
        have h6 : v ≤ 1 := by omega
        have := Nat.mul_le_mul_right U1 h6
        omega
    rw [decide_eq_false (by omega), decide_eq_false (by omega)]; rfl
def numBits (x : Value) : Nat := match x with | .float _ b => b | _ => 0
theorem ofR_mono {a b : Nat} (ha : a < 9007199254740992) (hb : b < 9007199254740992) (h : a < b) : ofR a < ofR b := by
  rcases Nat.lt_or_ge (ofR a) (ofR b) with h1 | h1
  · exact h1
  · have h2 := magn_le_of h1
    rw [magn_ofR ha, magn_ofR hb] at h2
    have := Nat.mul_lt_mul_of_pos_right h U1_pos
    omega
set_option maxRecDepth 100000 in
set_option maxHeartbeats 1000000 in
theorem mod2_c (s : Bool) (v : Nat) (hv : v < 9007199254740992) (hs : s = true → v ≠ 0) (w : World) : Calls Tryz.prog 150 #[.float .f64 (ofR v + if s then 9223372036854775808 else 0), .float .f64 4611686018427387904] w fun e w' => e = .returned (.float .f64 (ofR (v % 2) + if s then 9223372036854775808 else 0)) ∧ w = w' := by
  obtain ⟨f1, f2, f3, f4⟩ := ofR_fin hv
  obtain ⟨b, hb⟩ : ∃ b, b = ofR v + if s then 9223372036854775808 else 0 := ⟨_, rfl⟩
  have hbl : b < 18446744073709551616 := by rw [hb]; split <;> omega
  have hbm : b % 9223372036854775808 = ofR v := by rw [hb]; exact mod_at s (by omega)
  have hn : isNan b = false := by rw [hb]; exact nan_at s f2
  have hi : isInf b = false := by unfold isInf; rw [hbm]; exact decide_eq_false (by omega)
  have HI := Lib.hid (fun w => by have := isinf0_c b hbl w; rw [hi] at this; exact this)
  have HN := Lib.hid (fun w => by have := isnan_c b w; rw [hn] at this; exact this)
  have HN2 := Lib.hid (fun w => by have := isnan_c 4611686018427387904 w; rw [show isNan 4611686018427387904 = false by decide] at this; exact this)
  have HA : Hid (∀ w, Calls Tryz.prog 77 #[.float .f64 4611686018427387904] w fun e w' => e = .returned (.float .f64 4611686018427387904) ∧ w = w') := Lib.hid (fun w => abs_c 4611686018427387904 (by decide) w)
  have HF2 : Hid (∀ w, Calls Tryz.prog 93 #[.float .f64 4611686018427387904] w fun e w' => e = .returned (.tuple #[.float .f64 4602678819172646912, .int .i64 2]) ∧ w = w') := Lib.hid (fun w => frexp_c 1024 0 (by decide) (by decide) (by decide) w)
  have h2z : (FloatKind.f64.format.order 4611686018427387904 0 == some .eq) = false := by decide
  have hlt : (FloatKind.f64.format.order b 0 == some .lt) = s := by
    have h1 : keyF b = if s then -(magn (ofR v) : Int) else magn (ofR v) := by rw [hb]; exact key_at s f2
    change (double.order b 0 == some .lt) = s
    rw [order_key hn (by decide), fcmpI, h1, magn_ofR hv, show keyF 0 = 0 by decide]
    have hU := U1_pos
    cases s with
    | false => simp only [Bool.false_eq_true, if_false]; rw [if_neg (by omega)]; split <;> rfl
    | true =>
      have := Nat.mul_lt_mul_of_pos_right (Nat.pos_of_ne_zero (hs rfl)) hU
      simp only [if_true]; rw [if_pos (by omega)]; rfl
  have hng := neg_run b
  have hnb : s = true → Op.negFloat .f64 b = ofR v := by
    intro h
    subst h
    rw [neg_eq hbl, show fsg b = true by rw [hb]; exact fsg_at true (by omega), hb]
    simp
  have HM := Lib.hid (fun (u : Nat) (h : 2 ≤ u) (h1 : u ≤ v) => fmod_step h (by omega))
  have HGE := Lib.hid (fun (u : Nat) (h1 : u ≤ v) => ofR_ge2 (v := u) (by omega))
  have HMO := Lib.hid (fun (u t : Nat) (h1 : u ≤ v) (h : t < u) => ofR_mono (a := t) (b := u) (by omega) (by omega) h)
  have hres : Op.negFloat .f64 (ofR (v % 2)) = ofR (v % 2) + 9223372036854775808 := by
    have hq := (ofR_fin (v := v % 2) (by omega))
    rw [neg_eq (by omega), hq.2.2.1]; rfl
  have hng2 := neg_run (ofR (v % 2))
  rw [← hb]
  have HB := Lib.hid hb
  clear f1 f2 f3 f4 hbl hbm hn hi hb hs
  have CFX : Hid (∀ (u l F : Nat), 1 ≤ l → l ≤ 52 → F < 4503599627370496 → ofR u = (l + 1023) * 4503599627370496 + F → ∃ z, (FloatKind.f64.format.order z 4602678819172646912 == some .lt) = false ∧ ∀ w, Calls Tryz.prog 93 #[.float .f64 (ofR u)] w fun e w' => e = .returned (.tuple #[.float .f64 z, .int .i64 ((l : Int) + 1)]) ∧ w = w') := Lib.hid (fun u l F h1 h2 h3 h4 => by
    refine ⟨1022 * 4503599627370496 + F, ?_, fun w => ?_⟩
    · rw [lt_pos (by omega) (by decide)]; exact decide_eq_false (by omega)
    · have := frexp_c (l + 1023) F (by omega) (by omega) h3 w
      rw [← h4, show (((l + 1023 : Nat) : Int) - 1022) = (l : Int) + 1 by omega] at this
      exact this)
  have CLX : Hid (∀ (l : Nat) (k : Int), 1 ≤ l → l ≤ 52 → k = (l : Int) - 1 → ∀ w, Calls Tryz.prog 89 #[.float .f64 4611686018427387904, .int .i64 k] w fun e w' => e = .returned (.float .f64 ((l + 1023) * 4503599627370496)) ∧ w = w') := Lib.hid (fun l k h1 h2 h3 w => by
    have := mldexp_c 1024 0 (by decide) (by decide) (by decide) k (by omega) (by omega) w
    rw [show ldW 1024 0 k = (l + 1023) * 4503599627370496 by unfold ldW; rw [if_neg (by omega)]; subst h3; omega] at this
    exact this)
  obtain ⟨n, hnv⟩ : ∃ n, n = v % 2 := ⟨_, rfl⟩
  rw [← hnv] at hng2 hres ⊢
  have HNV := Lib.hid hnv
  clear hnv
  cases s with
  | false =>
    have T1 : Hid True := Lib.hid trivial
    go_enter Tryz.func150, Tryz.ntmps150
    go_wp2_with (first | (go_at_call 90; refine (HI.out _).mono ?_; rintro e w' ⟨rfl, rfl⟩) | (go_at_call 15; first | (have T2 := T1; clear T1; refine (HN.out _).mono ?_; rintro e w' ⟨rfl, rfl⟩) | (refine (HN2.out _).mono ?_; rintro e w' ⟨rfl, rfl⟩)) | (go_at_call 77; refine (HA.out _).mono ?_; rintro e w' ⟨rfl, rfl⟩) | (go_at_call 93; refine (HF2.out _).mono ?_; rintro e w' ⟨rfl, rfl⟩))
    go_loopw [7] (fun x wr => ∃ u : Nat, u ≤ v ∧ x = .float .f64 (ofR u) ∧ Hid (u % 2 = n) ∧ w = wr) (fun x _ => numBits x)
    case atStart => exact ⟨v, Nat.le_refl _, by first | rfl | (rw [HB.out]; simp), Lib.hid HNV.out.symm, by trivial⟩
    case round =>
      obtain ⟨u, hu, rfl, HU, rfl⟩ := hrel
      have hge := HGE.out u hu
      by_cases h2 : 2 ≤ u
      · rw [decide_eq_true h2] at hge
        obtain ⟨l, F, l1, l52, hF, hE, hle, hsb, hpar⟩ := HM.out u h2 hu
        have HPAR := Lib.hid hpar
        have HLE := Lib.hid hle
        obtain ⟨z, hz, CZ⟩ := CFX.out u l F l1 l52 hF hE
        have CZ := Lib.hid CZ
        have CL := Lib.hid (fun (k : Int) (h : k = (l : Int) - 1) w => CLX.out l k l1 l52 h w)
        have h2' := Lib.hid h2
        obtain ⟨y, hy⟩ : ∃ y, y = (l + 1023) * 4503599627370496 := ⟨_, rfl⟩
        rw [← hy] at hsb CL
        have hsr : ∀ (t : TypeId) (w : World), (binOp .sub t (.float .f64 (ofR u)) (.float .f64 y)).run Tryz.prog w = .ok (.float .f64 (ofR (u - 2 ^ l))) w := fun t w => run_float_arith w .sub t .f64 _ _ _ hsb
        clear hy hsb hpar hle hE hF h2
        obtain ⟨x, hx⟩ : ∃ x, x = ofR u := ⟨_, rfl⟩
        obtain ⟨x2, hx2⟩ : ∃ x2, x2 = ofR (u - 2 ^ l) := ⟨_, rfl⟩
        have HX := Lib.hid hx
        have HX2 := Lib.hid hx2
        rw [← hx, ← hx2] at hsr
        rw [← hx] at hge CZ ⊢
        clear hx hx2
        go_wp2_with fail
        refine (CZ.out _).mono ?_
        rintro e w' ⟨rfl, rfl⟩
        go_wp2_with fail
        refine (CL.out _ (by omega) _).mono ?_
        rintro e w' ⟨rfl, rfl⟩
        go_wp2_with fail
        go_round
        case rel =>
          rw [HX2.out]
          exact ⟨u - 2 ^ l, Nat.le_trans (Nat.sub_le _ _) hu, rfl, Lib.hid (by rw [HPAR.out]; exact HU.out), by trivial⟩
        case measure =>
          simp only [numBits]
          rw [HX.out, HX2.out]
          have := HLE.out
          have := Nat.two_pow_pos l
          exact HMO.out u (u - 2 ^ l) hu (by have := h2'.out; omega)
      · rw [decide_eq_false h2] at hge
        have hun : u = n := by have := HU.out; omega
        subst hun
        clear h2 hu
        skip
        go_wp2_with fail
        go_ret
        exact ⟨by first | rfl | simp, rfl⟩
  | true =>
    have T1 : Hid True := Lib.hid trivial
    replace hnb := hnb rfl
    rw [hnb] at hng
    go_enter Tryz.func150, Tryz.ntmps150
    go_wp2_with (first | (go_at_call 90; refine (HI.out _).mono ?_; rintro e w' ⟨rfl, rfl⟩) | (go_at_call 15; first | (have T2 := T1; clear T1; refine (HN.out _).mono ?_; rintro e w' ⟨rfl, rfl⟩) | (refine (HN2.out _).mono ?_; rintro e w' ⟨rfl, rfl⟩)) | (go_at_call 77; refine (HA.out _).mono ?_; rintro e w' ⟨rfl, rfl⟩) | (go_at_call 93; refine (HF2.out _).mono ?_; rintro e w' ⟨rfl, rfl⟩))
    go_loopw [7] (fun x wr => ∃ u : Nat, u ≤ v ∧ x = .float .f64 (ofR u) ∧ Hid (u % 2 = n) ∧ w = wr) (fun x _ => numBits x)
    case atStart => exact ⟨v, Nat.le_refl _, by first | rfl | (rw [HB.out]; simp), Lib.hid HNV.out.symm, by trivial⟩
    case round =>
      obtain ⟨u, hu, rfl, HU, rfl⟩ := hrel
      have hge := HGE.out u hu
      by_cases h2 : 2 ≤ u
      · rw [decide_eq_true h2] at hge
        obtain ⟨l, F, l1, l52, hF, hE, hle, hsb, hpar⟩ := HM.out u h2 hu
        have HPAR := Lib.hid hpar
        have HLE := Lib.hid hle
        obtain ⟨z, hz, CZ⟩ := CFX.out u l F l1 l52 hF hE
        have CZ := Lib.hid CZ
        have CL := Lib.hid (fun (k : Int) (h : k = (l : Int) - 1) w => CLX.out l k l1 l52 h w)
        have h2' := Lib.hid h2
        obtain ⟨y, hy⟩ : ∃ y, y = (l + 1023) * 4503599627370496 := ⟨_, rfl⟩
        rw [← hy] at hsb CL
        have hsr : ∀ (t : TypeId) (w : World), (binOp .sub t (.float .f64 (ofR u)) (.float .f64 y)).run Tryz.prog w = .ok (.float .f64 (ofR (u - 2 ^ l))) w := fun t w => run_float_arith w .sub t .f64 _ _ _ hsb
        clear hy hsb hpar hle hE hF h2
        obtain ⟨x, hx⟩ : ∃ x, x = ofR u := ⟨_, rfl⟩
        obtain ⟨x2, hx2⟩ : ∃ x2, x2 = ofR (u - 2 ^ l) := ⟨_, rfl⟩
        have HX := Lib.hid hx
        have HX2 := Lib.hid hx2
        rw [← hx, ← hx2] at hsr
        rw [← hx] at hge CZ ⊢
        clear hx hx2
        go_wp2_with fail
        refine (CZ.out _).mono ?_
        rintro e w' ⟨rfl, rfl⟩
        go_wp2_with fail
        refine (CL.out _ (by omega) _).mono ?_
        rintro e w' ⟨rfl, rfl⟩
        go_wp2_with fail
        go_round
        case rel =>
          rw [HX2.out]
          exact ⟨u - 2 ^ l, Nat.le_trans (Nat.sub_le _ _) hu, rfl, Lib.hid (by rw [HPAR.out]; exact HU.out), by trivial⟩
        case measure =>
          simp only [numBits]
          rw [HX.out, HX2.out]
          have := HLE.out
          have := Nat.two_pow_pos l
          exact HMO.out u (u - 2 ^ l) hu (by have := h2'.out; omega)
      · rw [decide_eq_false h2] at hge
        have hun : u = n := by have := HU.out; omega
        subst hun
        clear h2 hu
        rw [hres] at hng2
        go_wp2_with fail
        go_ret
        exact ⟨by first | rfl | simp, rfl⟩
end Go.Proofs.YtjdanblijcdllaaGreatDoor
/- Walks: flo.Round and distaffref03.Round. -/
namespace Go.Proofs.YtjdanblijcdllaaGreatDoor
open Go.ChangeShapes Go.WideShapes Go.RowKit
open Ieee
theorem quiet_pos (t : Nat) : (double.quiet t) % 4503599627370496 ≠ 0 := by
  intro hc
  have h1 : ((double.quiet t) % 2 ^ 52).testBit 51 = true := by
    rw [Nat.testBit_mod_two_pow]
    unfold Format.quiet
    rw [Nat.testBit_or]
    have : (2 ^ (double.fractionBits - 1)).testBit 51 = true := by decide
    rw [this]; simp
  rw [show (2 : Nat) ^ 52 = 4503599627370496 by decide, hc] at h1
  simp at h1
theorem nan_write (s : Bool) (t : Nat) : isNan (double.write (.nan s (double.quiet t))) = true ∧ double.write (.nan s (double.quiet t)) < 18446744073709551616 := by
  have h1 := quiet_pos t
  have h2 := Nat.mod_lt (double.quiet t) (show 0 < 4503599627370496 by decide)
  have key : ∀ p, p ≠ 0 → p < 4503599627370496 → isNan (if s then 9223372036854775808 + (9218868437227405312 + p) else 9218868437227405312 + p) = true ∧ (if s then 9223372036854775808 + (9218868437227405312 + p) else 9218868437227405312 + p) < 18446744073709551616 := by
    intro p h1 h2
    unfold isNan
    cases s with
    | false => simp only [Bool.false_eq_true, if_false]; exact ⟨decide_eq_true (by omega), by omega⟩
    | true => simp only [if_true]; exact ⟨decide_eq_true (by omega), by omega⟩
  unfold Format.write Format.word
  simp only
  rw [binade, infR, signW]
  exact key _ h1 h2
theorem integral_nan (name : String) (way : Ieee.Toward) {b : Nat} (hb : b < 18446744073709551616) (h : isNan b = true) (w : World) : ∃ r w', (Extern.MathFloor.toIntegral name way #[.float .f64 b]).run Tryz.prog w = .ok (.float .f64 r) w' ∧ isNan r = true ∧ r < 18446744073709551616 ∧ Fr [] w w' := by
  obtain ⟨f, hf⟩ := read_nan h
  change ∃ r w', (match Ieee.double.read b with
    | .nan s t => _
    | d => pure (.float .f64 (FloatKind.f64.encode (d.integral way))) : Sem Value).run Tryz.prog w = _ ∧ _
  rw [hf]
  simp only
  by_cases hq : FloatKind.f64.format.quiet f = f
  · rw [if_pos hq]
    exact ⟨b, w, rfl, h, hb, Fr.refl _ _⟩
  · rw [if_neg hq]
    have hw := nan_write (fsg b) f
    refine ⟨_, w.drew, by simp [run_choose_drew]; rfl, ?_, ?_, (Fr.refl _ _).drew⟩
    · split
      · exact h
      · exact hw.1
    · split
      · exact hb
      · exact hw.2
theorem archfloor_nan {b : Nat} (hb : b < 18446744073709551616) (h : isNan b = true) (w : World) : ∃ r w', (callFunc 134 #[.float .f64 b]).run Tryz.prog w = .ok (.value (.float .f64 r)) w' ∧ Fr [] w w' := by
  obtain ⟨r, w', h1, _, _, h4⟩ := integral_nan "math.archFloor" .down hb h w
  refine ⟨r, w', ?_, h4⟩
  rw [run_callFunc_extern Tryz.func134 (by kernel_rfl) (by kernel_rfl) (by kernel_rfl) (e := Extern.MathFloor.toIntegral "math.archFloor" .down) (by kernel_rfl), h1]
  rfl
theorem even_nan {b : Nat} (hb : b < 18446744073709551616) (h : isNan b = true) (w : World) : ∃ r w', (callFunc 99 #[.float .f64 b]).run Tryz.prog w = .ok (.value (.float .f64 r)) w' ∧ isNan r = true ∧ r < 18446744073709551616 ∧ Fr [] w w' := by
  obtain ⟨r, w', h1, h2, h3, h4⟩ := integral_nan "math.RoundToEven" .even hb h w
  refine ⟨r, w', ?_, h2, h3, h4⟩
  rw [run_callFunc_extern Tryz.func99 (by kernel_rfl) (by kernel_rfl) (by kernel_rfl) (e := Extern.MathFloor.toIntegral "math.RoundToEven" .even) (by kernel_rfl), h1]
  rfl
theorem even_run {b : Nat} (h : isNan b = false) (w : World) : (callFunc 99 #[.float .f64 b]).run Tryz.prog w = .ok (.value (.float .f64 (evenW b))) w := by
  rw [run_callFunc_extern Tryz.func99 (by kernel_rfl) (by kernel_rfl) (by kernel_rfl) (e := Extern.MathFloor.toIntegral "math.RoundToEven" .even) (by kernel_rfl), integral_run _ _ h]
  rfl
/-- What rounding gives. -/
def rndW (b : Nat) : Nat := if isNan b then b else evenW b
theorem evenW_lt {b : Nat} (hb : b < 18446744073709551616) (h : isNan b = false) : evenW b < 18446744073709551616 := by
  rcases not_nan h with hf | hi
  · obtain ⟨r, h1, _, h3⟩ := even_spec hf
    omega
  · rw [(even_inf hb hi).1]; exact hb
theorem rndW_lt {b : Nat} (hb : b < 18446744073709551616) : rndW b < 18446744073709551616 := by
  unfold rndW
  cases h : isNan b with
  | true => exact hb
  | false => exact evenW_lt hb h
theorem flround_c (b : Nat) (hb : b < 18446744073709551616) (w : World) : Calls Tryz.prog 45 #[.float .f64 b] w fun e w' => ∃ r, e = .returned (.float .f64 r) ∧ r < 18446744073709551616 ∧ bitsC r = bitsC (rndW b) ∧ Fr [] w w' := by
  cases h : isNan b with
  | true =>
    obtain ⟨r, w', hr, h2, h3, h4⟩ := even_nan hb h w
    go_enter Tryz.func45, Tryz.ntmps45
    go_wp2
    go_ret
    refine ⟨r, rfl, h3, ?_, h4⟩
    unfold rndW bitsC
    rw [h, if_pos h2, if_pos rfl, if_pos h]
  | false =>
    have hr := even_run h w
    have hl := evenW_lt hb h
    have e : rndW b = evenW b := by unfold rndW; rw [h]; rfl
    rw [e]
    obtain ⟨x, hx⟩ : ∃ x, x = evenW b := ⟨_, rfl⟩
    rw [← hx] at hr hl ⊢
    clear hx e
    go_enter Tryz.func45, Tryz.ntmps45
    go_wp2
    go_ret
    exact ⟨x, rfl, hl, rfl, Fr.refl _ _⟩
end Go.Proofs.YtjdanblijcdllaaGreatDoor
/- Walks: distaffref03.Round. -/
namespace Go.Proofs.YtjdanblijcdllaaGreatDoor
open Go.ChangeShapes Go.WideShapes Go.RowKit
open Ieee
theorem small_of {b : Nat} (h : fmg b % U1 ≠ 0) : fmg b < 4503599627370496 * U1 := by
  have hfm : fmg b = rq (b % 9223372036854775808) * 2 ^ re (b % 9223372036854775808) := magn_eq _
  have hql := rq_lt (b % 9223372036854775808)
  generalize rq (b % 9223372036854775808) = M at *
  generalize re (b % 9223372036854775808) = t at *
  have ht : t < B1 := by
    rcases Nat.lt_or_ge t B1 with h1 | h1
    · exact h1
    · exfalso
      refine h ?_
      rw [hfm, show t = t - B1 + B1 by omega, Nat.pow_add, ← Nat.mul_assoc]
      exact Nat.mul_mod_left _ _
  have hUk : U1 = 2 ^ (B1 - 1 - t) * (2 * 2 ^ t) := by unfold U1; rw [Nat.mul_comm 2, ← Nat.pow_succ, ← Nat.pow_add]; congr 1; omega
  have hp := Nat.two_pow_pos (B1 - 1 - t)
  have hp2 := Nat.two_pow_pos t
  rw [hfm, hUk]
  generalize 2 ^ (B1 - 1 - t) = A at *
  generalize 2 ^ t = B at *
  have h1 : M * B < 9007199254740992 * B := Nat.mul_lt_mul_of_pos_right hql hp2
  have h2 : 1 * (2 * B) ≤ A * (2 * B) := Nat.mul_le_mul_right _ hp
  generalize A * (2 * B) = C at *
  omega
theorem low_word {b : Nat} (hf : Fin64 b) (h : fmg b % U1 ≠ 0) : ∃ v s, v < 9007199254740992 ∧ (s = true → v ≠ 0) ∧ floorW b = ofR v + (if s then 9223372036854775808 else 0) ∧ ((v % 2 = 1) ↔ (num b / U1) % 2 = 1) := by
  obtain ⟨r, hr, hm, he⟩ := whole_bits .down hf
  have hlw : floorW b = double.word (fsg b) r := he
  obtain ⟨hw, hn⟩ := floor_whole hf
  have hpar := floor_parity hf
  have hmod : floorW b % 9223372036854775808 = r := by rw [hlw]; exact word_mod _ hr
  have hmr : magn r = exN (floorW b) * U1 := by have := whole_mul hw; unfold fmg at this; rw [hmod] at this; exact this
  have hsm := small_of h
  have hU := U1_pos
  have hnum := num_fmg b
  have hpos : 0 < fmg b := by rcases Nat.eq_zero_or_pos (fmg b) with h0 | h0
                              · rw [h0] at h; simp at h
                              · exact h0
  generalize hv : exN (floorW b) = v at *
  have hc : ((4503599627370496 * U1 : Nat) : Int) = 4503599627370496 * (U1 : Int) := Int.natCast_mul _ _
  have hlo : -4503599627370496 ≤ num b / U1 := by
    refine Int.le_ediv_of_mul_le (by omega) ?_
    rw [hnum, Int.neg_mul]
    generalize 4503599627370496 * U1 = Z at *
    split <;> omega
  have hhi : num b / U1 < 4503599627370496 := by
    refine Int.ediv_lt_of_lt_mul (by omega) ?_
    rw [hnum]
    generalize 4503599627370496 * U1 = Z at *
    split <;> omega
  have hvl : v < 9007199254740992 := by
    rw [← hn] at hlo hhi
    unfold sInt at hlo hhi
    cases hs : fsg (floorW b) with
    | false => rw [hs] at hlo hhi; simp only [Bool.false_eq_true, if_false] at hlo hhi; omega
    | true => rw [hs] at hlo hhi; simp only [if_true] at hlo hhi; omega
  have hro : r = ofR v := magn_inj (hmr.trans (magn_ofR hvl).symm)
  refine ⟨v, fsg b, hvl, fun hs h0 => ?_, ?_, hpar⟩
  · rw [hs, if_pos rfl] at hnum
    have hneg : num b / U1 < 0 := Int.ediv_lt_of_lt_mul (by omega) (by rw [Int.zero_mul]; omega)
    rw [← hn, h0] at hneg
    unfold sInt at hneg
    cases hs2 : fsg (floorW b) <;> rw [hs2] at hneg <;> simp at hneg
  · rw [hlw, hro]
    unfold Format.word
    rw [signW]
    cases fsg b with
    | false => simp
    | true => simp only [if_true]; exact Nat.add_comm _ _
theorem mod_c (s : Bool) (v : Nat) (hv : v < 9007199254740992) (hs : s = true → v ≠ 0) (w : World) : Calls Tryz.prog 100 #[.float .f64 (ofR v + if s then 9223372036854775808 else 0), .float .f64 4611686018427387904] w fun e w' => e = .returned (.float .f64 (ofR (v % 2) + if s then 9223372036854775808 else 0)) ∧ w = w' := by
  have HM := Lib.hid (fun w => mod2_c s v hv hs w)
  obtain ⟨b, hb⟩ : ∃ b, b = ofR v + if s then 9223372036854775808 else 0 := ⟨_, rfl⟩
  obtain ⟨c, hc⟩ : ∃ c, c = ofR (v % 2) + if s then 9223372036854775808 else 0 := ⟨_, rfl⟩
  rw [← hb, ← hc] at HM ⊢
  clear hb hc hs
  go_enter Tryz.func100, Tryz.ntmps100
  go_wp2_with fail
  refine (HM.out _).mono ?_
  rintro e w' ⟨rfl, rfl⟩
  go_wp2_with fail
  go_ret
  exact ⟨rfl, rfl⟩
theorem odd_word (s : Bool) (v : Nat) : (FloatKind.f64.format.order (ofR (v % 2) + if s then 9223372036854775808 else 0) 0 != some .eq) = decide (v % 2 = 1) := by
  have h2 : v % 2 < 9007199254740992 := by omega
  have f2 := (ofR_fin h2).2.1
  change (double.order _ 0 != some .eq) = _
  rw [order_key (nan_at s f2) (by decide), fcmpI, key_at s f2, magn_ofR h2, show keyF 0 = 0 by decide]
  have hU := U1_pos
  rcases Nat.mod_two_eq_zero_or_one v with h | h <;> rw [h]
  · cases s <;> simp
  · have hx : ((1 * U1 : Nat) : Int) = U1 := by rw [Nat.one_mul]
    rw [hx]
    cases s with
    | false => simp only [Bool.false_eq_true, if_false]; rw [if_neg (by omega), if_neg (by omega)]; rfl
    | true => simp only [if_true]; rw [if_pos (by omega)]; rfl
set_option maxRecDepth 20000 in
set_option maxHeartbeats 1000000 in
theorem r3round_c (b : Nat) (hb : b < 18446744073709551616) (w : World) : Calls Tryz.prog 46 #[.float .f64 b] w fun e w' => e = .returned (.float .f64 (rndW b)) ∧ Fr [] w w' := by
  have hnn := neq_nan b
  cases h : isNan b with
  | true =>
    obtain ⟨r, w1, hr, hF⟩ := archfloor_nan hb h w
    have CF : Hid (Calls Tryz.prog 91 #[.float .f64 b] w fun e w' => e = .returned (.float .f64 r) ∧ Fr [] w w') := Lib.hid (by
      go_enter Tryz.func91, Tryz.ntmps91
      go_wp2
      go_ret
      exact ⟨rfl, hF⟩)
    have e : rndW b = b := by unfold rndW; rw [h]; rfl
    rw [h] at hnn
    rw [e]
    clear hr hF e h
    go_enter Tryz.func46, Tryz.ntmps46
    go_wp2_with fail
    refine CF.out.mono ?_
    rintro e w2 ⟨rfl, F2⟩
    have F2 := Lib.hid F2
    go_wp2_with fail
    go_ret
    exact ⟨rfl, F2.out⟩
  | false =>
    have CF := Lib.hid (fun w => floor_c b h w)
    have e : rndW b = evenW b := by unfold rndW; rw [h]; rfl
    rw [h] at hnn
    rw [e]
    have CI := Lib.hid (fun w => isinf0_c b hb w)
    by_cases hsame : (FloatKind.f64.format.order (floorW b) b == some .eq) = true
    · have hev : evenW b = b := by
        rcases not_nan h with hf | hi
        · refine even_whole hb ⟨hf, ?_⟩
          have hfl := floor_num hf
          change (double.order (floorW b) b == some .eq) = true at hsame
          rw [order_fin hfl.1 hf, fcmpI, hfl.2] at hsame
          have hq : num b / U1 * U1 = num b := by
            by_cases c1 : num b / U1 * U1 < num b
            · rw [if_pos c1] at hsame; exact absurd hsame (by decide)
            · by_cases c2 : num b / U1 * U1 = num b
              · exact c2
              · rw [if_neg c1, if_neg c2] at hsame; exact absurd hsame (by decide)
          have hd : (U1 : Int) ∣ num b := ⟨num b / U1, by rw [Int.mul_comm]; exact hq.symm⟩
          rw [num_fmg] at hd
          have hd2 : (U1 : Int) ∣ (fmg b : Int) := by
            split at hd
            · exact Int.dvd_neg.1 hd
            · exact hd
          exact Nat.mod_eq_zero_of_dvd (Int.natCast_dvd_natCast.1 hd2)
        · exact (even_inf hb hi).1
      rw [hev]
      obtain ⟨x, hx⟩ : ∃ x, x = floorW b := ⟨_, rfl⟩
      rw [← hx] at CF hsame
      clear hx hev e h hb
      go_enter Tryz.func46, Tryz.ntmps46
      go_wp2_with fail
      refine (CF.out _).mono ?_
      rintro e w2 ⟨rfl, rfl⟩
      go_wp2_with fail
      go_ret
      exact ⟨rfl, Fr.refl _ _⟩
    · have hns : (FloatKind.f64.format.order (floorW b) b == some .eq) = false := by simpa using hsame
      have hinf : isInf b = false := by
        rcases not_nan h with hf | hi
        · unfold isInf; unfold Fin64 at hf; exact decide_eq_false (by omega)
        · exfalso
          rw [(even_inf hb hi).2] at hsame
          refine hsame ?_
          change (double.order b b == some .eq) = true
          rw [order_key h h, fcmpI, if_neg (by omega), if_pos rfl]; rfl
      have hf : Fin64 b := by
        rcases not_nan h with hf | hi
        · exact hf
        · unfold isInf at hinf; exact absurd hi (of_decide_eq_false hinf)
      have hfr : fmg b % U1 ≠ 0 := by
        intro h0
        have hww : WholeF b := ⟨hf, h0⟩
        have hfl := floor_num hf
        refine hsame ?_
        change (double.order (floorW b) b == some .eq) = true
        have hq : num b / U1 * U1 = num b := by
          rw [whole_num hww, Int.mul_ediv_cancel _ (by have := U1_pos; omega)]
        rw [order_fin hfl.1 hf, fcmpI, hfl.2, hq, if_neg (by omega), if_pos rfl]; rfl
      rw [hinf] at CI
      obtain ⟨x, hx1, hx2, hx3⟩ := half_test hf hfr
      obtain ⟨r, hr, hm, he⟩ := even_spec hf
      obtain ⟨u1, u2⟩ := up_word hf hfr hr hm
      obtain ⟨v, s, hv, hs, hlow, hpar⟩ := low_word hf hfr
      obtain ⟨md, hodd, CM⟩ : ∃ md, (FloatKind.f64.format.order md 0 != some .eq) = decide (num b / U1 % 2 = 1) ∧ ∀ w, Calls Tryz.prog 100 #[.float .f64 (floorW b), .float .f64 4611686018427387904] w fun e w' => e = .returned (.float .f64 md) ∧ w = w' := by
        refine ⟨_, (odd_word s v).trans (decide_eq_decide.2 hpar), fun w => ?_⟩
        rw [hlow]
        exact mod_c s v hv hs w
      have CM := Lib.hid CM
      have hlt := floorW_lt hf
      have hgt := gt_pos hx2 (show 4602678819172646912 < 9218868437227405312 by decide)
      have heq := eq_pos hx2 (show 4602678819172646912 < 9218868437227405312 by decide)
      have hsr : ∀ (t : TypeId) (w : World), (binOp .sub t (.float .f64 b) (.float .f64 (floorW b))).run Tryz.prog w = .ok (.float .f64 x) w := fun t w => run_float_arith w .sub t .f64 _ _ _ hx1
      obtain ⟨l, hl⟩ : ∃ l, l = floorW b := ⟨_, rfl⟩
      rw [← hl] at CF CM hns u1 u2 hlt hsr
      clear hl hlow hsame hinf hf hfr e h hx1 hm hpar hs hv hx2
      have hfin : ∀ f, f % 9223372036854775808 = r → b / 9223372036854775808 * 9223372036854775808 + f % 9223372036854775808 = evenW b := by
        intro f hfm
        rw [hfm, he]
        omega
      obtain ⟨g, hg⟩ : ∃ g, g = goUp (num b) := ⟨_, rfl⟩
      rw [← hg] at hx3 u1 u2
      clear hg
      cases g with
      | true =>
        obtain ⟨u, hu1, hu2, hu3⟩ := u1 rfl
        have har : ∀ (t : TypeId) (w : World), (binOp .add t (.float .f64 l) (.float .f64 4607182418800017408)).run Tryz.prog w = .ok (.float .f64 u) w := fun t w => run_float_arith w .add t .f64 _ _ _ hu1
        have CC := Lib.hid (fun w => copysign_c u b hu2 hb w)
        rw [hfin u hu3] at CC
        obtain ⟨y, hy⟩ : ∃ y, y = evenW b := ⟨_, rfl⟩
        rw [← hy] at CC ⊢
        clear hy u1 u2 hfin hu1 hu2 hu3 he hr hlt hb
        by_cases c1 : 4602678819172646912 < x
        · rw [decide_eq_true c1] at hgt
          clear hx3 heq hodd c1
          go_enter Tryz.func46, Tryz.ntmps46
          go_wp2_with (first | (go_at_call 91; refine (CF.out _).mono ?_; rintro e w2 ⟨rfl, rfl⟩) | (go_at_call 90; refine (CI.out _).mono ?_; rintro e w2 ⟨rfl, rfl⟩) | (go_at_call 100; refine (CM.out _).mono ?_; rintro e w2 ⟨rfl, rfl⟩) | (go_at_call 35; refine (CC.out _).mono ?_; rintro e w2 ⟨rfl, rfl⟩))
          go_ret
          exact ⟨rfl, Fr.refl _ _⟩
        · rw [decide_eq_false c1] at hgt hx3
          replace hx3 : decide (x = 4602678819172646912) = true ∧ decide (num b / U1 % 2 = 1) = true := by simpa using hx3.symm
          rw [hx3.1] at heq
          rw [hx3.2] at hodd
          clear hx3 c1
          go_enter Tryz.func46, Tryz.ntmps46
          go_wp2_with (first | (go_at_call 91; refine (CF.out _).mono ?_; rintro e w2 ⟨rfl, rfl⟩) | (go_at_call 90; refine (CI.out _).mono ?_; rintro e w2 ⟨rfl, rfl⟩) | (go_at_call 100; refine (CM.out _).mono ?_; rintro e w2 ⟨rfl, rfl⟩) | (go_at_call 35; refine (CC.out _).mono ?_; rintro e w2 ⟨rfl, rfl⟩))
          go_ret
          exact ⟨rfl, Fr.refl _ _⟩
      | false =>
        have hu3 := u2 rfl
        have CC := Lib.hid (fun w => copysign_c l b hlt hb w)
        rw [hfin l hu3] at CC
        obtain ⟨y, hy⟩ : ∃ y, y = evenW b := ⟨_, rfl⟩
        rw [← hy] at CC ⊢
        clear hy u1 u2 hfin hu3 he hr hlt hb
        have hc1 : decide (4602678819172646912 < x) = false := by
          cases hq : decide (4602678819172646912 < x) with
          | false => rfl
          | true => rw [hq] at hx3; simp at hx3
        rw [hc1] at hgt hx3
        by_cases c2 : x = 4602678819172646912
        · rw [decide_eq_true c2] at hx3 heq
          have hc3 : decide (num b / U1 % 2 = 1) = false := by simpa using hx3.symm
          rw [hc3] at hodd
          clear hx3 hc3 c2 hc1
          go_enter Tryz.func46, Tryz.ntmps46
          go_wp2_with (first | (go_at_call 91; refine (CF.out _).mono ?_; rintro e w2 ⟨rfl, rfl⟩) | (go_at_call 90; refine (CI.out _).mono ?_; rintro e w2 ⟨rfl, rfl⟩) | (go_at_call 100; refine (CM.out _).mono ?_; rintro e w2 ⟨rfl, rfl⟩) | (go_at_call 35; refine (CC.out _).mono ?_; rintro e w2 ⟨rfl, rfl⟩))
          go_ret
          exact ⟨rfl, Fr.refl _ _⟩
        · rw [decide_eq_false c2] at heq
          clear hx3 c2 hodd hc1
          go_enter Tryz.func46, Tryz.ntmps46
          go_wp2_with (first | (go_at_call 91; refine (CF.out _).mono ?_; rintro e w2 ⟨rfl, rfl⟩) | (go_at_call 90; refine (CI.out _).mono ?_; rintro e w2 ⟨rfl, rfl⟩) | (go_at_call 100; refine (CM.out _).mono ?_; rintro e w2 ⟨rfl, rfl⟩) | (go_at_call 35; refine (CC.out _).mono ?_; rintro e w2 ⟨rfl, rfl⟩))
          go_ret
          exact ⟨rfl, Fr.refl _ _⟩
end Go.Proofs.YtjdanblijcdllaaGreatDoor
namespace Go.Proofs.YtjdanblijcdllaaGreatDoor.floRounds
open Go.ChangeShapes Go.WideShapes Go.RowKit Go.Proofs.YtjdanblijcdllaaGreatDoor
theorem wf_u64 {z : Int} (h : (Lit.int .u64 z).wf = true) : ∃ k : Nat, z = k ∧ k < 18446744073709551616 := by
  simp [Lit.wf, IntKind.min, IntKind.max, IntKind.bits, IntKind.signed] at h
  exact ⟨z.toNat, by omega, by omega⟩
set_option maxRecDepth 20000 in
theorem walk (z0 : Int) (W : World) (h0 : (Lit.int .u64 z0).wf = true) (hL : laidMet Tryz.prog listedF W) :
    Calls Tryz.prog 10 #[.int .u64 z0] W fun e W' => e = .returned (.bool true) ∧ Below W.heap.size W W' := by
  obtain ⟨x, rfl, hx⟩ := wf_u64 h0
  have HL := Lib.hid (ldF_of hL)
  have HX := Lib.hid hx
  have f1 := fun w => from_run x w
  have C3 : Hid (∀ w, Calls Tryz.prog 46 #[.float .f64 x] w fun e w' => e = .returned (.float .f64 (rndW x)) ∧ Fr [] w w') := Lib.hid (fun w => r3round_c x HX.out w)
  have C2 : Hid (∀ w, Calls Tryz.prog 45 #[.float .f64 x] w fun e w' => ∃ r, e = .returned (.float .f64 r) ∧ r < 18446744073709551616 ∧ bitsC r = bitsC (rndW x) ∧ Fr [] w w') := Lib.hid (fun w => flround_c x HX.out w)
  have HR := Lib.hid (rndW_lt hx)
  obtain ⟨y, hy⟩ : ∃ y, y = rndW x := ⟨_, rfl⟩
  rw [← hy] at C3 C2 HR
  clear h0 hL hx hy
  go_enter Tryz.func10, Tryz.ntmps10
  go_wp2_with fail
  refine (floAlive_c W HL.out).mono ?_
  rintro e w1 ⟨rfl, F1⟩
  have F1 := Lib.hid F1
  go_wp2_with fail
  refine (C2.out _).mono ?_
  rintro e w2 ⟨r, rfl, hr, hbc, F2⟩
  have HB := Lib.hid hbc
  have HRL := Lib.hid hr
  have F2 := Lib.hid (F1.out.same F2)
  clear F1 hr hbc
  go_wp2_with fail
  refine (C3.out _).mono ?_
  rintro e w3 ⟨rfl, F3⟩
  have F3 := Lib.hid (F2.out.same F3)
  clear F2
  have CS : Hid (∀ w, Calls Tryz.prog 33 #[.float .f64 r, .float .f64 y] w fun e w' => e = .returned (.bool true) ∧ Fr [] w w') := Lib.hid (fun w => by
    have := r3same_c r y HRL.out HR.out w
    rw [decide_eq_true HB.out] at this
    exact this)
  go_wp2_with fail
  refine (CS.out _).mono ?_
  rintro e w4 ⟨rfl, F4⟩
  have F4 := Lib.hid (F3.out.same F4)
  clear F3
  go_wp2_with fail
  go_ret
  exact ⟨rfl, F4.out.below⟩
set_option maxRecDepth 100000 in
theorem lifted (os : Os) (started : os.Started) (H : Type) (enc : TypeId × Value → H) :
    ReturnsInHanded {} Tryz.checked os 10 .any (fun w args => (Rows.floRoundsSpec.pre enc Tryz.prog Tryz.f10 [] false w args ∧ laidMetH Tryz.prog listedF w) ∧ sizedMet enc Tryz.prog Tryz.f10 (OpenSpec.ofChange Rows.floRoundsSpec) false w args) (Rows.floRoundsSpec.post enc Tryz.prog Tryz.f10 false true false false) := by
  refine returnsInHanded_of_change_and (C := Tryz.checked) (X := fun w _ => laidMetH Tryz.prog listedF w) (fun _ _ _ hh h => h.of_heap hh) own started (by kernel_rfl) Tryz.func10
    (ChangeSpec.witness_shaped (enc := enc) (C := Tryz.checked) (os := os) (X := fun w _ => laidMetH Tryz.prog listedF w) false (World.laidAll Tryz.prog os listedF) #[.int .u64 0] 8 (World.laidAll_os _ _ _) (World.shaped_of_ZipB (by kernel_rfl) (by kernel_rfl)) (by kernel_rfl) (by kernel_rfl) (by kernel_rfl) (by rw [MakeChecks.laidMetH_plain _ _ _ (by kernel_rfl)]; exact listedF_met os _)) ?_
  intro W base args ds gs before hval0 hW _ _ hL _
  rw [MakeChecks.laidMetH_plain _ _ _ (by kernel_rfl)] at hL
  have hT := hL
  have hval : ∀ (j : Nat) t v, Tryz.f10.params[j]? = some t → args[j]? = some v → Value.okWide Tryz.prog W .any base t v := hval0
  have hW' := hW
  obtain ⟨p, q, hA0, hV, rfl, hfz, hnd⟩ := hW
  have hA : DataW.TrodAll enc Tryz.prog W 0 (fun _ => true) true Tryz.f10.params.toList args.toList ds p := hA0
  rw [Tryz.params10] at hA hval
  obtain ⟨v0, vs0, d0, ds0, p0, q0, hargs, rfl, rfl, h0, r0⟩ := trodAll_cons hA
  obtain ⟨rfl, rfl, rfl⟩ := trodAll_nil r0
  obtain rfl : args = #[v0] := by cases args; simp_all
  obtain ⟨rfl, rfl⟩ := trodVars_none hV
  obtain ⟨a0, rfl, rfl, rfl, w0⟩ := open_int Tryz.underlying46 (hval 0 46 v0 rfl rfl) h0
  clear hA0 hval0
  refine (walk a0 W w0 hT).mono fun e W' ⟨he, bel⟩ => ?_
  subst he
  exact ⟨_, rfl, _, _, _, [], _, [], hW', trodAll_mk1 (shut_bool Tryz.underlying4 _), (trodAll_cons_mk (shut_int Tryz.underlying46 w0) trodAll_mk0), rfl, bel.frame _, fun h => by cases h⟩
theorem fi : Tryz.prog.inPlace 10 = Rows.floRoundsRow.inPlace := by kernel_rfl
theorem fu : Tryz.prog.unfollowed 10 = Rows.floRoundsRow.unfollowed := by kernel_rfl
theorem fv : Tryz.prog.varsNamed 10 = Rows.floRoundsRow.named := by kernel_rfl
theorem over : Rows.floRoundsRow.holds Tryz.pinned (OpenSpec.ofChange Rows.floRoundsSpec) :=
  OpenClaim.holds_of_wide 10 Tryz.f10 rfl rfl rfl rfl rfl rfl rfl ⟨rfl, rfl, rfl, rfl, rfl⟩ rfl rfl rfl rfl rfl (by kernel_rfl) Tryz.func10 (by unfold joinedFacts; rw [show Tryz.pinned.checked.prog.recurses 10 = false from norec_FloRounds, show Tryz.pinned.checked.prog.inPlace 10 = Rows.floRoundsRow.inPlace from fi, show Tryz.pinned.checked.prog.unfollowed 10 = Rows.floRoundsRow.unfollowed from fu, show Tryz.pinned.checked.prog.varsNamed 10 = Rows.floRoundsRow.named from fv]; kernel_rfl)
    (of_decide_eq_true (by kernel_rfl)) (by unfold Func.isWrapper; first | (rw [if_pos (by decide +kernel)]; kernel_rfl) | (rw [if_neg (by decide +kernel)]; exact ⟨rfl, rfl⟩))
    (fun os started H enc _ => lifted os started H enc)
/-- THE STATEMENT -/
theorem proved : Rows.FloRoundsCardSaid :=
  Claim7.holds_tied_plain_at .later [] [.data, .data, .widerDeep, .widerDeep, .data, .data, .data, .data, .data, .sentinel, .sentinel, .pinned, .pinned] true (true, "1d6fd9ead80604889e6942dfba794aba432fb978ea210d34680d91fbcb61fb16") true
    over (fun _ h => by cases h) (by kernel_rfl) (fun _ h => by cases h) floRounds_row_tie rfl ⟨rfl, rfl⟩ (by kernel_rfl) rfl
    (fun f fn hf hfn => by
      obtain rfl : f = 10 := Option.some.inj ((show Tryz.prog.funcNamed "distaff/distafflaw03.FloRounds" = some 10 by kernel_rfl).symm.trans hf) |>.symm
      obtain rfl : fn = Tryz.f10 := (Option.some.inj (Tryz.func10.symm.trans hfn)).symm
      exact ⟨by kernel_rfl, fun j t ht => by
        rw [Tryz.params10] at ht
        have hm : t ∈ [46] := by simpa using Array.mem_of_getElem? ht
        have hall : ([46].all fun u => !Tryz.prog.wantsStandIn u) = true := by kernel_rfl
        exact (show Tryz.prog.wantsStandIn t = false by simpa using List.all_eq_true.1 hall t hm)⟩)
    (by kernel_rfl)
#print axioms proved
end Go.Proofs.YtjdanblijcdllaaGreatDoor.floRounds
