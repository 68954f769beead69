/- The texts and numbers of numbers: a part of the walk. No condition. -/
import Derived.Test.YtcjkgnafpkkjmaaGreatDoorQk31
set_option linter.all false
namespace Go.Proofs.YtcjkgnafpkkjmaaGreatDoor
section
open Go.ChangeShapes Go.WideShapes Go.RowKit Go.Shelf
theorem bit52 (m : Nat) : m &&& 4503599627370496 = m / 4503599627370496 % 2 * 4503599627370496 := by
  have e : (4503599627370496 : Nat) = 2 ^ 52 := by decide
  rw [e]
  apply Nat.eq_of_testBit_eq
  intro i
  rw [Nat.testBit_and, Nat.testBit_two_pow, Nat.testBit_mul_two_pow]
  by_cases h : 52 = i
  · subst h
    simp [Nat.testBit_eq_decide_div_mod_eq]
  · simp only [h, decide_false, Bool.and_false]
    by_cases h2 : 52 ≤ i
    · have h3 : 1 ≤ i - 52 := by omega
      have : m / 2 ^ 52 % 2 < 2 ^ (i - 52) := Nat.lt_of_lt_of_le (Nat.mod_lt _ (by decide)) (Nat.le_trans (show 2 ≤ 2 ^ 1 by decide) (Nat.pow_le_pow_right (by decide) h3))
      rw [Nat.testBit_lt_two_pow this]; simp
    · simp [h2]
theorem and_bit52_no (m : Nat) (hm : m < 18446744073709551616) (h : m / 4503599627370496 % 2 = 0) : bits BinOp.and IntKind.u64 (m : Int) 4503599627370496 = 0 := by
  rw [show (4503599627370496 : Int) = ((4503599627370496 : Nat) : Int) from rfl, bits_and_u64_nat _ _ hm (by decide), bit52, h]
  try rfl
theorem and_bit52_yes (m : Nat) (hm : m < 18446744073709551616) (h : ¬ m / 4503599627370496 % 2 = 0) : bits BinOp.and IntKind.u64 (m : Int) 4503599627370496 = 4503599627370496 := by
  rw [show (4503599627370496 : Int) = ((4503599627370496 : Nat) : Int) from rfl, bits_and_u64_nat _ _ hm (by decide), bit52, show m / 4503599627370496 % 2 = 1 by omega]
  try rfl
set_option maxRecDepth 100000 in
set_option maxHeartbeats 4000000 in
theorem fb_main (w : World) (k : Nat) (x : Dg.Sd) (ng : Bool) (hG : Dg.Gs x) (h3 : -330 ≤ x.dp) (h4 : x.dp ≤ 310) (hZ : LdZ w k) (h : Ds w k x ng) : Calls Tryz.prog 181 #[.pointer (some ⟨k, 0, none⟩), .pointer (some ⟨6, 0, none⟩)] w fun e w' => e = .returned (.tuple #[.int .u64 (Dg.oB (Dg.fbN x).1 (Dg.fbN x).2.1 ng : Int), .bool (Dg.fbN x).2.2]) ∧ Fr [k] w w' := by
  obtain ⟨n, hn⟩ : ∃ n, n = x.ds.length := ⟨_, rfl⟩
  have c0 : w.cell? ⟨k, 800, none⟩ = some (.int .i64 (n : Int)) := by rw [hn]; exact h.cells.2.1
  have c1 : w.cell? ⟨k, 801, none⟩ = some (.int .i64 x.dp) := h.cells.2.2.1
  have c2 : w.cell? ⟨k, 802, none⟩ = some (.bool ng) := h.cells.2.2.2.1
  have kl := h.cells.2.2.2.2.2.1
  obtain ⟨i0, i1, i2⟩ := hZ.info
  have n0 : ((n : Int) == 0) = false := by rw [beq_eq_false_iff_ne]; have := hG.pos; omega
  have g3 : ¬ x.dp < -330 := by omega
  have g4 : ¬ 310 < x.dp := by omega
  have HG := Lib.hid hG
  have HZ := Lib.hid hZ
  have HD := Lib.hid h
  have HM0 : Hid ((0 : Int) + 27 * (Dg.m1 x : Int) ≤ 16800) := Lib.hid (by
    unfold Dg.m1
    split <;> omega)
  have HN : Hid (Dg.fbN x = Dg.fbD (Dg.fbQ x).1 ((Dg.fbQ x).2 - 1)) := Lib.hid (by
    unfold Dg.fbN
    rw [if_neg (by have := hG.pos; omega), if_neg g4, if_neg g3])
  clear hG hZ h hn
  go_enter Tryz.func181, Tryz.ntmps181
  go_wp2_with fail
  refine wp_scope_two 0 1 rfl rfl ?_
  go_upto_block 0 with fail
  go_cut [6] from 35 to 60 (fun s6 wx => s6 = .int .i64 (Dg.fbP x).2 ∧ Hid (Ds wx k (Dg.fbP x).1 ng) ∧ Hid (Dg.Gs (Dg.fbP x).1 ∧ (Dg.fbP x).1.dp ≤ 0 ∧ -17200 ≤ (Dg.fbP x).1.dp ∧ 0 ≤ (Dg.fbP x).2 ∧ (Dg.fbP x).2 ≤ 16800) ∧ Hid (Fr [k] w wx))
  case first =>
    go_wp2_with fail
    go_loopg [6] (Dg.m1 x) (fun f s6 wr => ∃ (y : Dg.Sd) (e : Int), s6 = .int .i64 e ∧ Dg.m1 y ≤ f ∧ Hid (Dg.Gs y) ∧ 0 ≤ e ∧ Hid (e + 27 * (Dg.m1 y : Int) ≤ 16800) ∧ Hid (-330 - e ≤ y.dp ∧ y.dp ≤ 310) ∧ Hid (Dg.fb1 f y e = Dg.fbP x) ∧ Hid (Ds wr k y ng) ∧ Hid (Fr [k] w wr))
    case atStart => exact ⟨x, 0, rfl, Nat.le_refl _, HG, Int.le_refl _, HM0, Lib.hid (by omega), Lib.hid rfl, HD, Lib.hid (Fr.refl _ _)⟩
    case round =>
      clear c0 c1 c2
      obtain ⟨y, e, rfl, hmf, HGy, he0, HEm, HYd, HFB, HDy, HF⟩ := hrel
      have c1 : wr.cell? ⟨k, 801, none⟩ = some (.int .i64 y.dp) := HDy.out.cells.2.2.1
      have kl := HDy.out.cells.2.2.2.2.2.1
      have HZr : LdZ wr k := HZ.out.fr HF.out
      obtain ⟨pb, po, pc, pn, p1, p2⟩ := HZr.pow
      obtain ⟨d, hd⟩ : ∃ d, d = y.dp := ⟨_, rfl⟩
      have HDD := Lib.hid hd
      rw [← hd] at c1
      by_cases h0 : 0 < d
      · obtain ⟨j, hj⟩ : ∃ j : Nat, d = (j : Int) := ⟨d.toNat, by omega⟩
        have hpw := Dg.pw_b j
        have hless := Dg.m1_less HGy.out (by rw [← hd]; exact h0) (n := Dg.pw j) (by omega) (by omega)
        have hok := Dg.rsS_ok HGy.out (k := Dg.pw j) (by omega)
        have hYd := HYd.out
        have hEm := HEm.out
        obtain ⟨f', hf'⟩ : ∃ f', gk = f' + 1 := ⟨gk - 1, by omega⟩
        have HFB2 : Hid (Dg.fb1 f' (Dg.rsS (Dg.pw j) y) (e + (Dg.pw j : Int)) = Dg.fbP x) := Lib.hid (by
          rw [← HFB.out, hf', Dg.fb1_step (by rw [← hd]; exact h0), ← hd, hj, Int.toNat_natCast])
        have HGK : Hid (gk = f' + 1) := Lib.hid hf'
        obtain ⟨q, hq⟩ : ∃ q, q = Dg.pw j := ⟨_, rfl⟩
        rw [← hq] at hpw hless hok HFB2
        obtain ⟨z, hz⟩ : ∃ z, z = Dg.rsS q y := ⟨_, rfl⟩
        have CS := Lib.hid (fun (w1 : World) (hF : Fr [] wr w1) => shr_c w1 k y ng q HGy.out (by omega) (by omega) (by omega) (by omega) (HDy.out.fr hF))
        rw [Dg.shR_small (by omega) (by omega), ← hz] at CS
        rw [← hz] at hless hok HFB2
        have R1 : Hid (Dg.m1 z ≤ f') := Lib.hid (by omega)
        have R2 : Hid (Dg.Gs z) := Lib.hid hok.1
        have R3 : Hid (e + (q : Int) + 27 * (Dg.m1 z : Int) ≤ 16800) := Lib.hid (by omega)
        have R4 : Hid (-330 - (e + (q : Int)) ≤ z.dp ∧ z.dp ≤ 310) := Lib.hid (by omega)
        have eb : e ≤ 16800 := by omega
        have qb : 1 ≤ q ∧ q ≤ 27 := by omega
        have jb : j ≤ 310 := by omega
        have j0 : 0 < j := by omega
        rw [hj] at c1
        clear HFB HYd HEm hmf hless hok hYd hEm hpw hz
        by_cases h9 : 9 ≤ j
        · have hq27 : q = 27 := by rw [hq]; unfold Dg.pw; rw [if_pos h9]
          have H27 : Hid (q = 27) := Lib.hid hq27
          have CS2 : Hid (∀ w1 : World, Fr [] wr w1 → Calls Tryz.prog 149 #[.pointer (some ⟨k, 0, none⟩), .int .i64 (-27)] w1 fun e w' => e = .returned (.tuple #[]) ∧ Ds w' k z ng ∧ Fr [k] w1 w') := Lib.hid (by
            have := CS.out
            rw [hq27] at this
            exact this)
          have g9 : (9 : Int) ≤ (j : Int) := by omega
          clear CS hq hq27 p2 hf' h0 hj hd
          go_wp2_with fail
          go_quiet (fail)
          go_wp2_with fail
          refine (CS2.out _ (by repeat (first | exact Fr.refl _ _ | apply Fr.drewN | apply Fr.drew))).mono ?_
          rintro e9 w2 ⟨rfl, D2, F2⟩
          have D2 := Lib.hid D2
          have F2 := Lib.hid F2
          go_wp2_with fail
          go_roundg f'
          case measure => have := HGK.out; omega
          case rel => exact ⟨z, e + (q : Int), congrArg (Value.int .i64) (by have := H27.out; omega), R1.out, R2, by omega, R3, R4, HFB2, D2, Lib.hid (HF.out.same (Fr.same (by repeat (first | exact Fr.refl _ _ | apply Fr.drewN | apply Fr.drew)) F2.out))⟩
        · have hqt : q = powtabN.getD j 0 := by rw [hq]; unfold Dg.pw; rw [if_neg h9]
          have ct := p2 j (by omega)
          rw [← hqt] at ct
          have g9 : ¬ (9 : Int) ≤ (j : Int) := by omega
          have g9b : (j : Int) < 9 := by omega
          have jn : (0 : Int) ≤ (j : Int) := by omega
          clear hq hqt p2 hf' h0 hj hd h9
          go_wp2_with fail
          go_quiet (fail)
          go_wp2_with fail
          go_quiet (fail)
          go_wp2_with fail
          refine (CS.out _ (by repeat (first | exact Fr.refl _ _ | apply Fr.drewN | apply Fr.drew))).mono ?_
          rintro e9 w2 ⟨rfl, D2, F2⟩
          have D2 := Lib.hid D2
          have F2 := Lib.hid F2
          go_wp2_with fail
          go_roundg f'
          case measure => have := HGK.out; omega
          case rel => exact ⟨z, e + (q : Int), rfl, R1.out, R2, by omega, R3, R4, HFB2, D2, Lib.hid (HF.out.same (Fr.same (by repeat (first | exact Fr.refl _ _ | apply Fr.drewN | apply Fr.drew)) F2.out))⟩
      · have hE : Hid ((y, e) = Dg.fbP x) := Lib.hid (by rw [← HFB.out, Dg.fb1_end (by rw [← hd]; exact h0)])
        have hYd := HYd.out
        have hEm := HEm.out
        have HB : Hid (Dg.Gs (Dg.fbP x).1 ∧ (Dg.fbP x).1.dp ≤ 0 ∧ -17200 ≤ (Dg.fbP x).1.dp ∧ 0 ≤ (Dg.fbP x).2 ∧ (Dg.fbP x).2 ≤ 16800) := Lib.hid (by
          rw [← hE.out]
          show Dg.Gs y ∧ y.dp ≤ 0 ∧ -17200 ≤ y.dp ∧ 0 ≤ e ∧ e ≤ 16800
          exact ⟨HGy.out, by omega, by omega, by omega, by omega⟩)
        clear hYd hEm HYd HEm p2 hd
        go_wp2_with fail
        go_meet
        exact ⟨by rw [← hE.out], by rw [← hE.out]; exact HDy, HB, HF⟩
  case rest =>
    obtain ⟨rfl, D1, HB, F1⟩ := hcut
    clear c0 c1 c2 n0 g3 g4 kl i0 i1 i2 HM0 HG HD
    have HM2 : Hid (-4650000 ≤ (Dg.fbP x).2 - 27 * (Dg.m2 (Dg.fbP x).1 : Int)) := Lib.hid (by
      have := HB.out
      unfold Dg.m2
      omega)
    go_upto_block 2 with fail
    go_cut [6] from 61 to 102 (fun s6 wx => s6 = .int .i64 (Dg.fbQ x).2 ∧ Hid (Ds wx k (Dg.fbQ x).1 ng) ∧ Hid (Dg.Gs (Dg.fbQ x).1 ∧ -17200 ≤ (Dg.fbQ x).1.dp ∧ (Dg.fbQ x).1.dp ≤ 5000000 ∧ -4650000 ≤ (Dg.fbQ x).2 ∧ (Dg.fbQ x).2 ≤ 16800) ∧ Hid (Fr [k] w wx))
    case first =>
      go_wp2_with fail
      go_loopg [6] (Dg.m2 (Dg.fbP x).1) (fun f s6 wr => ∃ (y : Dg.Sd) (e : Int), s6 = .int .i64 e ∧ Dg.m2 y ≤ f ∧ Hid (Dg.Gs y) ∧ e ≤ 16800 ∧ Hid (-4650000 ≤ e - 27 * (Dg.m2 y : Int)) ∧ Hid (-17200 ≤ y.dp ∧ y.dp ≤ 16800 - e) ∧ Hid (Dg.fb2 f y e = Dg.fbQ x) ∧ Hid (Ds wr k y ng) ∧ Hid (Fr [k] w wr))
      case atStart => exact ⟨(Dg.fbP x).1, (Dg.fbP x).2, rfl, Nat.le_refl _, Lib.hid HB.out.1, HB.out.2.2.2.2, HM2, Lib.hid (by have := HB.out; omega), Lib.hid rfl, D1, F1⟩
      case round =>
        clear D1 F1 HM2
        obtain ⟨y, e, rfl, hmf, HGy, he0, HEm, HYd, HFB, HDy, HF⟩ := hrel
        have c1 : wr.cell? ⟨k, 801, none⟩ = some (.int .i64 y.dp) := HDy.out.cells.2.2.1
        have kl := HDy.out.cells.2.2.2.2.2.1
        have HZr : LdZ wr k := HZ.out.fr HF.out
        obtain ⟨pb, po, pc, pn, p1, p2⟩ := HZr.pow
        have hYd := HYd.out
        have hEm := HEm.out
        have cd0 : wr.cell? ⟨k, 0, none⟩ = some (.int .u8 ((Dg.dz y.ds 0 + 48 : Nat) : Int)) := by
          rw [HDy.out.cells.1 0 HGy.out.pos, Dg.dz_in HGy.out.gd.dg HGy.out.pos]
        have dz9 := Dg.dz_le HGy.out.gd.dg 0
        obtain ⟨d, hd⟩ : ∃ d, d = y.dp := ⟨_, rfl⟩
        have HDD := Lib.hid hd
        rw [← hd] at c1
        by_cases hneg : d < 0
        · obtain ⟨j, hj⟩ : ∃ j : Nat, d = -(j : Int) := ⟨(-d).toNat, by omega⟩
          have hcond : d < 0 ∨ (d = 0 ∧ Dg.dz y.ds 0 < 5) := .inl hneg
          have hpw := Dg.pw_b j
          have hless := Dg.m2_less HGy.out (by rw [← hd]; omega) (n := Dg.pw j) (by omega) (by omega)
          have hok := Dg.lsS_ok HGy.out (k := Dg.pw j) (by omega) (by omega)
          obtain ⟨f', hf'⟩ : ∃ f', gk = f' + 1 := ⟨gk - 1, by omega⟩
          have HFB2 : Hid (Dg.fb2 f' (Dg.lsS (Dg.pw j) y) (e - (Dg.pw j : Int)) = Dg.fbQ x) := Lib.hid (by
            rw [← HFB.out, hf', Dg.fb2_step (by rw [← hd]; exact hcond), ← hd, hj, Int.neg_neg, Int.toNat_natCast])
          have HGK : Hid (gk = f' + 1) := Lib.hid hf'
          obtain ⟨q, hq⟩ : ∃ q, q = Dg.pw j := ⟨_, rfl⟩
          rw [← hq] at hpw hless hok HFB2
          obtain ⟨z, hz⟩ : ∃ z, z = Dg.lsS q y := ⟨_, rfl⟩
          have CS := Lib.hid (fun (w1 : World) (hF : Fr [] wr w1) => shl_c w1 k y ng q HGy.out (by omega) (by omega) (by omega) (by omega) (HZr.fr (hF.mono (by simp))) (HDy.out.fr hF))
          rw [Dg.shL_small (by omega) (by omega), ← hz] at CS
          rw [← hz] at hless hok HFB2
          have R1 : Hid (Dg.m2 z ≤ f') := Lib.hid (by omega)
          have R2 : Hid (Dg.Gs z) := Lib.hid hok.1
          have R3 : Hid (-4650000 ≤ e - (q : Int) - 27 * (Dg.m2 z : Int)) := Lib.hid (by omega)
          have R4 : Hid (-17200 ≤ z.dp ∧ z.dp ≤ 16800 - (e - (q : Int))) := Lib.hid (by omega)
          have eb : -4650000 ≤ e := by omega
          have qb : 1 ≤ q ∧ q ≤ 27 := by omega
          have jb : j ≤ 17200 := by omega
          rw [hj] at c1
          have j0 : 0 < j := by omega
          clear HFB HYd HEm hmf hless hok hYd hEm hpw hz cd0 dz9 hcond HZr
          by_cases h9 : 9 ≤ j
          · have hq27 : q = 27 := by rw [hq]; unfold Dg.pw; rw [if_pos h9]
            have H27 : Hid (q = 27) := Lib.hid hq27
            have CS2 : Hid (∀ w1 : World, Fr [] wr w1 → Calls Tryz.prog 149 #[.pointer (some ⟨k, 0, none⟩), .int .i64 27] w1 fun e w' => e = .returned (.tuple #[]) ∧ Ds w' k z ng ∧ Fr [k] w1 w') := Lib.hid (by
              have := CS.out
              rw [hq27] at this
              exact this)
            have g9 : (9 : Int) ≤ (j : Int) := by omega
            clear CS hq hq27 p2 hf' hneg hj hd
            go_wp2_with fail
            go_quiet (fail)
            go_wp2_with fail
            refine (CS2.out _ (by repeat (first | exact Fr.refl _ _ | apply Fr.drewN | apply Fr.drew))).mono ?_
            rintro e9 w2 ⟨rfl, D2, F2⟩
            have D2 := Lib.hid D2
            have F2 := Lib.hid F2
            go_wp2_with fail
            go_roundg f'
            case measure => have := HGK.out; omega
            case rel => exact ⟨z, e - (q : Int), congrArg (Value.int .i64) (by have := H27.out; omega), R1.out, R2, by omega, R3, R4, HFB2, D2, Lib.hid (HF.out.same (Fr.same (by repeat (first | exact Fr.refl _ _ | apply Fr.drewN | apply Fr.drew)) F2.out))⟩
          · have hqt : q = powtabN.getD j 0 := by rw [hq]; unfold Dg.pw; rw [if_neg h9]
            have ct := p2 j (by omega)
            rw [← hqt] at ct
            have g9 : ¬ (9 : Int) ≤ (j : Int) := by omega
            have g9b : (j : Int) < 9 := by omega
            have jn : (0 : Int) ≤ (j : Int) := by omega
            clear hq hqt p2 hf' hneg hj hd h9
            go_wp2_with fail
            go_quiet (fail)
            go_wp2_with fail
            go_quiet (fail)
            go_wp2_with fail
            refine (CS.out _ (by repeat (first | exact Fr.refl _ _ | apply Fr.drewN | apply Fr.drew))).mono ?_
            rintro e9 w2 ⟨rfl, D2, F2⟩
            have D2 := Lib.hid D2
            have F2 := Lib.hid F2
            go_wp2_with fail
            go_roundg f'
            case measure => have := HGK.out; omega
            case rel => exact ⟨z, e - (q : Int), rfl, R1.out, R2, by omega, R3, R4, HFB2, D2, Lib.hid (HF.out.same (Fr.same (by repeat (first | exact Fr.refl _ _ | apply Fr.drewN | apply Fr.drew)) F2.out))⟩
        · by_cases hz0 : d = 0
          · by_cases h5 : Dg.dz y.ds 0 < 5
            · have hcond : d < 0 ∨ (d = 0 ∧ Dg.dz y.ds 0 < 5) := .inr ⟨hz0, h5⟩
              obtain ⟨j, hj0⟩ : ∃ j : Nat, j = 0 := ⟨0, rfl⟩
              have hj : d = -(j : Int) := by omega
              have hpw := Dg.pw_b j
              have hless := Dg.m2_less HGy.out (by rw [← hd]; omega) (n := Dg.pw j) (by omega) (by omega)
              have hok := Dg.lsS_ok HGy.out (k := Dg.pw j) (by omega) (by omega)
              obtain ⟨f', hf'⟩ : ∃ f', gk = f' + 1 := ⟨gk - 1, by omega⟩
              have HFB2 : Hid (Dg.fb2 f' (Dg.lsS (Dg.pw j) y) (e - (Dg.pw j : Int)) = Dg.fbQ x) := Lib.hid (by
                rw [← HFB.out, hf', Dg.fb2_step (by rw [← hd]; exact hcond), ← hd, hj, Int.neg_neg, Int.toNat_natCast])
              have HGK : Hid (gk = f' + 1) := Lib.hid hf'
              obtain ⟨q, hq⟩ : ∃ q, q = Dg.pw j := ⟨_, rfl⟩
              rw [← hq] at hpw hless hok HFB2
              obtain ⟨z, hz⟩ : ∃ z, z = Dg.lsS q y := ⟨_, rfl⟩
              have CS := Lib.hid (fun (w1 : World) (hF : Fr [] wr w1) => shl_c w1 k y ng q HGy.out (by omega) (by omega) (by omega) (by omega) (HZr.fr (hF.mono (by simp))) (HDy.out.fr hF))
              rw [Dg.shL_small (by omega) (by omega), ← hz] at CS
              rw [← hz] at hless hok HFB2
              have R1 : Hid (Dg.m2 z ≤ f') := Lib.hid (by omega)
              have R2 : Hid (Dg.Gs z) := Lib.hid hok.1
              have R3 : Hid (-4650000 ≤ e - (q : Int) - 27 * (Dg.m2 z : Int)) := Lib.hid (by omega)
              have R4 : Hid (-17200 ≤ z.dp ∧ z.dp ≤ 16800 - (e - (q : Int))) := Lib.hid (by omega)
              have eb : -4650000 ≤ e := by omega
              have qb : 1 ≤ q ∧ q ≤ 27 := by omega
              have jb : j ≤ 17200 := by omega
              rw [hz0] at c1
              have hq27 : q = 1 := by rw [hq]; rw [hj0]; rfl
              have H1 : Hid (q = 1) := Lib.hid hq27
              have CS2 : Hid (∀ w1 : World, Fr [] wr w1 → Calls Tryz.prog 149 #[.pointer (some ⟨k, 0, none⟩), .int .i64 1] w1 fun e w' => e = .returned (.tuple #[]) ∧ Ds w' k z ng ∧ Fr [k] w1 w') := Lib.hid (by
                have := CS.out
                rw [hq27] at this
                exact this)
              have ct : wr.cell? ⟨pb, po, none⟩ = some (.int .i64 1) := p2 0 (by decide)
              have g5 : ((Dg.dz y.ds 0 : Nat) : Int) + 48 < 53 := by omega
              obtain ⟨c, hc⟩ : ∃ c, c = Dg.dz y.ds 0 := ⟨_, rfl⟩
              rw [← hc] at cd0 g5
              have H27 := H1
              clear CS hq hq27 p2 hf' hneg hj hd hz0 hj0 hcond HFB HYd HEm hmf hless hok hYd hEm hpw hz HZr hc dz9 h5
              go_wp2_with fail
              go_quiet (fail)
              go_wp2_with fail
              go_quiet (fail)
              go_wp2_with fail
              refine (CS2.out _ (by repeat (first | exact Fr.refl _ _ | apply Fr.drewN | apply Fr.drew))).mono ?_
              rintro e9 w2 ⟨rfl, D2, F2⟩
              have D2 := Lib.hid D2
              have F2 := Lib.hid F2
              go_wp2_with fail
              go_roundg f'
              case measure => have := HGK.out; omega
              case rel => exact ⟨z, e - (q : Int), congrArg (Value.int .i64) (by have := H27.out; omega), R1.out, R2, by omega, R3, R4, HFB2, D2, Lib.hid (HF.out.same (Fr.same (by repeat (first | exact Fr.refl _ _ | apply Fr.drewN | apply Fr.drew)) F2.out))⟩
            · have hE : Hid ((y, e) = Dg.fbQ x) := Lib.hid (by rw [← HFB.out, Dg.fb2_end (by rw [← hd]; omega)])
              have HB2 : Hid (Dg.Gs (Dg.fbQ x).1 ∧ -17200 ≤ (Dg.fbQ x).1.dp ∧ (Dg.fbQ x).1.dp ≤ 5000000 ∧ -4650000 ≤ (Dg.fbQ x).2 ∧ (Dg.fbQ x).2 ≤ 16800) := Lib.hid (by
                rw [← hE.out]
                show Dg.Gs y ∧ -17200 ≤ y.dp ∧ y.dp ≤ 5000000 ∧ -4650000 ≤ e ∧ e ≤ 16800
                exact ⟨HGy.out, by omega, by omega, by omega, by omega⟩)
              have g5 : ¬ ((Dg.dz y.ds 0 : Nat) : Int) + 48 < 53 := by omega
              obtain ⟨c, hc⟩ : ∃ c, c = Dg.dz y.ds 0 := ⟨_, rfl⟩
              rw [← hc] at cd0 g5
              rw [hz0] at c1
              clear hYd hEm HYd HEm p2 hd hc h5 hz0 hneg dz9
              go_wp2_with fail
              go_meet
              exact ⟨by rw [← hE.out], by rw [← hE.out]; exact HDy, HB2, HF⟩
          · have hE : Hid ((y, e) = Dg.fbQ x) := Lib.hid (by rw [← HFB.out, Dg.fb2_end (by rw [← hd]; omega)])
            have HB2 : Hid (Dg.Gs (Dg.fbQ x).1 ∧ -17200 ≤ (Dg.fbQ x).1.dp ∧ (Dg.fbQ x).1.dp ≤ 5000000 ∧ -4650000 ≤ (Dg.fbQ x).2 ∧ (Dg.fbQ x).2 ≤ 16800) := Lib.hid (by
              rw [← hE.out]
              show Dg.Gs y ∧ -17200 ≤ y.dp ∧ y.dp ≤ 5000000 ∧ -4650000 ≤ e ∧ e ≤ 16800
              exact ⟨HGy.out, by omega, by omega, by omega, by omega⟩)
            have gz : (d == 0) = false := by rw [beq_eq_false_iff_ne]; exact hz0
            clear hYd hEm HYd HEm p2 hd cd0 dz9 hz0
            go_wp2_with fail
            go_meet
            exact ⟨by rw [← hE.out], by rw [← hE.out]; exact HDy, HB2, HF⟩
    case rest =>
      obtain ⟨rfl, D2, HB2, F2⟩ := hcut
      clear D1 HB F1 HM2
      obtain ⟨y, hy⟩ : ∃ y, y = (Dg.fbQ x).1 := ⟨_, rfl⟩
      obtain ⟨e, he⟩ : ∃ e, e = (Dg.fbQ x).2 := ⟨_, rfl⟩
      rw [← hy] at D2 HB2 HN
      rw [← he] at HB2 HN ⊢
      clear hy he
      obtain ⟨HGy, b1, b2, b3, b4⟩ := HB2.out
      have HGy := Lib.hid HGy
      have HZ2 : Hid (LdZ wc k) := Lib.hid (HZ.out.fr F2.out)
      clear HB2 HZ
      obtain ⟨i0, i1, i2⟩ := HZ2.out.info
      have kl : k < wc.heap.size := D2.out.cells.2.2.2.2.2.1
      obtain ⟨e1, he1⟩ : ∃ e1, e1 = e - 1 := ⟨_, rfl⟩
      have e1e : e - 1 = e1 := he1.symm
      rw [e1e] at HN
      have d1 : -4650001 ≤ e1 := by omega
      have d2 : e1 ≤ 16799 := by omega
      obtain ⟨z, hz⟩ : ∃ z, z = Dg.fbE y e1 := ⟨_, rfl⟩
      obtain ⟨X, hX⟩ : ∃ X : Int, X = max e1 (-1022) := ⟨_, rfl⟩
      have HZE := Lib.hid hz
      have HX := Lib.hid hX
      have hz4 : Hid (Dg.Gs z ∧ -5000000 ≤ z.dp ∧ z.dp ≤ 5000000) := Lib.hid (by
        rw [hz]; unfold Dg.fbE
        split
        · have := Dg.shR_ok (-1022 - e1).toNat (-1022 - e1).toNat y HGy.out (by omega) (by omega)
          exact ⟨this.1, by omega, by omega⟩
        · exact ⟨HGy.out, by omega, by omega⟩)
      have xb1 : -1022 ≤ X := by omega
      have xb2 : X ≤ 16799 := by omega
      clear he1 hz hX
      go_upto_if 111 with fail
      go_cut [6, 111] from 112 to 125 (fun s6 s111 wx => s6 = .int .i64 X ∧ Hid (Ds wx k z ng) ∧ Hid (Fr [k] wc wx))
      case first =>
        by_cases hs : e1 < -1022
        · obtain ⟨K, hK⟩ : ∃ K : Nat, -1022 - e1 = (K : Int) := ⟨(-1022 - e1).toNat, by omega⟩
          have CS := Lib.hid (fun (w1 : World) (hF : Fr [] wc w1) => shr_c w1 k y ng K HGy.out (by omega) (by omega) (by omega) (by omega) (D2.out.fr hF))
          have hzz : Dg.shR K K y = z := by
            rw [HZE.out]; unfold Dg.fbE
            rw [if_pos hs, hK, Int.toNat_natCast]
          rw [hzz] at CS
          have hXX : e1 + (K : Int) = X := by have := HX.out; omega
          have kb : 1 ≤ K ∧ K ≤ 4650000 := by omega
          clear hzz
          go_wp2_with fail
          refine (CS.out _ (by repeat (first | exact Fr.refl _ _ | apply Fr.drewN | apply Fr.drew))).mono ?_
          rintro e9 w2 ⟨rfl, D3, F3⟩
          have D3 := Lib.hid D3
          have F3 := Lib.hid F3
          go_wp2_with fail
          go_meet
          exact ⟨rfl, D3, F3⟩
        · have hXX : Hid (e1 = X) := Lib.hid (by have := HX.out; omega)
          have hzz : Hid (y = z) := Lib.hid (by rw [HZE.out]; unfold Dg.fbE; rw [if_neg hs])
          go_wp2_with fail
          go_meet
          exact ⟨by rw [hXX.out], by rw [← hzz.out]; exact D2, Lib.hid (Fr.refl _ _)⟩
      case rest =>
        obtain ⟨rfl, D3, F3⟩ := hcut
        have HZ3 : Hid (LdZ wc k) := Lib.hid (HZ2.out.fr F3.out)
        have c2 : wc.cell? ⟨k, 802, none⟩ = some (.bool ng) := D3.out.cells.2.2.2.1
        have kl : k < wc.heap.size := D3.out.cells.2.2.2.2.2.1
        have FF := Lib.hid (F2.out.same F3.out)
        clear i0 i1 i2 HZ2 D2 F2 F3 HGy e1e d1 d2 b1 b2 b3 b4
        obtain ⟨i0, i1, i2⟩ := HZ3.out.info
        obtain ⟨y4, hy4⟩ : ∃ y4, y4 = Dg.shL 53 53 z := ⟨_, rfl⟩
        obtain ⟨m, hm⟩ : ∃ m, m = riN y4.ds y4.dp y4.tr := ⟨_, rfl⟩
        have HDD : Hid (Dg.fbN x = if 1024 ≤ X then (0, 2047, true) else if m = 9007199254740992 then (if 1024 ≤ X + 1 then (0, 2047, true) else (4503599627370496, (X + 1024).toNat, false)) else if m / 4503599627370496 % 2 = 0 then (m, 0, false) else (m, (X + 1023).toNat, false)) := Lib.hid (by
          rw [HN.out]; unfold Dg.fbD; rw [← HZE.out, ← HX.out, ← hy4, ← hm])
        have mlt : m < 18446744073709551616 := by rw [hm]; exact riN_lt _ _ _
        have CS := Lib.hid (fun (w1 : World) (hF : Fr [] wc w1) => shl_c w1 k z ng 53 hz4.out.1 (by decide) (by decide) (by have := hz4.out; omega) (by have := hz4.out; omega) (HZ3.out.fr (hF.mono (by simp))) (D3.out.fr hF))
        rw [← hy4] at CS
        have h4ok := Dg.shL_ok 53 53 z hz4.out.1 (by decide) (by decide)
        rw [← hy4] at h4ok
        have CR := Lib.hid (fun (w1 : World) (hD : Ds w1 k y4 ng) => rint_c w1 k y4.ds y4.dp ng y4.tr hD h4ok.1.gd.dg (by have := hz4.out; omega) (by have := hz4.out; omega))
        rw [← hm] at CR
        clear h4ok hy4 hm hz4 HX HN HZE
        by_cases hov : 1024 ≤ X
        · have HRR : Hid (Dg.fbN x = (0, 2047, true)) := Lib.hid (by rw [HDD.out, if_pos hov])
          obtain ⟨E, hE⟩ : ∃ E, E = 2047 := ⟨_, rfl⟩
          obtain ⟨A, B, C, D, e1, eE, e2, e3, e4, HR⟩ := out_facts 0 E (by omega)
          have e1 : bits BinOp.and IntKind.u64 0 4503599627370495 = (A : Int) := e1
          have e0 : bits BinOp.and IntKind.i64 2047 2047 = (E : Int) := by rw [hE]; exact and_2047 2047 (by decide)
          have HR : Hid (Dg.oB 0 2047 ng = if ng then D else C) := Lib.hid (by rw [← HR ng, hE])
          have g1 : (2047 : Int) ≤ X + 1023 := by omega
          have g2 : (2047 : Int) ≤ X - -1023 := by omega
          have HR2 : Hid (Dg.oB (Dg.fbN x).1 (Dg.fbN x).2.1 ng = (if ng then D else C) ∧ (Dg.fbN x).2.2 = true) := Lib.hid (by rw [HRR.out]; exact ⟨HR.out, rfl⟩)
          clear HR HRR
          have HR := HR2
          clear hE HDD CS CR mlt
          go_wp2_with fail
          go_quiet (fail)
          go_wp2_with fail
          go_step3
          refine then_goto ?_
          refine exitAt_here (l := 1) ?_
          go_wp2_with fail
          go_quiet (fail)
          go_wp2_with fail
          go_step3
          go_wp2_with fail
          go_quiet (fail)
          cases ng
          · go_wp2_with fail
            rw [exitAt_ret, Exit.noGoto_ret]
            go_ret2
            rw [HR.out.1, HR.out.2]
            exact ⟨rfl, Fr.same (FF.out) (by repeat (first | exact Fr.refl _ _ | apply Fr.drewN | apply Fr.drew))⟩
          · go_wp2_with fail
            go_quiet (fail)
            go_wp2_with fail
            rw [exitAt_ret, Exit.noGoto_ret]
            go_ret2
            rw [HR.out.1, HR.out.2]
            exact ⟨rfl, Fr.same (FF.out) (by repeat (first | exact Fr.refl _ _ | apply Fr.drewN | apply Fr.drew))⟩
        · have g1 : ¬ (2047 : Int) ≤ X + 1023 := by omega
          have g2 : ¬ (2047 : Int) ≤ X - -1023 := by omega
          go_wp2_with fail
          go_quiet (fail)
          go_wp2_with fail
          refine (CS.out _ (by repeat (first | exact Fr.refl _ _ | apply Fr.drewN | apply Fr.drew))).mono ?_
          rintro e9 w4 ⟨rfl, D4, F4⟩
          have D4 := Lib.hid D4
          have c2 : w4.cell? ⟨k, 802, none⟩ = some (.bool ng) := D4.out.cells.2.2.2.1
          have kl4 : k < w4.heap.size := D4.out.cells.2.2.2.2.2.1
          have FF4 := Lib.hid (FF.out.same (Fr.same (by repeat (first | exact Fr.refl _ _ | apply Fr.drewN | apply Fr.drew)) F4))
          have HZ4 : Hid (LdZ w4 k) := Lib.hid (HZ3.out.fr (Fr.same (by repeat (first | exact Fr.refl _ _ | apply Fr.drewN | apply Fr.drew)) F4))
          clear F4 i0 i1 i2 HZ3 D3 CS FF g1 g2
          go_wp2_with fail
          refine (CR.out _ (D4.out.fr (by repeat (first | exact Fr.refl _ _ | apply Fr.drewN | apply Fr.drew)))).mono ?_
          rintro e9 w5 ⟨rfl, F5⟩
          have c2 : w5.cell? ⟨k, 802, none⟩ = some (.bool ng) := (D4.out.fr F5).cells.2.2.2.1
          have kl5 : k < w5.heap.size := (D4.out.fr F5).cells.2.2.2.2.2.1
          have HZ5 : LdZ w5 k := HZ4.out.fr (F5.mono (by simp))
          obtain ⟨i0, i1, i2⟩ := HZ5.info
          have FF5 := Lib.hid (FF4.out.same (F5.mono (by simp)))
          clear F5 HZ5 HZ4 CR D4 FF4 kl4
          by_cases hm1 : m = 9007199254740992
          · have hmb : ((m : Int) == 9007199254740992) = true := by simpa using (show (m : Int) = 9007199254740992 by omega)
            have hm2 : (m : Int) / 2 = 4503599627370496 := by omega
            by_cases hov2 : 1024 ≤ X + 1
            · have HRR : Hid (Dg.fbN x = (0, 2047, true)) := Lib.hid (by rw [HDD.out, if_neg (by omega), if_pos hm1, if_pos (by omega)])
              obtain ⟨E, hE⟩ : ∃ E, E = 2047 := ⟨_, rfl⟩
              obtain ⟨A, B, C, D, e1, eE, e2, e3, e4, HR⟩ := out_facts 0 E (by omega)
              have e1 : bits BinOp.and IntKind.u64 0 4503599627370495 = (A : Int) := e1
              have e0 : bits BinOp.and IntKind.i64 2047 2047 = (E : Int) := by rw [hE]; exact and_2047 2047 (by decide)
              have HR : Hid (Dg.oB 0 2047 ng = if ng then D else C) := Lib.hid (by rw [← HR ng, hE])
              have g1 : (2047 : Int) ≤ X + 1 + 1023 := by omega
              have g2 : (2047 : Int) ≤ X + 1 - -1023 := by omega
              have HR2 : Hid (Dg.oB (Dg.fbN x).1 (Dg.fbN x).2.1 ng = (if ng then D else C) ∧ (Dg.fbN x).2.2 = true) := Lib.hid (by rw [HRR.out]; exact ⟨HR.out, rfl⟩)
              clear HR HRR
              have HR := HR2
              clear hE HDD mlt hm1 hov
              go_wp2_with fail
              go_quiet (fail)
              go_wp2_with fail
              go_step3
              refine then_goto ?_
              refine exitAt_here (l := 1) ?_
              go_wp2_with fail
              go_quiet (fail)
              go_wp2_with fail
              go_step3
              go_wp2_with fail
              go_quiet (fail)
              cases ng
              · go_wp2_with fail
                rw [exitAt_ret, Exit.noGoto_ret]
                go_ret2
                rw [HR.out.1, HR.out.2]
                exact ⟨rfl, Fr.same (FF5.out) (by repeat (first | exact Fr.refl _ _ | apply Fr.drewN | apply Fr.drew))⟩
              · go_wp2_with fail
                go_quiet (fail)
                go_wp2_with fail
                rw [exitAt_ret, Exit.noGoto_ret]
                go_ret2
                rw [HR.out.1, HR.out.2]
                exact ⟨rfl, Fr.same (FF5.out) (by repeat (first | exact Fr.refl _ _ | apply Fr.drewN | apply Fr.drew))⟩
            · obtain ⟨E, hE⟩ : ∃ E : Nat, X + 1024 = (E : Int) := ⟨(X + 1024).toNat, by omega⟩
              have HRR : Hid (Dg.fbN x = (4503599627370496, E, false)) := Lib.hid (by rw [HDD.out, if_neg (by omega), if_pos hm1, if_neg (by omega), hE, Int.toNat_natCast])
              obtain ⟨A, B, C, D, e1, eE, e2, e3, e4, HR⟩ := out_facts 4503599627370496 E (by omega)
              have e1 : bits BinOp.and IntKind.u64 4503599627370496 4503599627370495 = (A : Int) := e1
              have e0 := and_2047 E (by omega)
              have HR : Hid (Dg.oB 4503599627370496 E ng = if ng then D else C) := Lib.hid (by rw [← HR ng])
              have g1 : ¬ (2047 : Int) ≤ X + 1 + 1023 := by omega
              have g2 : ¬ (2047 : Int) ≤ X + 1 - -1023 := by omega
              have g3 : X + 1 + 1023 = (E : Int) := by omega
              have g4 : X + 1 - -1023 = (E : Int) := by omega
              have g5 : bits BinOp.and IntKind.u64 4503599627370496 4503599627370496 = 4503599627370496 := by decide
              have HR2 : Hid (Dg.oB (Dg.fbN x).1 (Dg.fbN x).2.1 ng = (if ng then D else C) ∧ (Dg.fbN x).2.2 = false) := Lib.hid (by rw [HRR.out]; exact ⟨HR.out, rfl⟩)
              clear HR HRR
              have HR := HR2
              clear hE HDD mlt hm1 hov hov2
              go_wp2_with fail
              go_quiet (fail)
              go_wp2_with fail
              go_step3
              refine then_goto ?_
              refine exitAt_there (l := 1) (l' := 0) (by decide) ?_
              refine exitAt_here (l := 0) ?_
              go_wp2_with fail
              go_quiet (fail)
              cases ng
              · go_wp2_with fail
                rw [Exit.noGoto_ret]
                go_ret2
                rw [HR.out.1, HR.out.2]
                exact ⟨rfl, Fr.same (FF5.out) (by repeat (first | exact Fr.refl _ _ | apply Fr.drewN | apply Fr.drew))⟩
              · go_wp2_with fail
                go_quiet (fail)
                go_wp2_with fail
                rw [Exit.noGoto_ret]
                go_ret2
                rw [HR.out.1, HR.out.2]
                exact ⟨rfl, Fr.same (FF5.out) (by repeat (first | exact Fr.refl _ _ | apply Fr.drewN | apply Fr.drew))⟩
          · have hmb : ((m : Int) == 9007199254740992) = false := by rw [beq_eq_false_iff_ne]; omega
            by_cases hden : m / 4503599627370496 % 2 = 0
            · have HRR : Hid (Dg.fbN x = (m, 0, false)) := Lib.hid (by rw [HDD.out, if_neg (by omega), if_neg hm1, if_pos hden])
              obtain ⟨E, hE⟩ : ∃ E : Nat, E = 0 := ⟨_, rfl⟩
              obtain ⟨A, B, C, D, e1, eE, e2, e3, e4, HR⟩ := out_facts m E (by omega)
              have e0 : bits BinOp.and IntKind.i64 0 2047 = (E : Int) := by rw [hE]; exact and_2047 0 (by decide)
              have HR : Hid (Dg.oB m 0 ng = if ng then D else C) := Lib.hid (by rw [← HR ng, hE])
              have g5 : bits BinOp.and IntKind.u64 (m : Int) 4503599627370496 = 0 := and_bit52_no m mlt hden
              have HR2 : Hid (Dg.oB (Dg.fbN x).1 (Dg.fbN x).2.1 ng = (if ng then D else C) ∧ (Dg.fbN x).2.2 = false) := Lib.hid (by rw [HRR.out]; exact ⟨HR.out, rfl⟩)
              clear HR HRR
              have HR := HR2
              clear hE HDD mlt hm1 hov hden
              go_wp2_with fail
              go_step3
              refine then_goto ?_
              refine exitAt_there (l := 1) (l' := 0) (by decide) ?_
              refine exitAt_here (l := 0) ?_
              go_wp2_with fail
              go_quiet (fail)
              cases ng
              · go_wp2_with fail
                rw [Exit.noGoto_ret]
                go_ret2
                rw [HR.out.1, HR.out.2]
                exact ⟨rfl, Fr.same (FF5.out) (by repeat (first | exact Fr.refl _ _ | apply Fr.drewN | apply Fr.drew))⟩
              · go_wp2_with fail
                go_quiet (fail)
                go_wp2_with fail
                rw [Exit.noGoto_ret]
                go_ret2
                rw [HR.out.1, HR.out.2]
                exact ⟨rfl, Fr.same (FF5.out) (by repeat (first | exact Fr.refl _ _ | apply Fr.drewN | apply Fr.drew))⟩
            · obtain ⟨E, hE⟩ : ∃ E : Nat, X + 1023 = (E : Int) := ⟨(X + 1023).toNat, by omega⟩
              have HRR : Hid (Dg.fbN x = (m, E, false)) := Lib.hid (by rw [HDD.out, if_neg (by omega), if_neg hm1, if_neg hden, hE, Int.toNat_natCast])
              obtain ⟨A, B, C, D, e1, eE, e2, e3, e4, HR⟩ := out_facts m E (by omega)
              have e0 := and_2047 E (by omega)
              have HR : Hid (Dg.oB m E ng = if ng then D else C) := Lib.hid (by rw [← HR ng])
              have g3 : X + 1023 = (E : Int) := by omega
              have g4 : X - -1023 = (E : Int) := by omega
              have g5 : bits BinOp.and IntKind.u64 (m : Int) 4503599627370496 = 4503599627370496 := and_bit52_yes m mlt hden
              have HR2 : Hid (Dg.oB (Dg.fbN x).1 (Dg.fbN x).2.1 ng = (if ng then D else C) ∧ (Dg.fbN x).2.2 = false) := Lib.hid (by rw [HRR.out]; exact ⟨HR.out, rfl⟩)
              clear HR HRR
              have HR := HR2
              clear hE HDD mlt hm1 hov hden
              go_wp2_with fail
              go_step3
              refine then_goto ?_
              refine exitAt_there (l := 1) (l' := 0) (by decide) ?_
              refine exitAt_here (l := 0) ?_
              go_wp2_with fail
              go_quiet (fail)
              cases ng
              · go_wp2_with fail
                rw [Exit.noGoto_ret]
                go_ret2
                rw [HR.out.1, HR.out.2]
                exact ⟨rfl, Fr.same (FF5.out) (by repeat (first | exact Fr.refl _ _ | apply Fr.drewN | apply Fr.drew))⟩
              · go_wp2_with fail
                go_quiet (fail)
                go_wp2_with fail
                rw [Exit.noGoto_ret]
                go_ret2
                rw [HR.out.1, HR.out.2]
                exact ⟨rfl, Fr.same (FF5.out) (by repeat (first | exact Fr.refl _ _ | apply Fr.drewN | apply Fr.drew))⟩
end
end Go.Proofs.YtcjkgnafpkkjmaaGreatDoor
