/- The texts and numbers of numbers: a part of the walk. No condition. -/
import Derived.Test.YtcjkgnafpkkjmaaGreatDoorQk24
set_option linter.all false
namespace Go.Proofs.YtcjkgnafpkkjmaaGreatDoor
section
open Go.ChangeShapes Go.WideShapes Go.RowKit Go.Shelf
theorem or32_ne (c : Nat) (h : c < 256) (h1 : c ≠ 120) (h2 : c ≠ 88) : (bits BinOp.or IntKind.u8 (c : Int) 32 == 120) = false := by
  have key : ∀ c : Fin 256, c.val ≠ 120 → c.val ≠ 88 → (bits BinOp.or IntKind.u8 (c.val : Int) 32 == 120) = false := by decide +kernel
  exact key ⟨c, h⟩ h1 h2
theorem or32_e (c : Nat) (h : c = 69 ∨ c = 101) : bits BinOp.or IntKind.u8 (c : Int) 32 = 101 := by
  rcases h with rfl | rfl <;> decide
set_option maxRecDepth 100000 in
set_option maxHeartbeats 4000000 in
theorem rdf_c (l : List UInt8) (a m x y : Nat) (hS : Rdf.Shp (Rdf.bt l) l.length a m x y) (hl : l.length ≤ 800) : ∃ (mt : Nat) (p : Int) (neg tr : Bool), mt < 10000000000000000000 ∧ -12000 ≤ p ∧ p ≤ 12000 ∧ ∀ w : World, Calls Tryz.prog 174 #[.string (ba l)] w fun e w' => e = .returned (.tuple #[.int .u64 (mt : Int), .int .i64 p, .bool neg, .bool tr, .bool false, .int .i64 (l.length : Int), .bool true]) ∧ Fr [] w w' := by
  obtain ⟨bt, hbt⟩ : ∃ bt : Nat → Nat, bt = Rdf.bt l := ⟨_, rfl⟩
  rw [← hbt] at hS
  have SI : ∀ (i : Nat), i < l.length → ∀ W : World, (Instr.index 9 (.string (ba l)) (.int .i64 (i : Int))).run Tryz.prog W = .ok (.int .u8 (bt i : Int)) W := fun i hi W => by rw [hbt]; exact run_str_at l i hi W
  have BB : ∀ i, bt i < 256 := fun i => by rw [hbt]; exact UInt8.toNat_lt _
  have hsz := ba_size l
  obtain ⟨n, hn⟩ : ∃ n, n = l.length := ⟨_, rfl⟩
  rw [← hn] at hS SI hsz hl ⊢
  generalize ba l = S at *
  clear hbt hn
  have n_eq := hS.n_eq
  have a1 := hS.a1
  have m1 := hS.m1
  obtain ⟨f, hf⟩ : ∃ f : Nat → Nat, f = fun j => bt (a + j) := ⟨_, rfl⟩
  have fb : ∀ j, j < m → f j = 46 ∨ (48 ≤ f j ∧ f j ≤ 57) := fun j hj => by rw [hf]; exact hS.mb j hj
  have OK := Lib.hid (Rdf.ok_run fb)
  have SD := Lib.hid (Rdf.sd_run (f := f) (m := m) (fun j k h1 h2 h3 => by rw [hf] at h3 ⊢; exact hS.one j k h1 h2 h3))
  have SG := Lib.hid (Rdf.sg_run (f := f) (m := m) (by rw [hf]; exact hS.dg))
  have HE0 := Lib.hid hS.e0
  have HS1 := Lib.hid hS.s1
  obtain ⟨neg, hneg⟩ : ∃ neg : Bool, neg = decide (bt 0 = 45) := ⟨_, rfl⟩
  obtain ⟨q, hq⟩ : ∃ q, q = Rdf.St.run f m := ⟨_, rfl⟩
  have OKM := OK.out m (Nat.le_refl _)
  have SGM := SG.out
  rw [← hq] at OKM SGM
  obtain ⟨o1, o2, o3, o4, o5, o6⟩ := OKM
  have mtb : q.mt < 10000000000000000000 := Nat.lt_of_lt_of_le o6 (Nat.le_trans (Nat.pow_le_pow_right (by decide) o3) (by decide))
  obtain ⟨dp1, hdp1⟩ : ∃ dp1 : Int, dp1 = if q.sd then q.dp else (q.nd : Int) := ⟨_, rfl⟩
  have hdp1b : -800 ≤ dp1 ∧ dp1 ≤ 800 := by rw [hdp1]; split <;> omega
  obtain ⟨es, hes⟩ : ∃ es : Int, es = if y = 1 ∧ bt (a + m + 1) = 45 then -1 else 1 := ⟨_, rfl⟩
  obtain ⟨K, hK⟩ : ∃ K : Nat, K = if x = 0 then 0 else n - (a + m + 1 + y) := ⟨_, rfl⟩
  obtain ⟨g, hg⟩ : ∃ g : Nat → Nat, g = fun k => bt (a + m + 1 + y + k) := ⟨_, rfl⟩
  have hK4 : K ≤ 4 := by
    rw [hK]; split
    · omega
    · rcases HE0.out with h | h
      · omega
      · omega
  have gb : ∀ k, k < K → 48 ≤ g k ∧ g k ≤ 57 := fun k hk => by
    rw [hg]
    rcases HE0.out with h | h
    · rw [hK, if_pos h] at hk; omega
    · rw [hK] at hk
      split at hk
      · omega
      · exact h.2.2.2.2.2 _ (by omega) (by omega)
  have EL := Rdf.expN_lt gb
  have ELK := EL K (Nat.le_refl _)
  have ELb : Rdf.expN g K < 10000 := Nat.lt_of_lt_of_le ELK (Nat.le_trans (Nat.pow_le_pow_right (by decide) hK4) (by decide))
  obtain ⟨dp2, hdp2⟩ : ∃ dp2 : Int, dp2 = dp1 + (Rdf.expN g K : Int) * es := ⟨_, rfl⟩
  have hdp2b : -10800 ≤ dp2 ∧ dp2 ≤ 10800 := by
    rw [hdp2, hes]; split <;> omega
  obtain ⟨pf, hpf⟩ : ∃ pf : Int, pf = if q.mt = 0 then 0 else dp2 - (q.nm : Int) := ⟨_, rfl⟩
  refine ⟨q.mt, pf, neg, q.tr, mtb, by rw [hpf]; split <;> omega, by rw [hpf]; split <;> omega, fun w => ?_⟩
  have HSI := Lib.hid SI
  have HFB := Lib.hid fb
  have HF := Lib.hid hf
  have HBB := Lib.hid BB
  have HNEG := Lib.hid hneg
  have HQ := Lib.hid hq
  have HDP1 := Lib.hid hdp1
  have HDP2 := Lib.hid hdp2
  have HES := Lib.hid hes
  have HK := Lib.hid hK
  have HG := Lib.hid hg
  have HGB := Lib.hid gb
  have HEL := Lib.hid EL
  have HPF := Lib.hid hpf
  clear SI fb hf BB hS hneg hq hdp1 hdp2 hes hK hg gb EL hpf ELK o4 o5 o6
  go_enter Tryz.func174, Tryz.ntmps174
  obtain ⟨c0, hc0⟩ : ∃ c0, c0 = bt 0 := ⟨_, rfl⟩
  have HNE := Lib.hid n_eq
  have hnp : 0 < n := by omega
  have ham : a + m ≤ n := by omega
  have I0 : ∀ W : World, (Instr.index 9 (.string S) (.int .i64 0)).run Tryz.prog W = .ok (.int .u8 (c0 : Int)) W := fun W => by rw [hc0]; exact HSI.out 0 hnp W
  clear n_eq
  have HC0 := Lib.hid hc0
  have hc0b := HBB.out 0
  rw [← hc0] at hc0b
  clear hc0
  go_wp2_with fail
  go_step3
  go_upto_block 0 with fail
  go_cut [4, 7] from 25 to 35 (fun s4 s7 wx => s4 = .bool neg ∧ s7 = .int .i64 (a : Int) ∧ w = wx)
  case first =>
    by_cases ha : a = 1
    · have h1 := HS1.out ha
      rw [← HC0.out] at h1
      have HA : Hid (a = 1) := Lib.hid ha
      by_cases h43 : c0 = 43
      · have HN : Hid (neg = false) := Lib.hid (by rw [HNEG.out, ← HC0.out, h43]; rfl)
        clear h1 ha
        subst h43
        go_wp2_with fail
        go_meet
        exact ⟨by rw [HN.out], by rw [HA.out]; rfl, rfl⟩
      · have h45 : c0 = 45 := by omega
        have HN : Hid (neg = true) := Lib.hid (by rw [HNEG.out, ← HC0.out, h45]; rfl)
        clear h1 ha h43
        subst h45
        go_wp2_with fail
        go_meet
        exact ⟨by rw [HN.out], by rw [HA.out]; rfl, rfl⟩
    · have ha0 : a = 0 := by omega
      have h0 := HFB.out 0 (by omega)
      have hf0 : f 0 = c0 := by rw [HF.out, HC0.out]; simp [ha0]
      rw [hf0] at h0
      have HN : Hid (neg = false) := Lib.hid (by rw [HNEG.out, ← HC0.out]; exact decide_eq_false (by omega))
      have HA : Hid (a = 0) := Lib.hid ha0
      have g43 : ((c0 : Int) == 43) = false := by rw [beq_eq_false_iff_ne]; omega
      have g45 : ((c0 : Int) == 45) = false := by rw [beq_eq_false_iff_ne]; omega
      clear ha ha0 h0 hf0
      go_wp2_with fail
      go_meet
      exact ⟨by rw [HN.out], by rw [HA.out]; rfl, rfl⟩
  case rest =>
    obtain ⟨rfl, rfl, rfl⟩ := hcut
    clear I0
    go_upto_region 12 with fail
    go_cut [24, 54] from 36 to 53 (fun s24 s54 wx => s54 = .bool false ∧ Hid (Fr [] w wx))
    case first =>
      by_cases h1 : a + 2 < n
      · have g1 : (a : Int) + 2 < (n : Int) := by omega
        have IA := HSI.out a (by omega)
        by_cases h2 : bt a = 48
        · have IA1 := HSI.out (a + 1) (by omega)
          have hne : bt (a + 1) ≠ 120 ∧ bt (a + 1) ≠ 88 := by
            by_cases hm1 : 1 < m
            · have h7 := HFB.out 1 hm1
              have h8 : f 1 = bt (a + 1) := by rw [HF.out]
              rw [h8] at h7
              omega
            · have := HNE.out
              rcases HE0.out with h | h
              · omega
              · have : a + m = a + 1 := by omega
                rw [this] at h
                omega
          have O := or32_ne (bt (a + 1)) (HBB.out _) hne.1 hne.2
          obtain ⟨c1, hc1⟩ : ∃ c1, c1 = bt (a + 1) := ⟨_, rfl⟩
          rw [← hc1] at IA1 O
          rw [h2] at IA
          have ia1 : ((a + 1 : Nat) : Int) = (a : Int) + 1 := by omega
          rw [ia1] at IA1
          have CL := Lib.hid (fun w1 => Tryz.internal_strconv_lower (c1 : Int) w1)
          clear h2 hne hc1 ia1
          go_wp2_with fail
          refine (CL.out _).mono ?_
          rintro e w' ⟨rfl, rfl⟩
          go_wp2_with fail
          go_meet
          exact ⟨rfl, Lib.hid (by repeat (first | exact Fr.refl _ _ | apply Fr.drew))⟩
        · obtain ⟨c1, hc1⟩ : ∃ c1, c1 = bt a := ⟨_, rfl⟩
          rw [← hc1] at IA h2
          have g2 : ((c1 : Int) == 48) = false := by rw [beq_eq_false_iff_ne]; omega
          clear h2 hc1
          go_wp2_with fail
          go_meet
          exact ⟨rfl, Lib.hid (by repeat (first | exact Fr.refl _ _ | apply Fr.drew))⟩
      · have g1 : ¬ (a : Int) + 2 < (n : Int) := by omega
        go_wp2_with fail
        go_meet
        exact ⟨rfl, Lib.hid (by repeat (first | exact Fr.refl _ _ | apply Fr.drew))⟩
    case rest =>
      obtain ⟨rfl, F1⟩ := hcut
      go_wp2_with fail
      go_step3
      go_upto_block 1 with fail
      go_cut [2, 5, 7, 9, 13, 14, 15, 16, 17, 18] from 57 to 138 (fun s2 s5 s7 s9 s13 s14 s15 s16 s17 s18 wx => s9 = .bool false ∧ s2 = .int .u64 (q.mt : Int) ∧ s5 = .bool q.tr ∧ s7 = .int .i64 ((a + m : Nat) : Int) ∧ s13 = .bool q.sd ∧ s14 = .bool true ∧ s15 = .int .i64 (q.nd : Int) ∧ s16 = .int .i64 (q.nm : Int) ∧ s17 = .int .i64 q.dp ∧ Hid (Fr [] w wx))
      case first =>
        go_wp2_with fail
        go_loopw [2, 5, 7, 9, 13, 14, 15, 16, 17] (fun s2 s5 s7 s9 s13 s14 s15 s16 s17 wr => ∃ (j : Nat) (sd sg : Bool) (nd nm : Nat) (dp : Int) (mt : Nat) (tr : Bool), j ≤ m ∧ s2 = .int .u64 (mt : Int) ∧ s5 = .bool tr ∧ s7 = .int .i64 ((a + j : Nat) : Int) ∧ s9 = .bool false ∧ s13 = .bool sd ∧ s14 = .bool sg ∧ s15 = .int .i64 (nd : Int) ∧ s16 = .int .i64 (nm : Int) ∧ s17 = .int .i64 dp ∧ Hid (Fr [] w wr) ∧ Hid (Rdf.St.run f j = ⟨sd, sg, nd, nm, dp, mt, tr⟩)) (fun _ _ s7 _ _ _ _ _ _ _ => a + m - (RowKit.intOf s7).toNat)
        case atStart => exact ⟨0, false, false, 0, 0, 0, 0, false, Nat.zero_le _, rfl, rfl, rfl, rfl, rfl, rfl, rfl, rfl, rfl, F1, Lib.hid rfl⟩
        case round =>
          obtain ⟨j, sd, sg, nd, nm, dp, mt, tr, hj, rfl, rfl, rfl, rfl, rfl, rfl, rfl, rfl, rfl, FW, HR⟩ := hrel
          by_cases hlt : j < m
          · have hin : a + j < n := by omega
            have IJ := HSI.out (a + j) hin
            have hfj : f j = bt (a + j) := by rw [HF.out]
            rw [← hfj] at IJ
            have hfc := HFB.out j hlt
            have HST : Hid (Rdf.St.run f (j + 1) = (⟨sd, sg, nd, nm, dp, mt, tr⟩ : Rdf.St).step (f j)) := Lib.hid (by rw [← HR.out]; rfl)
            have HOK := OK.out j (by omega)
            rw [HR.out] at HOK
            have k1 : nd ≤ j := HOK.nd
            have k2 : nm ≤ nd := HOK.nm
            have k3 : nm ≤ 19 := HOK.n19
            have k4 : -(j : Int) ≤ dp := HOK.d1
            have k5 : dp ≤ (j : Int) := HOK.d2
            have k6 : mt < 10 ^ nm := HOK.mt
            have HSD : Hid (f j = 46 → sd = false) := Lib.hid (fun h => by have := SD.out j hlt h; rw [HR.out] at this; exact this)
            obtain ⟨ij, hij⟩ : ∃ ij : Nat, ij = a + j := ⟨_, rfl⟩
            rw [← hij] at IJ hin ⊢
            have HIJ := Lib.hid hij
            generalize f j = c at IJ hfc HST HSD
            clear hfj HOK HR hij
            by_cases hc : c = 46
            · have hsd := HSD.out hc
              have H9 : Hid (Rdf.St.run f (j + 1) = ⟨true, sg, nd, nm, (nd : Int), mt, tr⟩) := Lib.hid (by rw [HST.out]; unfold Rdf.St.step; rw [if_pos hc])
              subst hc
              subst hsd
              clear HST HSD hfc
              go_wp2_with fail
              go_roundw
              case rel => exact ⟨j + 1, true, sg, nd, nm, (nd : Int), mt, tr, by omega, rfl, rfl, congrArg (Value.int .i64) (by have := HIJ.out; omega), rfl, rfl, rfl, rfl, rfl, rfl, FW, H9⟩
              case measure => have := HIJ.out; simp [RowKit.intOf]; omega
            · have hd1 : (48 : Int) ≤ (c : Int) := by omega
              have hd2 : (c : Int) ≤ 57 := by omega
              have g95 : ((c : Int) == 95) = false := by rw [beq_eq_false_iff_ne]; omega
              have g46 : ((c : Int) == 46) = false := by rw [beq_eq_false_iff_ne]; omega
              by_cases h48 : c = 48 ∧ nd = 0
              · have H9 : Hid (Rdf.St.run f (j + 1) = ⟨sd, true, nd, nm, dp - 1, mt, tr⟩) := Lib.hid (by rw [HST.out]; unfold Rdf.St.step; rw [if_neg hc, if_pos h48])
                have c48 : ((c : Int) == 48) = true := by simpa using (show (c : Int) = 48 by omega)
                have n0 : ((nd : Int) == 0) = true := by simpa using (show (nd : Int) = 0 by omega)
                clear HST HSD hfc hc h48
                go_wp2_with fail
                go_roundw
                case rel => exact ⟨j + 1, sd, true, nd, nm, dp - 1, mt, tr, by omega, rfl, rfl, congrArg (Value.int .i64) (by have := HIJ.out; omega), rfl, rfl, rfl, rfl, rfl, rfl, FW, H9⟩
                case measure => have := HIJ.out; simp [RowKit.intOf]; omega
              · have gz : (((c : Int) == 48) && ((nd : Int) == 0)) = false := by
                  rw [Bool.and_eq_false_iff]
                  by_cases e : c = 48
                  · right; rw [beq_eq_false_iff_ne]; omega
                  · left; rw [beq_eq_false_iff_ne]; omega
                by_cases h19 : nm < 19
                · obtain ⟨d, hd⟩ : ∃ d, d = c - 48 := ⟨_, rfl⟩
                  obtain ⟨t, ht⟩ : ∃ t, t = mt * 10 := ⟨_, rfl⟩
                  have H9 : Hid (Rdf.St.run f (j + 1) = ⟨sd, true, nd + 1, nm + 1, dp, t + d, tr⟩) := Lib.hid (by rw [HST.out]; unfold Rdf.St.step; rw [if_neg hc, if_neg h48, if_pos h19, ht, hd])
                  have mb : mt < 1000000000000000000 := Nat.lt_of_lt_of_le k6 (Nat.le_trans (Nat.pow_le_pow_right (by decide) (show nm ≤ 18 by omega)) (by decide))
                  have e1 : IntKind.u64.wrap ((mt : Int) * 10) = (t : Int) := by rw [IntKind.wrap_u64]; omega
                  have e2 : IntKind.u8.wrap ((c : Int) - 48) = (d : Int) := by rw [IntKind.wrap_u8]; omega
                  have e3 : IntKind.u64.wrap (d : Int) = (d : Int) := fw_u64 _ (by omega) (by omega)
                  have e4 : IntKind.u64.wrap ((t : Int) + (d : Int)) = (t : Int) + (d : Int) := fw_u64 _ (by omega) (by omega)
                  clear HST HSD hfc hc hd ht mb k6
                  by_cases e : c = 48
                  · have c48 : ((c : Int) == 48) = true := by simpa using (show (c : Int) = 48 by omega)
                    have n0 : ((nd : Int) == 0) = false := by rw [beq_eq_false_iff_ne]; omega
                    clear e h48 gz
                    go_wp2_with fail
                    go_roundw
                    case rel => exact ⟨j + 1, sd, true, nd + 1, nm + 1, dp, t + d, tr, by omega, by go_num, rfl, congrArg (Value.int .i64) (by have := HIJ.out; omega), rfl, rfl, rfl, by go_num, by go_num, rfl, FW, H9⟩
                    case measure => have := HIJ.out; simp [RowKit.intOf]; omega
                  · have c48 : ((c : Int) == 48) = false := by rw [beq_eq_false_iff_ne]; omega
                    clear e h48 gz
                    go_wp2_with fail
                    go_roundw
                    case rel => exact ⟨j + 1, sd, true, nd + 1, nm + 1, dp, t + d, tr, by omega, by go_num, rfl, congrArg (Value.int .i64) (by have := HIJ.out; omega), rfl, rfl, rfl, by go_num, by go_num, rfl, FW, H9⟩
                    case measure => have := HIJ.out; simp [RowKit.intOf]; omega
                · have H9 : Hid (Rdf.St.run f (j + 1) = ⟨sd, true, nd + 1, nm, dp, mt, tr || decide (c ≠ 48)⟩) := Lib.hid (by rw [HST.out]; unfold Rdf.St.step; rw [if_neg hc, if_neg h48, if_neg h19])
                  clear HST HSD hfc hc k6
                  by_cases e : c = 48
                  · have c48 : ((c : Int) == 48) = true := by simpa using (show (c : Int) = 48 by omega)
                    have n0 : ((nd : Int) == 0) = false := by rw [beq_eq_false_iff_ne]; omega
                    have cne : ((c : Int) != 48) = false := by rw [bne, c48]; rfl
                    rw [decide_eq_false (by omega : ¬ c ≠ 48), Bool.or_false] at H9
                    clear e h48 gz
                    go_wp2_with fail
                    go_roundw
                    case rel => exact ⟨j + 1, sd, true, nd + 1, nm, dp, mt, tr, by omega, rfl, rfl, congrArg (Value.int .i64) (by have := HIJ.out; omega), rfl, rfl, rfl, by go_num, rfl, rfl, FW, H9⟩
                    case measure => have := HIJ.out; simp [RowKit.intOf]; omega
                  · have c48 : ((c : Int) == 48) = false := by rw [beq_eq_false_iff_ne]; omega
                    have cne : ((c : Int) != 48) = true := by rw [bne, c48]; rfl
                    rw [decide_eq_true (by omega : c ≠ 48), Bool.or_true] at H9
                    clear e h48 gz
                    go_wp2_with fail
                    go_roundw
                    case rel => exact ⟨j + 1, sd, true, nd + 1, nm, dp, mt, true, by omega, rfl, rfl, congrArg (Value.int .i64) (by have := HIJ.out; omega), rfl, rfl, rfl, by go_num, rfl, rfl, FW, H9⟩
                    case measure => have := HIJ.out; simp [RowKit.intOf]; omega
          · have hjm : j = m := by omega
            have HJM := Lib.hid hjm
            have hqe : (⟨sd, sg, nd, nm, dp, mt, tr⟩ : Rdf.St) = q := by rw [HQ.out, ← HR.out, hjm]
            have Q1 : Hid (q.mt = mt ∧ q.tr = tr ∧ q.sd = sd ∧ q.nd = nd ∧ q.nm = nm ∧ q.dp = dp ∧ q.sg = sg) := Lib.hid (by rw [← hqe]; exact ⟨rfl, rfl, rfl, rfl, rfl, rfl, rfl⟩)
            have HSG := Lib.hid SGM
            clear hqe HR hlt
            by_cases hx : x = 0
            · have hne : ((a + j : Nat) : Int) = (n : Int) := by have := HNE.out; omega
              clear hjm
              go_wp2_with fail
              go_meet
              exact ⟨rfl, by rw [Q1.out.1], by rw [Q1.out.2.1], by rw [HJM.out], by rw [Q1.out.2.2.1], by rw [← HSG.out, Q1.out.2.2.2.2.2.2], by rw [Q1.out.2.2.2.1], by rw [Q1.out.2.2.2.2.1], by rw [Q1.out.2.2.2.2.2.1], FW⟩
            · have hin : a + j < n := by have := HNE.out; omega
              have IJ := HSI.out (a + j) hin
              have hc : bt (a + j) = 69 ∨ bt (a + j) = 101 := by
                rcases HE0.out with h | h
                · exact absurd h hx
                · rw [hjm]; exact h.1
              generalize bt (a + j) = c at IJ hc
              obtain ⟨ij, hij⟩ : ∃ ij : Nat, ij = a + j := ⟨_, rfl⟩
              have HIJ := Lib.hid hij
              rw [← hij] at IJ hin ⊢
              have g95 : ((c : Int) == 95) = false := by rw [beq_eq_false_iff_ne]; omega
              have g46 : ((c : Int) == 46) = false := by rw [beq_eq_false_iff_ne]; omega
              have g57 : ¬ (c : Int) ≤ 57 := by omega
              have g48 : (48 : Int) ≤ (c : Int) := by omega
              clear hjm hc hij hx
              go_wp2_with fail
              go_meet
              exact ⟨rfl, by rw [Q1.out.1], by rw [Q1.out.2.1], by rw [HIJ.out, HJM.out], by rw [Q1.out.2.2.1], by rw [← HSG.out, Q1.out.2.2.2.2.2.2], by rw [Q1.out.2.2.2.1], by rw [Q1.out.2.2.2.2.1], by rw [Q1.out.2.2.2.2.2.1], FW⟩
      case rest =>
        obtain ⟨rfl, rfl, rfl, rfl, rfl, rfl, rfl, rfl, rfl, F2⟩ := hcut
        clear OK SD SG SGM
        obtain ⟨qm, hqm⟩ : ∃ qm, qm = q.mt := ⟨_, rfl⟩
        obtain ⟨qt, hqt⟩ : ∃ qt, qt = q.tr := ⟨_, rfl⟩
        obtain ⟨qs, hqs⟩ : ∃ qs, qs = q.sd := ⟨_, rfl⟩
        obtain ⟨qn, hqn⟩ : ∃ qn, qn = q.nd := ⟨_, rfl⟩
        obtain ⟨qk, hqk⟩ : ∃ qk, qk = q.nm := ⟨_, rfl⟩
        obtain ⟨qd, hqd⟩ : ∃ qd, qd = q.dp := ⟨_, rfl⟩
        have HD1 : Hid (dp1 = if qs then qd else (qn : Int)) := Lib.hid (by rw [hqs, hqd, hqn]; exact HDP1.out)
        have HPP : Hid (pf = if qm = 0 then 0 else dp2 - (qk : Int)) := Lib.hid (by rw [hqm, hqk]; exact HPF.out)
        rw [← hqm, ← hqt, ← hqs, ← hqn, ← hqk, ← hqd]
        rw [← hqm] at mtb
        rw [← hqn] at o1 o2
        rw [← hqk] at o2 o3
        have QM := Lib.hid hqm
        have QT := Lib.hid hqt
        clear hqm hqt hqs hqn hqk hqd HPF HDP1 HQ F1
        obtain ⟨i1, hi1⟩ : ∃ i1 : Nat, i1 = a + m := ⟨_, rfl⟩
        have HI1 := Lib.hid hi1
        rw [← hi1] at ham ⊢
        clear hi1
        go_upto_if 142 with fail
        go_cut [17] from 143 to 143 (fun s17 wx => s17 = .int .i64 dp1 ∧ wc = wx)
        case first =>
          cases qs
          · have H := Lib.hid HD1.out
            go_wp2_with fail
            go_meet
            exact ⟨by rw [H.out]; rfl, rfl⟩
          · have H := Lib.hid HD1.out
            go_wp2_with fail
            go_meet
            exact ⟨by rw [H.out]; rfl, rfl⟩
        case rest =>
          obtain ⟨rfl, rfl⟩ := hcut
          obtain ⟨xb, hxb⟩ : ∃ xb : Bool, xb = decide (x ≠ 0) := ⟨_, rfl⟩
          have HXB := Lib.hid hxb
          clear hxb HD1
          go_upto_region 57 with fail
          go_cut [161] from 150 to 160 (fun s161 wx => s161 = .bool xb ∧ wc = wx)
          case first =>
            by_cases hx : x = 0
            · have HB : Hid (xb = false) := Lib.hid (by rw [HXB.out]; exact decide_eq_false (fun h => h hx))
              have hlt : ¬ (i1 : Int) < (n : Int) := by have := HNE.out; have := HI1.out; omega
              clear hx
              go_wp2_with fail
              go_meet
              exact ⟨by rw [HB.out], rfl⟩
            · have HB : Hid (xb = true) := Lib.hid (by rw [HXB.out]; exact decide_eq_true hx)
              have hin : i1 < n := by have := HNE.out; have := HI1.out; omega
              have IJ := HSI.out i1 hin
              have hc : bt i1 = 69 ∨ bt i1 = 101 := by
                rcases HE0.out with h | h
                · exact absurd h hx
                · rw [HI1.out]; exact h.1
              generalize bt i1 = c at IJ hc
              have O := or32_e c hc
              have CL := Lib.hid (fun w1 => by have := Tryz.internal_strconv_lower (c : Int) w1; rw [O] at this; exact this)
              clear hx hc O
              go_wp2_with fail
              refine (CL.out _).mono ?_
              rintro e w' ⟨rfl, rfl⟩
              go_wp2_with fail
              go_meet
              exact ⟨by rw [HB.out], rfl⟩
          case rest =>
            obtain ⟨rfl, rfl⟩ := hcut
            go_upto_if 161 with fail
            go_cut [7, 9, 17, 19, 20] from 162 to 237 (fun s7 s9 s17 s19 s20 wx => s7 = .int .i64 (n : Int) ∧ s9 = .bool false ∧ s17 = .int .i64 dp2 ∧ Hid (Fr [] w wx))
            case first =>
              cases xb
              · have hx : x = 0 := by
                  have := of_decide_eq_false HXB.out.symm
                  omega
                have hin : i1 = n := by have := HNE.out; have := HI1.out; omega
                have HD : Hid (dp2 = dp1) := Lib.hid (by
                  rw [HDP2.out, show K = 0 by rw [HK.out, if_pos hx]]
                  show dp1 + ((0 : Nat) : Int) * es = dp1
                  simp)
                have HIN := Lib.hid hin
                clear hx hin
                go_wp2_with fail
                go_meet
                exact ⟨by rw [HIN.out], rfl, by rw [HD.out], F2⟩
              · have hx : x ≠ 0 := of_decide_eq_true HXB.out.symm
                have HE1 : (bt (a + m) = 69 ∨ bt (a + m) = 101) ∧ y ≤ 1 ∧ (y = 1 → bt (a + m + 1) = 43 ∨ bt (a + m + 1) = 45) ∧ a + m + 1 + y < n ∧ n ≤ a + m + 1 + y + 4 ∧ ∀ i, a + m + 1 + y ≤ i → i < n → 48 ≤ bt i ∧ bt i ≤ 57 := HE0.out.resolve_left hx
                obtain ⟨_, y1, ys, yn, yn4, ydig⟩ := HE1
                rw [← HI1.out] at ys yn yn4 ydig
                have hes : es = if y = 1 ∧ bt (i1 + 1) = 45 then -1 else 1 := by rw [HI1.out]; exact HES.out
                have hgk : ∀ k, g k = bt (i1 + 1 + y + k) := fun k => by rw [HG.out, HI1.out]
                have hKn : i1 + 1 + y + K = n := by
                  have := HK.out
                  rw [if_neg hx, ← HI1.out] at this
                  omega
                have IS := HSI.out (i1 + 1) (by omega)
                have hi11 : (((i1 + 1 : Nat)) : Int) = (i1 : Int) + 1 := by omega
                rw [hi11] at IS
                have YD := ydig (i1 + 1 + y) (Nat.le_refl _) yn
                have YI := HSI.out (i1 + 1 + y) yn
                obtain ⟨cs, hcs⟩ : ∃ cs, cs = bt (i1 + 1) := ⟨_, rfl⟩
                rw [← hcs] at IS ys hes
                obtain ⟨cy, hcy⟩ : ∃ cy, cy = bt (i1 + 1 + y) := ⟨_, rfl⟩
                rw [← hcy] at YD YI
                have HGK := Lib.hid hgk
                have HKN := Lib.hid hKn
                have HYD := Lib.hid ydig
                have HESS := Lib.hid hes
                have hn1 : i1 + 1 < n := by omega
                obtain ⟨i2, hi2⟩ : ∃ i2, i2 = i1 + 1 + y := ⟨_, rfl⟩
                rw [← hi2] at YI yn yn4
                have HI2 := Lib.hid hi2
                have HCS := Lib.hid hcs
                have HCY := Lib.hid hcy
                clear hx hgk hKn ydig hes hi11 hcs hcy hi2 HE0 HS1
                go_upto_block 4 with fail
                go_cut [7, 19] from 168 to 178 (fun s7 s19 wx => s7 = .int .i64 (i2 : Int) ∧ s19 = .int .i64 es ∧ wc = wx)
                case first =>
                  by_cases hy : y = 1
                  · have h4 := ys hy
                    have HI : Hid (i2 = i1 + 1 + 1) := Lib.hid (by rw [HI2.out, hy])
                    by_cases h43 : cs = 43
                    · have HE : Hid (es = 1) := Lib.hid (by rw [HESS.out, if_neg (by omega)])
                      clear h4 ys hy
                      subst h43
                      go_wp2_with fail
                      go_meet
                      exact ⟨by rw [HI.out]; exact congrArg (Value.int .i64) (by omega), by rw [HE.out], rfl⟩
                    · have h45 : cs = 45 := by omega
                      have HE : Hid (es = -1) := Lib.hid (by rw [HESS.out, if_pos ⟨hy, h45⟩])
                      clear h4 ys hy h43
                      subst h45
                      go_wp2_with fail
                      go_meet
                      exact ⟨by rw [HI.out]; exact congrArg (Value.int .i64) (by omega), by rw [HE.out], rfl⟩
                  · have hy0 : y = 0 := by omega
                    have HI : Hid (i2 = i1 + 1) := Lib.hid (by rw [HI2.out, hy0])
                    have HE : Hid (es = 1) := Lib.hid (by rw [HESS.out, if_neg (by omega)])
                    have hcd : cs = cy := by rw [HCS.out, HCY.out, hy0]
                    have g43 : ((cs : Int) == 43) = false := by rw [beq_eq_false_iff_ne]; omega
                    have g45 : ((cs : Int) == 45) = false := by rw [beq_eq_false_iff_ne]; omega
                    clear ys hy hy0 hcd
                    go_wp2_with fail
                    go_meet
                    exact ⟨by rw [HI.out]; exact congrArg (Value.int .i64) (by omega), by rw [HE.out], rfl⟩
                case rest =>
                  obtain ⟨rfl, rfl, rfl⟩ := hcut
                  have y48 : (48 : Int) ≤ (cy : Int) := by omega
                  have y57 : (cy : Int) ≤ 57 := by omega
                  have y48n : ¬ (cy : Int) < 48 := by omega
                  have y57n : ¬ (57 : Int) < (cy : Int) := by omega
                  clear YD ys
                  go_wp2_with fail
                  go_loopw [7, 9, 20] (fun s7 s9 s20 wr => ∃ (k : Nat), k ≤ K ∧ s7 = .int .i64 ((i2 + k : Nat) : Int) ∧ s9 = .bool false ∧ s20 = .int .i64 (Rdf.expN g k : Int) ∧ wc = wr) (fun a _ _ _ => n - (RowKit.intOf a).toNat)
                  case atStart => exact ⟨0, Nat.zero_le _, rfl, rfl, rfl, rfl⟩
                  case round =>
                    obtain ⟨k, hk, rfl, rfl, rfl, rfl⟩ := hrel
                    obtain ⟨E, hE⟩ : ∃ E, E = Rdf.expN g k := ⟨_, rfl⟩
                    have HEE := Lib.hid hE
                    rw [← hE]
                    obtain ⟨i3, hi3⟩ : ∃ i3, i3 = i2 + k := ⟨_, rfl⟩
                    have HI3 := Lib.hid hi3
                    rw [← hi3]
                    have hEb : E < 10000 := by
                      rw [hE]
                      exact Nat.lt_of_lt_of_le (HEL.out k hk) (Nat.le_trans (Nat.pow_le_pow_right (by decide) (show k ≤ 4 by omega)) (by decide))
                    clear hE hi3
                    by_cases hlt : k < K
                    · have hin : i3 < n := by have := HKN.out; have := HI2.out; have := HI3.out; omega
                      have IK := HSI.out i3 hin
                      have hgk : bt i3 = g k := by rw [HGK.out, HI3.out, HI2.out]
                      rw [hgk] at IK
                      have hgd := HGB.out k hlt
                      have H9 : Hid (Rdf.expN g (k + 1) = E * 10 + (g k - 48)) := Lib.hid (by rw [HEE.out]; rfl)
                      generalize g k = c at IK hgd H9
                      have d48 : (48 : Int) ≤ (c : Int) := by omega
                      have d57 : (c : Int) ≤ 57 := by omega
                      have g95 : ((c : Int) == 95) = false := by rw [beq_eq_false_iff_ne]; omega
                      have hc8 : IntKind.i64.wrap (c : Int) = (c : Int) := fw_i64 _ (by omega) (by omega)
                      clear hgk
                      go_wp2_with fail
                      go_roundw
                      case rel => exact ⟨k + 1, by omega, congrArg (Value.int .i64) (by have := HI3.out; omega), rfl, congrArg (Value.int .i64) (by rw [H9.out]; omega), trivial⟩
                      case measure => simp [RowKit.intOf]; omega
                    · have hkK : k = K := by omega
                      have hne : i3 = n := by have := HKN.out; have := HI2.out; have := HI3.out; omega
                      have HNN := Lib.hid hne
                      have HD : Hid (dp2 = dp1 + (E : Int) * es) := Lib.hid (by rw [HDP2.out, HEE.out, hkK])
                      have esb : es = 1 ∨ es = -1 := by
                        have := HESS.out
                        split at this
                        · exact .inr this
                        · exact .inl this
                      have hnlt : ¬ (i3 : Int) < (n : Int) := by omega
                      clear hkK hne hlt
                      rcases esb with rfl | rfl
                      · have HD : Hid (dp2 = dp1 + (E : Int)) := Lib.hid (by rw [HD.out]; omega)
                        go_wp2_with fail
                        go_meet
                        exact ⟨by rw [HNN.out], rfl, by rw [HD.out], F2⟩
                      · have HD : Hid (dp2 = dp1 + -(E : Int)) := Lib.hid (by rw [HD.out]; omega)
                        go_wp2_with fail
                        go_meet
                        exact ⟨by rw [HNN.out], rfl, by rw [HD.out], F2⟩
            case rest =>
              obtain ⟨rfl, rfl, rfl, F3⟩ := hcut
              by_cases hz : qm = 0
              · have HP : Hid (pf = 0) := Lib.hid (by rw [HPP.out, if_pos hz])
                have gz : ((qm : Int) != 0) = false := by rw [bne, beq_iff_eq.2 (show (qm : Int) = 0 by omega)]; rfl
                have HQM := Lib.hid hz
                clear hz
                go_wp2_with fail
                (try simp only [Exit.inBlock, Exit.then])
                rw [Exit.noGoto_ret]
                refine bodyPost_ret (results_tmp7 rfl _ _ _) rfl ?_
                rw [HP.out, ← QM.out, ← QT.out]
                exact ⟨rfl, F3.out⟩
              · have HP : Hid (pf = dp2 - (qk : Int)) := Lib.hid (by rw [HPP.out, if_neg hz])
                have gz : ((qm : Int) != 0) = true := by rw [bne_iff_ne]; omega
                clear hz
                go_wp2_with fail
                (try simp only [Exit.inBlock, Exit.then])
                rw [Exit.noGoto_ret]
                refine bodyPost_ret (results_tmp7 rfl _ _ _) rfl ?_
                rw [HP.out, ← QM.out, ← QT.out]
                exact ⟨rfl, F3.out⟩
end
end Go.Proofs.YtcjkgnafpkkjmaaGreatDoor
