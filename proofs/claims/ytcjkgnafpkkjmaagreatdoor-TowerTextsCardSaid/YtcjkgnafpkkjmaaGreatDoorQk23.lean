/- The texts and numbers of numbers: a part of the walk. No condition. -/
import Derived.Test.YtcjkgnafpkkjmaaGreatDoorQk22
set_option linter.all false
section
namespace Go.Proofs.YtcjkgnafpkkjmaaGreatDoor
open Go.ChangeShapes Go.WideShapes Go.RowKit Go.Shelf
theorem ten_cell {W : World} (h : LdX W) : ∃ b o c, 23 ≤ c ∧ W.cell? ⟨10, 0, none⟩ = some (.slice (some ⟨b, o, none⟩) 23 c) ∧ ∀ i, i < 23 → W.cell? ⟨b, o + i, none⟩ = some (.float .f64 (tenN i)) := by
  obtain ⟨b, o, c, h1, h2, h3⟩ := h.tens
  exact ⟨b, o, c, h1, h2, fun i hi => h3 i _ (tens_get i hi)⟩
theorem inf_out {r : Nat} (hr : r < 18446744073709551616) (h1 : r % 9223372036854775808 ≤ 9218868437227405312) (h2 : ¬ Fin64 r) : (FloatKind.f64.format.order r 4831355200913801216 == some .gt) = true ∨ ((FloatKind.f64.format.order r 4831355200913801216 == some .gt) = false ∧ (FloatKind.f64.format.order r 14054727237768577024 == some .lt) = true) := by
  unfold Fin64 at h2
  by_cases hs : r < 9223372036854775808
  · obtain rfl : r = 9218868437227405312 := by omega
    exact .inl (by decide)
  · obtain rfl : r = 18442240474082181120 := by omega
    exact .inr ⟨by decide, by decide⟩
set_option maxRecDepth 100000 in
set_option maxHeartbeats 2000000 in
theorem ex64_c (m : Nat) (p : Int) (neg : Bool) (hm : m < 18446744073709551616) (hp1 : -400 ≤ p) (hp2 : p ≤ 400) : ∃ (f : Nat) (ok : Bool), f < 18446744073709551616 ∧ ∀ w : World, LdX w → Calls Tryz.prog 184 #[.int .u64 (m : Int), .int .i64 p, .bool neg] w fun e w' => e = .returned (.tuple #[.float .f64 f, .bool ok]) ∧ w = w' := by
  by_cases hbig : m / 4503599627370496 ≠ 0
  · refine ⟨0, false, by decide, fun w HX => ?_⟩
    have hb := HX.info.1
    obtain ⟨y, hy⟩ : ∃ y, y = m / 4503599627370496 := ⟨_, rfl⟩
    have e1 : (m : Int) / 4503599627370496 = (y : Int) := by omega
    have e2 : ((y : Int) != 0) = true := by rw [bne_iff_ne]; omega
    clear hy hbig HX
    go_enter Tryz.func184, Tryz.ntmps184
    go_wp2
    go_ret2
    exact ⟨rfl, rfl⟩
  · have hm52 : m < 4503599627370496 := by omega
    have e1 : (m : Int) / 4503599627370496 = 0 := by omega
    obtain ⟨hfin, hlt, hsg, _⟩ := ofR_fin (show m < 9007199254740992 by omega)
    have hoi := ofInt_nat m
    have hng : Op.negFloat .f64 (ofR m) = ofR m + 9223372036854775808 := by
      rw [neg_eq (by omega), hsg]; rfl
    obtain ⟨g, hg⟩ : ∃ g, g = ofR m := ⟨_, rfl⟩
    rw [← hg] at hfin hlt hoi hng
    obtain ⟨F, hF⟩ : ∃ F, F = if neg then g + 9223372036854775808 else g := ⟨_, rfl⟩
    have hFF : Fin64 F := by
      rw [hF]
      unfold Fin64 at hfin ⊢
      split <;> omega
    have hFb : F < 18446744073709551616 := by rw [hF]; split <;> omega
    have hnr := neg_run g
    rw [hng] at hnr
    have HFE := Lib.hid hF
    clear hsg hg hng hF hfin hlt hbig hm hm52
    have HCUT : Hid (∀ b : Bool, neg = b → F = if b then g + 9223372036854775808 else g) := Lib.hid (fun b hb => by rw [HFE.out, hb])
    by_cases h0 : p = 0
    · refine ⟨F, true, hFb, fun w HX => ?_⟩
      subst h0
      have hb := HX.info.1
      obtain ⟨b, o, c, tc, t0, tt⟩ := ten_cell HX
      clear HX
      go_enter Tryz.func184, Tryz.ntmps184
      go_upto_if 15 with fail
      go_cut [6] from 16 to 17 (fun q wx => q = .float .f64 F ∧ w = wx)
      case first =>
        cases neg
        · have e := HCUT.out false rfl
          have HE := Lib.hid e
          go_wp2_with fail
          go_meet
          exact ⟨by rw [HE.out]; rfl, rfl⟩
        · have e := HCUT.out true rfl
          have HE := Lib.hid e
          go_wp2_with fail
          go_meet
          exact ⟨by rw [HE.out]; rfl, rfl⟩
      case rest =>
        obtain ⟨rfl, rfl⟩ := hcut
        go_wp2_with fail
        go_ret2
        exact ⟨rfl, rfl⟩
    · have g0 : (p == 0) = false := by rw [beq_eq_false_iff_ne]; exact h0
      by_cases hpos : 0 < p
      · by_cases h37 : p ≤ 37
        · by_cases h22 : 22 < p
          · obtain ⟨i, hi⟩ : ∃ i : Nat, p - 22 = (i : Int) := ⟨(p - 22).toNat, by omega⟩
            have hi23 : i < 23 := by omega
            have h2223 : (22 : Nat) < 23 := by decide
            obtain ⟨r, hr, hrn, hre⟩ := mul_fin hFF (ten_fin i hi23).1
            by_cases hrf : Fin64 r
            · obtain ⟨q, hq, _, hqe⟩ := mul_fin hrf (ten_fin 22 (by decide)).1
              obtain ⟨c1, hc1⟩ : ∃ c1, c1 = (FloatKind.f64.format.order r 4831355200913801216 == some .gt) := ⟨_, rfl⟩
              obtain ⟨c2, hc2⟩ : ∃ c2, c2 = (FloatKind.f64.format.order r 14054727237768577024 == some .lt) := ⟨_, rfl⟩
              cases c1
              · cases c2
                · refine ⟨q, true, hq, fun w HX => ?_⟩
                  have hm1 : ∀ (t : TypeId) (w : World), (binOp .mul t (.float .f64 F) (.float .f64 (tenN i))).run Tryz.prog w = .ok (.float .f64 r) w := fun t w => run_float_arith w .mul t .f64 _ _ _ hre
                  have hm2 : ∀ (t : TypeId) (w : World), (binOp .mul t (.float .f64 r) (.float .f64 (tenN 22))).run Tryz.prog w = .ok (.float .f64 q) w := fun t w => run_float_arith w .mul t .f64 _ _ _ hqe
                  replace hc1 := hc1.symm
                  replace hc2 := hc2.symm
                  have hb := HX.info.1
                  obtain ⟨b, o, c, tc, t0, tt⟩ := ten_cell HX
                  have T1 := tt i hi23
                  have T2 := tt 22 h2223
                  generalize tenN i = ti at *
                  generalize tenN 22 = t22 at *
                  clear tt hFF hre hqe hrf
                  clear HX
                  go_enter Tryz.func184, Tryz.ntmps184
                  go_upto_if 15 with fail
                  go_cut [6] from 16 to 17 (fun q wx => q = .float .f64 F ∧ w = wx)
                  case first =>
                    cases neg
                    · have e := HCUT.out false rfl
                      have HE := Lib.hid e
                      go_wp2_with fail
                      go_meet
                      exact ⟨by rw [HE.out]; rfl, rfl⟩
                    · have e := HCUT.out true rfl
                      have HE := Lib.hid e
                      go_wp2_with fail
                      go_meet
                      exact ⟨by rw [HE.out]; rfl, rfl⟩
                  case rest =>
                    obtain ⟨rfl, rfl⟩ := hcut
                    go_wp2_with fail
                    go_ret2
                    exact ⟨rfl, rfl⟩
                · skip
                  refine ⟨r, false, hr, fun w HX => ?_⟩
                  have hm1 : ∀ (t : TypeId) (w : World), (binOp .mul t (.float .f64 F) (.float .f64 (tenN i))).run Tryz.prog w = .ok (.float .f64 r) w := fun t w => run_float_arith w .mul t .f64 _ _ _ hre
                  replace hc1 := hc1.symm
                  replace hc2 := hc2.symm
                  clear hqe hq
                  have hb := HX.info.1
                  obtain ⟨b, o, c, tc, t0, tt⟩ := ten_cell HX
                  have T1 := tt i hi23
                  generalize tenN i = ti at *
                  clear tt hFF hre hrf
                  clear HX
                  go_enter Tryz.func184, Tryz.ntmps184
                  go_upto_if 15 with fail
                  go_cut [6] from 16 to 17 (fun q wx => q = .float .f64 F ∧ w = wx)
                  case first =>
                    cases neg
                    · have e := HCUT.out false rfl
                      have HE := Lib.hid e
                      go_wp2_with fail
                      go_meet
                      exact ⟨by rw [HE.out]; rfl, rfl⟩
                    · have e := HCUT.out true rfl
                      have HE := Lib.hid e
                      go_wp2_with fail
                      go_meet
                      exact ⟨by rw [HE.out]; rfl, rfl⟩
                  case rest =>
                    obtain ⟨rfl, rfl⟩ := hcut
                    go_wp2_with fail
                    go_ret2
                    exact ⟨rfl, rfl⟩
              · skip
                refine ⟨r, false, hr, fun w HX => ?_⟩
                have hm1 : ∀ (t : TypeId) (w : World), (binOp .mul t (.float .f64 F) (.float .f64 (tenN i))).run Tryz.prog w = .ok (.float .f64 r) w := fun t w => run_float_arith w .mul t .f64 _ _ _ hre
                replace hc1 := hc1.symm
                clear hqe hq hc2
                have hb := HX.info.1
                obtain ⟨b, o, c, tc, t0, tt⟩ := ten_cell HX
                have T1 := tt i hi23
                generalize tenN i = ti at *
                clear tt hFF hre hrf
                clear HX
                go_enter Tryz.func184, Tryz.ntmps184
                go_upto_if 15 with fail
                go_cut [6] from 16 to 17 (fun q wx => q = .float .f64 F ∧ w = wx)
                case first =>
                  cases neg
                  · have e := HCUT.out false rfl
                    have HE := Lib.hid e
                    go_wp2_with fail
                    go_meet
                    exact ⟨by rw [HE.out]; rfl, rfl⟩
                  · have e := HCUT.out true rfl
                    have HE := Lib.hid e
                    go_wp2_with fail
                    go_meet
                    exact ⟨by rw [HE.out]; rfl, rfl⟩
                case rest =>
                  obtain ⟨rfl, rfl⟩ := hcut
                  go_wp2_with fail
                  go_ret2
                  exact ⟨rfl, rfl⟩
            · rcases inf_out hr hrn hrf with hc1 | ⟨hc1, hc2⟩
              · skip
                refine ⟨r, false, hr, fun w HX => ?_⟩
                have hm1 : ∀ (t : TypeId) (w : World), (binOp .mul t (.float .f64 F) (.float .f64 (tenN i))).run Tryz.prog w = .ok (.float .f64 r) w := fun t w => run_float_arith w .mul t .f64 _ _ _ hre
                have hb := HX.info.1
                obtain ⟨b, o, c, tc, t0, tt⟩ := ten_cell HX
                have T1 := tt i hi23
                generalize tenN i = ti at *
                clear tt hFF hre hrf
                clear HX
                go_enter Tryz.func184, Tryz.ntmps184
                go_upto_if 15 with fail
                go_cut [6] from 16 to 17 (fun q wx => q = .float .f64 F ∧ w = wx)
                case first =>
                  cases neg
                  · have e := HCUT.out false rfl
                    have HE := Lib.hid e
                    go_wp2_with fail
                    go_meet
                    exact ⟨by rw [HE.out]; rfl, rfl⟩
                  · have e := HCUT.out true rfl
                    have HE := Lib.hid e
                    go_wp2_with fail
                    go_meet
                    exact ⟨by rw [HE.out]; rfl, rfl⟩
                case rest =>
                  obtain ⟨rfl, rfl⟩ := hcut
                  go_wp2_with fail
                  go_ret2
                  exact ⟨rfl, rfl⟩
              · skip
                refine ⟨r, false, hr, fun w HX => ?_⟩
                have hm1 : ∀ (t : TypeId) (w : World), (binOp .mul t (.float .f64 F) (.float .f64 (tenN i))).run Tryz.prog w = .ok (.float .f64 r) w := fun t w => run_float_arith w .mul t .f64 _ _ _ hre
                have hb := HX.info.1
                obtain ⟨b, o, c, tc, t0, tt⟩ := ten_cell HX
                have T1 := tt i hi23
                generalize tenN i = ti at *
                clear tt hFF hre hrf
                clear HX
                go_enter Tryz.func184, Tryz.ntmps184
                go_upto_if 15 with fail
                go_cut [6] from 16 to 17 (fun q wx => q = .float .f64 F ∧ w = wx)
                case first =>
                  cases neg
                  · have e := HCUT.out false rfl
                    have HE := Lib.hid e
                    go_wp2_with fail
                    go_meet
                    exact ⟨by rw [HE.out]; rfl, rfl⟩
                  · have e := HCUT.out true rfl
                    have HE := Lib.hid e
                    go_wp2_with fail
                    go_meet
                    exact ⟨by rw [HE.out]; rfl, rfl⟩
                case rest =>
                  obtain ⟨rfl, rfl⟩ := hcut
                  go_wp2_with fail
                  go_ret2
                  exact ⟨rfl, rfl⟩
          · obtain ⟨i, hi⟩ : ∃ i : Nat, p = (i : Int) := ⟨p.toNat, by omega⟩
            have hi23 : i < 23 := by omega
            have g22 : ¬ (22 : Int) < (i : Int) := by omega
            subst hi
            obtain ⟨q, hq, _, hqe⟩ := mul_fin hFF (ten_fin i hi23).1
            obtain ⟨c1, hc1⟩ : ∃ c1, c1 = (FloatKind.f64.format.order F 4831355200913801216 == some .gt) := ⟨_, rfl⟩
            obtain ⟨c2, hc2⟩ : ∃ c2, c2 = (FloatKind.f64.format.order F 14054727237768577024 == some .lt) := ⟨_, rfl⟩
            cases c1
            · cases c2
              · refine ⟨q, true, hq, fun w HX => ?_⟩
                have hm2 : ∀ (t : TypeId) (w : World), (binOp .mul t (.float .f64 F) (.float .f64 (tenN i))).run Tryz.prog w = .ok (.float .f64 q) w := fun t w => run_float_arith w .mul t .f64 _ _ _ hqe
                replace hc1 := hc1.symm
                replace hc2 := hc2.symm
                have hb := HX.info.1
                obtain ⟨b, o, c, tc, t0, tt⟩ := ten_cell HX
                have T1 := tt i hi23
                generalize tenN i = ti at *
                clear tt hFF hqe
                clear HX
                go_enter Tryz.func184, Tryz.ntmps184
                go_upto_if 15 with fail
                go_cut [6] from 16 to 17 (fun q wx => q = .float .f64 F ∧ w = wx)
                case first =>
                  cases neg
                  · have e := HCUT.out false rfl
                    have HE := Lib.hid e
                    go_wp2_with fail
                    go_meet
                    exact ⟨by rw [HE.out]; rfl, rfl⟩
                  · have e := HCUT.out true rfl
                    have HE := Lib.hid e
                    go_wp2_with fail
                    go_meet
                    exact ⟨by rw [HE.out]; rfl, rfl⟩
                case rest =>
                  obtain ⟨rfl, rfl⟩ := hcut
                  go_wp2_with fail
                  go_ret2
                  exact ⟨rfl, rfl⟩
              · refine ⟨F, false, hFb, fun w HX => ?_⟩
                replace hc1 := hc1.symm
                replace hc2 := hc2.symm
                clear hqe
                have hb := HX.info.1
                obtain ⟨b, o, c, tc, t0, tt⟩ := ten_cell HX
                clear tt hFF
                clear HX
                go_enter Tryz.func184, Tryz.ntmps184
                go_upto_if 15 with fail
                go_cut [6] from 16 to 17 (fun q wx => q = .float .f64 F ∧ w = wx)
                case first =>
                  cases neg
                  · have e := HCUT.out false rfl
                    have HE := Lib.hid e
                    go_wp2_with fail
                    go_meet
                    exact ⟨by rw [HE.out]; rfl, rfl⟩
                  · have e := HCUT.out true rfl
                    have HE := Lib.hid e
                    go_wp2_with fail
                    go_meet
                    exact ⟨by rw [HE.out]; rfl, rfl⟩
                case rest =>
                  obtain ⟨rfl, rfl⟩ := hcut
                  go_wp2_with fail
                  go_ret2
                  exact ⟨rfl, rfl⟩
            · refine ⟨F, false, hFb, fun w HX => ?_⟩
              replace hc1 := hc1.symm
              clear hqe hc2
              have hb := HX.info.1
              obtain ⟨b, o, c, tc, t0, tt⟩ := ten_cell HX
              clear tt hFF
              clear HX
              go_enter Tryz.func184, Tryz.ntmps184
              go_upto_if 15 with fail
              go_cut [6] from 16 to 17 (fun q wx => q = .float .f64 F ∧ w = wx)
              case first =>
                cases neg
                · have e := HCUT.out false rfl
                  have HE := Lib.hid e
                  go_wp2_with fail
                  go_meet
                  exact ⟨by rw [HE.out]; rfl, rfl⟩
                · have e := HCUT.out true rfl
                  have HE := Lib.hid e
                  go_wp2_with fail
                  go_meet
                  exact ⟨by rw [HE.out]; rfl, rfl⟩
              case rest =>
                obtain ⟨rfl, rfl⟩ := hcut
                go_wp2_with fail
                go_ret2
                exact ⟨rfl, rfl⟩
        · refine ⟨F, false, hFb, fun w HX => ?_⟩
          have gn : ¬ p < 0 := by omega
          have hb := HX.info.1
          obtain ⟨b, o, c, tc, t0, tt⟩ := ten_cell HX
          clear tt hFF
          clear HX
          go_enter Tryz.func184, Tryz.ntmps184
          go_upto_if 15 with fail
          go_cut [6] from 16 to 17 (fun q wx => q = .float .f64 F ∧ w = wx)
          case first =>
            cases neg
            · have e := HCUT.out false rfl
              have HE := Lib.hid e
              go_wp2_with fail
              go_meet
              exact ⟨by rw [HE.out]; rfl, rfl⟩
            · have e := HCUT.out true rfl
              have HE := Lib.hid e
              go_wp2_with fail
              go_meet
              exact ⟨by rw [HE.out]; rfl, rfl⟩
          case rest =>
            obtain ⟨rfl, rfl⟩ := hcut
            go_wp2_with fail
            go_ret2
            exact ⟨rfl, rfl⟩
      · by_cases h22 : -22 ≤ p
        · obtain ⟨i, hi⟩ : ∃ i : Nat, -p = (i : Int) := ⟨(-p).toNat, by omega⟩
          have hi23 : i < 23 := by omega
          obtain ⟨q, hq, _, hqe⟩ := div_fin hFF (ten_fin i hi23).1 (ten_fin i hi23).2
          refine ⟨q, true, hq, fun w HX => ?_⟩
          have gn : p < 0 := by omega
          have hm2 : ∀ (t : TypeId) (w : World), (binOp .quo t (.float .f64 F) (.float .f64 (tenN i))).run Tryz.prog w = .ok (.float .f64 q) w := fun t w => run_float_arith w .quo t .f64 _ _ _ hqe
          have hb := HX.info.1
          obtain ⟨b, o, c, tc, t0, tt⟩ := ten_cell HX
          have T1 := tt i hi23
          generalize tenN i = ti at *
          clear tt hFF hqe
          clear HX
          go_enter Tryz.func184, Tryz.ntmps184
          go_upto_if 15 with fail
          go_cut [6] from 16 to 17 (fun q wx => q = .float .f64 F ∧ w = wx)
          case first =>
            cases neg
            · have e := HCUT.out false rfl
              have HE := Lib.hid e
              go_wp2_with fail
              go_meet
              exact ⟨by rw [HE.out]; rfl, rfl⟩
            · have e := HCUT.out true rfl
              have HE := Lib.hid e
              go_wp2_with fail
              go_meet
              exact ⟨by rw [HE.out]; rfl, rfl⟩
          case rest =>
            obtain ⟨rfl, rfl⟩ := hcut
            go_wp2_with fail
            go_ret2
            exact ⟨rfl, rfl⟩
        · refine ⟨F, false, hFb, fun w HX => ?_⟩
          have hb := HX.info.1
          obtain ⟨b, o, c, tc, t0, tt⟩ := ten_cell HX
          clear tt hFF
          clear HX
          go_enter Tryz.func184, Tryz.ntmps184
          go_upto_if 15 with fail
          go_cut [6] from 16 to 17 (fun q wx => q = .float .f64 F ∧ w = wx)
          case first =>
            cases neg
            · have e := HCUT.out false rfl
              have HE := Lib.hid e
              go_wp2_with fail
              go_meet
              exact ⟨by rw [HE.out]; rfl, rfl⟩
            · have e := HCUT.out true rfl
              have HE := Lib.hid e
              go_wp2_with fail
              go_meet
              exact ⟨by rw [HE.out]; rfl, rfl⟩
          case rest =>
            obtain ⟨rfl, rfl⟩ := hcut
            go_wp2_with fail
            go_ret2
            exact ⟨rfl, rfl⟩
end Go.Proofs.YtcjkgnafpkkjmaaGreatDoor
end
section
namespace Go.Proofs.YtcjkgnafpkkjmaaGreatDoor
namespace Rgt
def isD (c : UInt8) : Bool := decide (48 ≤ c.toNat) && decide (c.toNat ≤ 57)
def formN (c : UInt8) : Nat :=
  if isD c then 100 else if c.toNat = 43 ∨ c.toNat = 45 then 115 else if c.toNat = 46 then 112 else if c.toNat = 69 ∨ c.toNat = 101 then 101 else 120
def nextQ (st x : Nat) : Nat :=
  if st = 0 ∨ st = 1 then (if x = 100 then 2 else if x = 112 then 4 else if x = 115 ∧ st = 0 then 1 else 9)
  else if st = 2 then (if x = 100 then 2 else if x = 112 then 3 else if x = 101 then 6 else 9)
  else if st = 3 ∨ st = 5 then (if x = 100 then 5 else if x = 101 then 6 else 9)
  else if st = 4 then (if x = 100 then 5 else 9)
  else if st = 6 ∨ st = 7 ∨ st = 8 then (if x = 100 then 8 else if x = 115 ∧ st = 6 then 7 else 9)
  else 9
def stepQ (q : Nat × Nat) (c : UInt8) : Nat × Nat :=
  (nextQ q.1 (formN c), q.2 + (if formN c = 100 ∧ (q.1 = 6 ∨ q.1 = 7 ∨ q.1 = 8) then 1 else 0))
def okQ (q : Nat × Nat) : Bool := decide (q.1 = 3) || decide (q.1 = 5) || (decide (q.1 = 8) && decide (q.2 ≤ 4))
def refRight (s : List UInt8) : Bool := okQ (s.foldl stepQ (0, 0))
def unsg : List UInt8 → List UInt8
  | [] => []
  | c :: r => if c.toNat = 43 ∨ c.toNat = 45 then r else c :: r
def digs : List UInt8 → Nat
  | [] => 0
  | c :: r => if isD c then digs r + 1 else 0
def expR : List UInt8 → Bool
  | [] => false
  | e :: r => if e.toNat = 101 ∨ e.toNat = 69 then (let v := unsg r; decide (1 ≤ digs v) && decide (digs v ≤ 4) && decide (digs v = v.length)) else false
def floRight (s : List UInt8) : Bool :=
  let a := unsg s
  match a.drop (digs a) with
  | [] => false
  | c :: r =>
    if c.toNat = 46 then
      (if digs a + digs r = 0 then false else match r.drop (digs r) with | [] => true | e :: u => expR (e :: u))
    else if digs a = 0 then false else expR (c :: r)
theorem digs_le (s : List UInt8) : digs s ≤ s.length := by
  induction s with
  | nil => exact Nat.le_refl _
  | cons c r ih => unfold digs; split <;> simp <;> omega
theorem digs_drop (s : List UInt8) : s.drop (digs s) = [] ∨ ∃ c r, s.drop (digs s) = c :: r ∧ isD c = false := by
  induction s with
  | nil => exact .inl rfl
  | cons c r ih =>
    unfold digs
    by_cases h : isD c = true
    · rw [if_pos h]; exact ih
    · rw [if_neg h]; exact .inr ⟨c, r, rfl, by simpa using h⟩
theorem digs_take (s : List UInt8) : ∀ c ∈ s.take (digs s), isD c = true := by
  induction s with
  | nil => simp
  | cons c r ih =>
    unfold digs
    by_cases h : isD c = true
    · rw [if_pos h, List.take_succ_cons]
      intro x hx
      rcases List.mem_cons.1 hx with rfl | hx
      · exact h
      · exact ih x hx
    · rw [if_neg h]; simp
theorem formD {c : UInt8} (h : isD c = true) : formN c = 100 := by unfold formN; rw [if_pos h]
theorem formN_ne {c : UInt8} (h : isD c = false) : formN c ≠ 100 := by
  unfold formN
  rw [if_neg (by rw [h]; decide)]
  split
  · decide
  · split
    · decide
    · split <;> decide
theorem form_cases (c : UInt8) : (formN c = 100 ∧ isD c = true) ∨ (formN c = 115 ∧ (c.toNat = 43 ∨ c.toNat = 45)) ∨ (formN c = 112 ∧ c.toNat = 46) ∨ (formN c = 101 ∧ (c.toNat = 69 ∨ c.toNat = 101)) ∨ formN c = 120 := by
  unfold formN
  by_cases h0 : isD c = true
  · rw [if_pos h0]; exact .inl ⟨rfl, h0⟩
  · rw [if_neg h0]
    by_cases h1 : c.toNat = 43 ∨ c.toNat = 45
    · rw [if_pos h1]; exact .inr (.inl ⟨rfl, h1⟩)
    · rw [if_neg h1]
      by_cases h2 : c.toNat = 46
      · rw [if_pos h2]; exact .inr (.inr (.inl ⟨rfl, h2⟩))
      · rw [if_neg h2]
        by_cases h3 : c.toNat = 69 ∨ c.toNat = 101
        · rw [if_pos h3]; exact .inr (.inr (.inr (.inl ⟨rfl, h3⟩)))
        · rw [if_neg h3]; exact .inr (.inr (.inr (.inr rfl)))
theorem not_e {c : UInt8} (he : ¬ (c.toNat = 69 ∨ c.toNat = 101)) : formN c ≠ 101 := by
  rcases form_cases c with h | h | h | h | h
  · rw [h.1]; decide
  · rw [h.1]; decide
  · rw [h.1]; decide
  · exact absurd h.2 he
  · rw [h]; decide
theorem not_p {c : UInt8} (he : ¬ c.toNat = 46) : formN c ≠ 112 := by
  rcases form_cases c with h | h | h | h | h
  · rw [h.1]; decide
  · rw [h.1]; decide
  · exact absurd h.2 he
  · rw [h.1]; decide
  · rw [h]; decide
theorem not_s {c : UInt8} (he : ¬ (c.toNat = 43 ∨ c.toNat = 45)) : formN c ≠ 115 := by
  rcases form_cases c with h | h | h | h | h
  · rw [h.1]; decide
  · exact absurd h.2 he
  · rw [h.1]; decide
  · rw [h.1]; decide
  · rw [h]; decide
theorem fold9 (s : List UInt8) (p : Nat) : okQ (s.foldl stepQ (9, p)) = false := by
  induction s generalizing p with
  | nil => rfl
  | cons c r ih =>
    rw [List.foldl_cons]
    have : stepQ (9, p) c = (9, p + (if formN c = 100 ∧ ((9 : Nat) = 6 ∨ (9 : Nat) = 7 ∨ (9 : Nat) = 8) then 1 else 0)) := rfl
    rw [this]
    exact ih _
theorem fold8 (s : List UInt8) (p : Nat) : okQ (s.foldl stepQ (8, p)) = (decide (digs s = s.length) && decide (p + digs s ≤ 4)) := by
  induction s generalizing p with
  | nil => rfl
  | cons c r ih =>
    rw [List.foldl_cons]
    by_cases h : isD c = true
    · have : stepQ (8, p) c = (8, p + 1) := by simp [stepQ, nextQ, formD h]
      rw [this, ih, digs, if_pos h]
      have e : p + (digs r + 1) = p + 1 + digs r := by omega
      rw [e, List.length_cons]
      congr 1
      simp
    · have hf := formN_ne (by simpa using h)
      have : stepQ (8, p) c = (9, p) := by simp [stepQ, nextQ, hf]
      rw [this, fold9, digs, if_neg h]
      simp
theorem form_sign {c : UInt8} (h : c.toNat = 43 ∨ c.toNat = 45) : formN c = 115 := by
  unfold formN
  rw [if_neg (by unfold isD; rcases h with h | h <;> simp [h]), if_pos h]
theorem form_point {c : UInt8} (h : c.toNat = 46) : formN c = 112 := by
  unfold formN
  rw [if_neg (by unfold isD; simp [h]), if_neg (by omega), if_pos h]
theorem form_e {c : UInt8} (h : c.toNat = 69 ∨ c.toNat = 101) : formN c = 101 := by
  unfold formN
  rw [if_neg (by unfold isD; rcases h with h | h <;> simp [h]), if_neg (by omega), if_neg (by omega), if_pos h]
theorem fold6 (s : List UInt8) : okQ (s.foldl stepQ (6, 0)) = (let v := unsg s; decide (1 ≤ digs v) && decide (digs v ≤ 4) && decide (digs v = v.length)) := by
  cases s with
  | nil => rfl
  | cons c r =>
    rw [List.foldl_cons]
    by_cases hs : c.toNat = 43 ∨ c.toNat = 45
    · have : stepQ (6, 0) c = (7, 0) := by simp [stepQ, nextQ, form_sign hs]
      rw [this, unsg, if_pos hs]
      cases r with
      | nil => rfl
      | cons d t =>
        rw [List.foldl_cons]
        by_cases h : isD d = true
        · have : stepQ (7, 0) d = (8, 1) := by simp [stepQ, nextQ, formD h]
          rw [this, fold8]
          simp only [digs, if_pos h, List.length_cons]
          rw [Nat.add_comm 1 (digs t)]
          simp [Bool.and_comm]
        · have hf := formN_ne (by simpa using h)
          have : stepQ (7, 0) d = (9, 0) := by simp [stepQ, nextQ, hf]
          rw [this, fold9]
          simp [digs, h]
    · rw [unsg, if_neg hs]
      by_cases h : isD c = true
      · have : stepQ (6, 0) c = (8, 1) := by simp [stepQ, nextQ, formD h]
        rw [this, fold8]
        simp only [digs, if_pos h, List.length_cons]
        rw [Nat.add_comm 1 (digs r)]
        simp [Bool.and_comm]
      · have hf := formN_ne (by simpa using h)
        have hf2 : formN c ≠ 115 := not_s hs
        have : stepQ (6, 0) c = (9, 0) := by simp [stepQ, nextQ, hf, hf2]
        rw [this, fold9]
        simp [digs, h]
def tailR (z : Bool) : List UInt8 → Bool
  | [] => z
  | e :: r => expR (e :: r)
theorem fold_e (q : Nat) (hq : q = 2 ∨ q = 3 ∨ q = 5) (c : UInt8) (r : List UInt8) (hd : isD c = false) (hp : q = 2 → c.toNat ≠ 46) : okQ ((c :: r).foldl stepQ (q, 0)) = expR (c :: r) := by
  rw [List.foldl_cons]
  by_cases he : c.toNat = 69 ∨ c.toNat = 101
  · have : stepQ (q, 0) c = (6, 0) := by
      rcases hq with rfl | rfl | rfl <;> simp [stepQ, nextQ, form_e he]
    rw [this, fold6, expR, if_pos (Or.comm.1 he)]
  · have hf := formN_ne hd
    have hf2 : formN c ≠ 101 := not_e he
    have hf3 : q = 2 → formN c ≠ 112 := fun h2 => not_p (hp h2)
    have : stepQ (q, 0) c = (9, 0) := by
      rcases hq with rfl | rfl | rfl <;> simp [stepQ, nextQ, hf, hf2]
      exact hf3 rfl
    rw [this, fold9, expR, if_neg (fun h => he (Or.comm.1 h))]
theorem fold5 (s : List UInt8) : okQ (s.foldl stepQ (5, 0)) = tailR true (s.drop (digs s)) := by
  induction s with
  | nil => rfl
  | cons c r ih =>
    by_cases h : isD c = true
    · rw [List.foldl_cons]
      have : stepQ (5, 0) c = (5, 0) := by simp [stepQ, nextQ, formD h]
      rw [this, ih, digs, if_pos h]
      rfl
    · rw [digs, if_neg h, fold_e 5 (by simp) c r (by simpa using h) (by simp)]
      rfl
theorem fold3 (s : List UInt8) : okQ (s.foldl stepQ (3, 0)) = tailR true (s.drop (digs s)) := by
  cases s with
  | nil => rfl
  | cons c r =>
    by_cases h : isD c = true
    · rw [List.foldl_cons]
      have : stepQ (3, 0) c = (5, 0) := by simp [stepQ, nextQ, formD h]
      rw [this, fold5, digs, if_pos h]
      rfl
    · rw [digs, if_neg h, fold_e 3 (by simp) c r (by simpa using h) (by simp)]
      rfl
theorem fold4 (s : List UInt8) : okQ (s.foldl stepQ (4, 0)) = if digs s = 0 then false else tailR true (s.drop (digs s)) := by
  cases s with
  | nil => rfl
  | cons c r =>
    rw [List.foldl_cons]
    by_cases h : isD c = true
    · have : stepQ (4, 0) c = (5, 0) := by simp [stepQ, nextQ, formD h]
      rw [this, fold5, digs, if_pos h]
      rfl
    · have : stepQ (4, 0) c = (9, 0) := by simp [stepQ, nextQ, formN_ne (show isD c = false by simpa using h)]
      rw [this, fold9, digs, if_neg h]
      rfl
def frontR (n : Nat) : List UInt8 → Bool
  | [] => false
  | c :: r => if c.toNat = 46 then (if n + digs r = 0 then false else tailR true (r.drop (digs r))) else if n = 0 then false else expR (c :: r)
theorem frontR_cons (n : Nat) (c : UInt8) (r : List UInt8) : frontR n (c :: r) = if c.toNat = 46 then (if n + digs r = 0 then false else tailR true (r.drop (digs r))) else if n = 0 then false else expR (c :: r) := rfl
theorem fold2 (s : List UInt8) (n : Nat) : okQ (s.foldl stepQ (2, 0)) = frontR (n + 1) (s.drop (digs s)) := by
  induction s with
  | nil => rfl
  | cons c r ih =>
    by_cases h : isD c = true
    · rw [List.foldl_cons]
      have : stepQ (2, 0) c = (2, 0) := by simp [stepQ, nextQ, formD h]
      rw [this, ih, digs, if_pos h]
      rfl
    · rw [digs, if_neg h, List.drop_zero, frontR_cons]
      by_cases hp : c.toNat = 46
      · rw [if_pos hp, List.foldl_cons]
        have : stepQ (2, 0) c = (3, 0) := by simp [stepQ, nextQ, form_point hp]
        rw [this, fold3, if_neg (by omega)]
      · rw [if_neg hp, fold_e 2 (by simp) c r (by simpa using h) (fun _ => hp), if_neg (by omega)]
theorem tailR_eq (l : List UInt8) : (match l with | [] => true | e :: u => expR (e :: u)) = tailR true l := by cases l <;> rfl
theorem floRight_front (s : List UInt8) : floRight s = frontR (digs (unsg s)) ((unsg s).drop (digs (unsg s))) := by
  unfold floRight
  simp only [tailR_eq]
  generalize (unsg s).drop (digs (unsg s)) = t
  cases t <;> rfl
theorem fold01 (q : Nat) (hq : q = 0 ∨ q = 1) (a : List UInt8) (hs : q = 0 → ∀ c r, a = c :: r → ¬ (c.toNat = 43 ∨ c.toNat = 45)) : okQ (a.foldl stepQ (q, 0)) = frontR (digs a) (a.drop (digs a)) := by
  cases a with
  | nil => rcases hq with rfl | rfl <;> rfl
  | cons c r =>
    rw [List.foldl_cons]
    by_cases h : isD c = true
    · have : stepQ (q, 0) c = (2, 0) := by rcases hq with rfl | rfl <;> simp [stepQ, nextQ, formD h]
      rw [this, fold2 r (digs r), digs, if_pos h]
      rfl
    · rw [digs, if_neg h, List.drop_zero, frontR_cons]
      by_cases hp : c.toNat = 46
      · have : stepQ (q, 0) c = (4, 0) := by rcases hq with rfl | rfl <;> simp [stepQ, nextQ, form_point hp]
        rw [this, fold4, if_pos hp, Nat.zero_add]
      · have hf := formN_ne (show isD c = false by simpa using h)
        have hf2 : formN c ≠ 112 := not_p hp
        have hf3 : q = 0 → formN c ≠ 115 := fun h0 => not_s (hs h0 c r rfl)
        have : stepQ (q, 0) c = (9, 0) := by
          rcases hq with rfl | rfl
          · have := hf3 rfl; simp [stepQ, nextQ, hf, hf2, this]
          · simp [stepQ, nextQ, hf, hf2]
        rw [this, fold9, if_neg hp, if_pos rfl]
theorem right_same (s : List UInt8) : refRight s = floRight s := by
  rw [floRight_front]
  unfold refRight
  cases s with
  | nil => rfl
  | cons c r =>
    by_cases hs : c.toNat = 43 ∨ c.toNat = 45
    · rw [List.foldl_cons, unsg, if_pos hs]
      have : stepQ (0, 0) c = (1, 0) := by simp [stepQ, nextQ, form_sign hs]
      rw [this]
      exact fold01 1 (.inr rfl) r (by simp)
    · rw [unsg, if_neg hs]
      exact fold01 0 (.inl rfl) (c :: r) (by rintro - c' r' h; cases h; exact hs)
structure Made (s sg I F ex : List UInt8) (dot : Bool) : Prop where
  eq : s = sg ++ (I ++ ((if dot then 46 :: F else []) ++ ex))
  sgn : sg = [] ∨ ∃ c : UInt8, sg = [c] ∧ (c.toNat = 43 ∨ c.toNat = 45)
  dI : ∀ c ∈ I, isD c = true
  dF : ∀ c ∈ F, isD c = true
  fF : dot = false → F = []
  some : 1 ≤ I.length + F.length
  exp : ex = [] ∨ ∃ (e : UInt8) (s2 D : List UInt8), ex = e :: (s2 ++ D) ∧ (e.toNat = 69 ∨ e.toNat = 101) ∧ (s2 = [] ∨ ∃ c : UInt8, s2 = [c] ∧ (c.toNat = 43 ∨ c.toNat = 45)) ∧ (∀ c ∈ D, isD c = true) ∧ 1 ≤ D.length ∧ D.length ≤ 4
theorem unsg_split (s : List UInt8) : ∃ sg, s = sg ++ unsg s ∧ (sg = [] ∨ ∃ c : UInt8, sg = [c] ∧ (c.toNat = 43 ∨ c.toNat = 45)) := by
  cases s with
  | nil => exact ⟨[], rfl, .inl rfl⟩
  | cons c r =>
    by_cases h : c.toNat = 43 ∨ c.toNat = 45
    · exact ⟨[c], by rw [unsg, if_pos h]; rfl, .inr ⟨c, rfl, h⟩⟩
    · exact ⟨[], by rw [unsg, if_neg h]; rfl, .inl rfl⟩
theorem exp_split {x : List UInt8} (h : expR x = true) : ∃ (e : UInt8) (s2 D : List UInt8), x = e :: (s2 ++ D) ∧ (e.toNat = 69 ∨ e.toNat = 101) ∧ (s2 = [] ∨ ∃ c : UInt8, s2 = [c] ∧ (c.toNat = 43 ∨ c.toNat = 45)) ∧ (∀ c ∈ D, isD c = true) ∧ 1 ≤ D.length ∧ D.length ≤ 4 := by
  cases x with
  | nil => exact absurd h (by simp [expR])
  | cons e r =>
    by_cases he : e.toNat = 101 ∨ e.toNat = 69
    · rw [expR, if_pos he] at h
      simp only [Bool.and_eq_true, decide_eq_true_eq] at h
      obtain ⟨⟨h1, h2⟩, h3⟩ := h
      obtain ⟨s2, e2, hs2⟩ := unsg_split r
      refine ⟨e, s2, unsg r, by rw [← e2], Or.comm.1 he, hs2, ?_, by omega, by omega⟩
      have := digs_take (unsg r)
      rw [h3, List.take_length] at this
      exact this
    · rw [expR, if_neg he] at h
      exact absurd h (by simp)
theorem made_of (s : List UInt8) (h : floRight s = true) : ∃ sg I F ex dot, Made s sg I F ex dot := by
  rw [floRight_front] at h
  obtain ⟨sg, e1, hsg⟩ := unsg_split s
  obtain ⟨a, ha⟩ : ∃ a, a = unsg s := ⟨_, rfl⟩
  rw [← ha] at h e1
  have hI := digs_take a
  have e2 : a = a.take (digs a) ++ a.drop (digs a) := (List.take_append_drop _ _).symm
  have hl : (a.take (digs a)).length = digs a := by rw [List.length_take]; exact Nat.min_eq_left (digs_le a)
  generalize a.drop (digs a) = t at h e2
  cases t with
  | nil => exact absurd h (by simp [frontR])
  | cons c r =>
    rw [frontR_cons] at h
    by_cases hp : c.toNat = 46
    · rw [if_pos hp] at h
      have hc : c = 46 := by apply UInt8.toNat_inj.1; rw [hp]; rfl
      subst hc
      split at h
      · exact absurd h (by simp)
      · rename_i hn
        have e3 : r = r.take (digs r) ++ r.drop (digs r) := (List.take_append_drop _ _).symm
        have hlr : (r.take (digs r)).length = digs r := by rw [List.length_take]; exact Nat.min_eq_left (digs_le r)
        have hF := digs_take r
        generalize r.drop (digs r) = u at h e3
        refine ⟨sg, a.take (digs a), r.take (digs r), u, true, ⟨?_, hsg, hI, hF, by simp, by omega, ?_⟩⟩
        · rw [if_pos rfl, List.cons_append, ← e3, ← e2]; exact e1
        · cases u with
          | nil => exact .inl rfl
          | cons x y => exact .inr (exp_split h)
    · rw [if_neg hp] at h
      split at h
      · exact absurd h (by simp)
      · rename_i hn
        refine ⟨sg, a.take (digs a), [], c :: r, false, ⟨?_, hsg, hI, by simp, by simp, by rw [hl]; simp only [List.length_nil]; omega, .inr (exp_split h)⟩⟩
        rw [if_neg (by simp), List.nil_append, ← e2]; exact e1
end Rgt
end Go.Proofs.YtcjkgnafpkkjmaaGreatDoor
end
