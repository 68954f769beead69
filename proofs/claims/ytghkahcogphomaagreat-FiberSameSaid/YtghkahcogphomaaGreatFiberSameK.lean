/- The law FiberSame holds: the Go function returns true for every argument, and changes nothing that was there. No condition. -/
import Derived.Test.YtghkahcogphomaaGreatQk51
import Derived.Deep.RegionHeld3
import Derived.ProofKit
import Derived.ChangeOld
namespace Go.Proofs.YtghkahcogphomaaGreat.fiberSame
open Go.ChangeShapes Go.WideShapes Go.ChangeAt Go.RowKit Go.Proofs.YtghkahcogphomaaGreat
set_option linter.unusedVariables false
set_option maxRecDepth 100000 in
set_option maxHeartbeats 8000000 in
theorem walk (aa : Option Addr) (len cap : Nat) (N : Nat → AV) (w : World) (hN : IsActs20 w aa len cap N) :
    Calls Tryz.prog 3 #[.slice aa len cap] w fun e w' => e = .returned (.bool true) ∧ Below w.heap.size w w' := by
  have H := Lib.hid hN
  have hlc := hN.2.2.1
  clear hN
  by_cases hbig : 120 < len
  · have b0 : decide (120 < (len : Int)) = true := by simp; omega
    go_enter Tryz.func3, Tryz.ntmps3
    go_wp2_with (go_at_call 5; refine (fiberAlive_c _).mono ?_; rintro e w' ⟨rfl, F1⟩)
    go_ret
    exact ⟨rfl, F1.below⟩
  have b0 : decide (120 < (len : Int)) = false := by simp; omega
  go_enter Tryz.func3, Tryz.ntmps3
  go_upto_region 3 with (go_at_call 5; refine (fiberAlive_c _).mono ?_; rintro e w1 ⟨rfl, F1⟩)
  have HF1 := Lib.hid F1
  have H1 : Hid (IsActs20 w1 aa len cap N) := Lib.hid (H.out.keep F1)
  have CF := Lib.hid (fair_c w1 aa len cap N H1.out (by omega))
  clear F1
  go_wp2_with fail
  refine CF.out.mono ?_
  rintro e w2 ⟨b, rfl, hb, F2⟩
  have HF2 : Hid (Fr [] w w2) := Lib.hid (HF1.out.trans F2 (by simp))
  have HB := Lib.hid hb
  clear hb F2 CF
  cases b with
  | false =>
    go_wp2
    go_ret
    exact ⟨rfl, HF2.out.below⟩
  | true =>
    have HA : Hid (∀ i, i < len → (N i).Fair) := Lib.hid (HB.out rfl)
    have CM := Lib.hid (runmade_c w2 true)
    clear HB
    go_wp2_with fail
    refine CM.out.mono ?_
    rintro e w3 hM
    obtain ⟨xb, rfl, CM2⟩ := e2_made HF2.out hM
    clear CM hM
    go_wp2_with fail
    refine CM2.out.mono ?_
    rintro e w4 ⟨yb, rfl, hE⟩
    clear CM2
    go_wp2_with fail
    go_loopw [33] (fun u wr => ∃ k : Nat, k ≤ len ∧ u = .int .i64 (k : Int) ∧ Hid (E20 w xb yb wr)) (fun u _ => len - (intOf u).toNat)
    case atStart => exact ⟨0, Nat.zero_le _, rfl, hE⟩
    case round =>
      obtain ⟨k, hk, rfl, HE⟩ := hrel
      clear hE
      by_cases hlt : k < len
      · obtain ⟨ab, ao, kd, n, m, word, deep, la, ln, lc, qa, qn, qc, p0, p1, haa, hab, a0, a1, a2, a3, a4, a5, a6, a7, a8, EC⟩ := act_letters H.out HE.out.fr hlt
        have HI := Lib.hid (H.out.2.1 k hlt)
        have HK := Lib.hid (HA.out k hlt)
        have HW : Hid (W64 word) := Lib.hid (by rw [EC.out.2]; exact HI.out.wd)
        rw [haa]
        clear haa
        go_upto_region 11 with fail
        obtain ⟨W4, hW4⟩ : ∃ W, W = wr.alloc (.cells #[.int .i64 kd, .int .i64 n, .int .i64 m, .int .u64 word, .bool deep, .slice la ln lc, .slice qa qn qc, .int .i64 p0, .int .i64 p1] 33) := ⟨_, rfl⟩
        obtain ⟨bb, hbb⟩ : ∃ k, k = wr.heap.size := ⟨_, rfl⟩
        have E4 : Hid (E2 w xb yb false false Eq bb (.cells #[.int .i64 kd, .int .i64 n, .int .i64 m, .int .u64 word, .bool deep, .slice la ln lc, .slice qa qn qc, .int .i64 p0, .int .i64 p1] 33) W4) := Lib.hid (by rw [hW4, hbb]; exact HE.out.box _)
        have CS := Lib.hid (e2_stepx E4.out HI.out HK.out)
        have CY : Hid (∀ W f, E2 w xb yb f false (fun k1 k2 => k1 = stepK (N k) k2) bb (.cells #[.int .i64 kd, .int .i64 n, .int .i64 m, .int .u64 word, .bool deep, .slice la ln lc, .slice qa qn qc, .int .i64 p0, .int .i64 p1] 33) W → Calls Tryz.prog 8 #[.pointer (some ⟨yb, 0, none⟩), .agg (N k).cells] W fun e w' => e = .returned (.bool true) ∧ ∃ g, Hid (E2 w xb yb f g Eq bb (.cells #[.int .i64 kd, .int .i64 n, .int .i64 m, .int .u64 word, .bool deep, .slice la ln lc, .slice qa qn qc, .int .i64 p0, .int .i64 p1] 33) w')) := Lib.hid (fun W f h => e2_stepy h HI.out HK.out)
        rw [← EC.out.1] at CS CY
        rw [← hW4]
        try rw [← hbb]
        clear hW4 hbb a0 a1 a2 a3 a4 a5 a6 a7 a8 hab EC HE
        have PB := Lib.hid E4.out.ob
        have c0 := zA PB.out (i := 0) rfl
        have c1 := zA PB.out (i := 1) rfl
        have c2 := zA PB.out (i := 2) rfl
        have c3 := zA PB.out (i := 3) rfl
        have c4 := zA PB.out (i := 4) rfl
        have c5 := zA PB.out (i := 5) rfl
        have c6 := zA PB.out (i := 6) rfl
        have c7 := zA PB.out (i := 7) rfl
        have c8 := zA PB.out (i := 8) rfl
        go_wp2_with fail
        refine CS.out.mono ?_
        rintro e w5 ⟨rfl, f, hE5⟩
        clear c0 c1 c2 c3 c4 c5 c6 c7 c8 PB E4 CS
        have PB := Lib.hid hE5.out.ob
        have c0 := zA PB.out (i := 0) rfl
        have c1 := zA PB.out (i := 1) rfl
        have c2 := zA PB.out (i := 2) rfl
        have c3 := zA PB.out (i := 3) rfl
        have c4 := zA PB.out (i := 4) rfl
        have c5 := zA PB.out (i := 5) rfl
        have c6 := zA PB.out (i := 6) rfl
        have c7 := zA PB.out (i := 7) rfl
        have c8 := zA PB.out (i := 8) rfl
        go_wp2_with fail
        refine (CY.out w5 f hE5.out).mono ?_
        rintro e w6 ⟨rfl, g, hE6⟩
        clear c0 c1 c2 c3 c4 c5 c6 c7 c8 PB CY hE5
        obtain ⟨x5, y5⟩ := hE6.out.cells
        cases f with
        | true =>
          go_wp2
          go_ret
          exact ⟨rfl, hE6.out.fr.below⟩
        | false =>
          cases g with
          | true =>
            go_wp2
            go_ret
            exact ⟨rfl, hE6.out.fr.below⟩
          | false =>
            obtain ⟨kx, ky, u, v, nn, bo, PP, hP, PM, PC, FX, FY, NX, NY, PE⟩ := e2_same hE6.out word HW.out
            have KEEP : Hid (∀ W, PP W → W.cell? ⟨xb, 1, none⟩ = some (.pointer (some ⟨kx, 0, none⟩)) ∧ W.cell? ⟨yb, 1, none⟩ = some (.pointer (some ⟨ky, 0, none⟩)) ∧ W.cell? ⟨bb, 3, none⟩ = some (.int .u64 word)) := Lib.hid (fun W h => ⟨(PC.out W h).1, (PC.out W h).2.1, zA (PC.out W h).2.2 (i := 3) rfl⟩)
            have FR6 : Hid (∀ W, PP W → E20 w xb yb W) := PE
            have hPd := PM.out _ _ hP (Fr.refl _ _).drew
            have ST := KEEP.out _ hP
            go_wp2_with fail
            clear x5 y5
            go_region_held3 (fun W => W.cell? ⟨xb, 1, none⟩ = some (.pointer (some ⟨kx, 0, none⟩)) ∧ W.cell? ⟨yb, 1, none⟩ = some (.pointer (some ⟨ky, 0, none⟩)) ∧ W.cell? ⟨bb, 3, none⟩ = some (.int .u64 word)) (first | with_reducible assumption | exact KEEP.out _ (by assumption)) (first | (go_at_call 9; refine (FX.out _ (by assumption)).mono ?_; rintro e w7 ⟨rfl, hP7⟩))
            clear ST hP hPd
            have hPd7 := PM.out _ _ hP7 (Fr.refl _ _).drew
            have ST := KEEP.out _ hP7
            go_wp2_with fail
            go_region_held3 (fun W => W.cell? ⟨xb, 1, none⟩ = some (.pointer (some ⟨kx, 0, none⟩)) ∧ W.cell? ⟨yb, 1, none⟩ = some (.pointer (some ⟨ky, 0, none⟩)) ∧ W.cell? ⟨bb, 3, none⟩ = some (.int .u64 word)) (first | with_reducible assumption | exact KEEP.out _ (by assumption)) (first | (go_at_call 9; refine (FY.out _ (by assumption)).mono ?_; rintro e w8 ⟨rfl, hP8⟩))
            clear ST hP7 hPd7
            have hPd8 := PM.out _ _ hP8 (Fr.refl _ _).drew
            have ST := KEEP.out _ hP8
            have bu : (u != u) = false := by simp
            have bv : (v != v) = false := by simp
            have bbo : (bo != bo) = false := by simp
            have bn : (nn != nn) = false := by simp
            go_wp2_with fail
            go_region_held3 (fun W => W.cell? ⟨xb, 1, none⟩ = some (.pointer (some ⟨kx, 0, none⟩)) ∧ W.cell? ⟨yb, 1, none⟩ = some (.pointer (some ⟨ky, 0, none⟩)) ∧ W.cell? ⟨bb, 3, none⟩ = some (.int .u64 word)) (first | with_reducible assumption | exact KEEP.out _ (by assumption)) (first | (go_at_call_of 10 kx; refine (NX.out _ (by assumption)).mono ?_; rintro e w9 ⟨rfl, hP9⟩) | (go_at_call_of 10 ky; refine (NY.out _ (by assumption)).mono ?_; rintro e wa ⟨rfl, hPa⟩))
            all_goals
              clear bu bv bbo bn ST
              go_wp2
              go_roundw
              case rel => exact ⟨k + 1, by omega, by rw [Int.natCast_add]; rfl, Lib.hid (PE.out _ (by assumption))⟩
              case measure => show len - ((k : Int) + 1).toNat < len - (k : Int).toNat; omega
      · obtain rfl : k = len := by omega
        go_wp2
        go_ret
        exact ⟨rfl, HE.out.fr.below⟩
theorem own : ownKnob Tryz.prog.godebug = none := by kernel_rfl
theorem laidOut : laidOutB Tryz.prog = true := by kernel_rfl
set_option maxRecDepth 100000 in
theorem lifted (os : Os) (started : os.Started) (H : Type) (enc : TypeId × Value → H) :
    ReturnsInHanded {} Tryz.checked os 3 .any (Rows.fiberSameSpec.pre6 enc Tryz.prog Tryz.f3 Rows.fiberSameRow.domain false) (Rows.fiberSameSpec.post enc Tryz.prog Tryz.f3 false true false false) := by
  refine returnsInHanded_of_change (C := Tryz.checked) own started (by kernel_rfl) Tryz.func3
    (ChangeSpec.witness6 (enc := enc) (C := Tryz.checked) false ⟨#[], #[.slice none 0 0], []⟩ 8 (by kernel_rfl) (by kernel_rfl) (by kernel_rfl) (by kernel_rfl)) ?_
  intro W base args ds gs before hval0 hW hcnd _
  have hval : ∀ (j : Nat) t v, Tryz.f3.params[j]? = some t → args[j]? = some v → Value.okWide Tryz.prog W .any base t v := hval0
  have hW' := hW
  obtain ⟨p, q, hA0, hV, rfl, hfz, hnd⟩ := hW
  have hA : DataW.TrodAll enc Tryz.prog W 0 (fun _ => true) true Tryz.f3.params.toList args.toList ds p := hA0
  rw [Tryz.params3] at hA hval
  obtain ⟨v0, vs0, d0, ds0, p0, q0, hargs, rfl, rfl, h0, r0⟩ := trodAll_cons hA
  obtain ⟨rfl, rfl, rfl⟩ := trodAll_nil r0
  obtain rfl : args = #[v0] := by cases args; simp_all
  obtain ⟨rfl, rfl⟩ := trodVars_none hV
  obtain ⟨a0, len0, cap0, rfl⟩ := okWide_slice Tryz.underlying22 (hval 0 22 v0 rfl rfl)
  have k0 := h0
  have lt0 : ∀ x ∈ p0, x.block < W.heap.size := by obtain ⟨m, hm⟩ := k0; exact DataW.trod_lt m _ _ _ hm
  obtain ⟨z0, w0⟩ := opener20 h0
  clear hA0 hval0
  refine (walk a0 len0 cap0 z0 W w0).mono fun e W' ⟨he, bel⟩ => ?_
  subst he
  exact ⟨_, rfl, _, _, _, [], _, [], hW', trodAll_mk1 (shut_bool Tryz.underlying4 _), (trodAll_cons_mk (Below.trod laidOut (by kernel_rfl) (of_decide_eq_true (by kernel_rfl)) k0 bel lt0) trodAll_mk0), rfl, bel.frame _, fun h => by cases h⟩
theorem over : Rows.fiberSameRow.holds Tryz.pinned (OpenSpec.ofChange Rows.fiberSameSpec) :=
  OpenClaim.holds_of_wide 3 Tryz.f3 rfl rfl rfl rfl rfl rfl rfl ⟨rfl, rfl, rfl, rfl, rfl⟩ rfl rfl rfl rfl rfl (by kernel_rfl) Tryz.func3 (by kernel_rfl)
    (of_decide_eq_true (by kernel_rfl)) (by unfold Func.isWrapper; first | (rw [if_pos (by decide +kernel)]; kernel_rfl) | (rw [if_neg (by decide +kernel)]; exact ⟨rfl, rfl⟩))
    (fun os started H enc _ => lifted os started H enc)
/-- THE STATEMENT -/
theorem proved : Rows.FiberSameSaid := over
#print axioms proved
end Go.Proofs.YtghkahcogphomaaGreat.fiberSame
