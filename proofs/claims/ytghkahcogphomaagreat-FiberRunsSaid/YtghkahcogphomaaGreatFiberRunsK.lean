/- The law FiberRuns holds: the Go function returns true for every argument, and changes nothing that was there. No condition. -/
import Derived.Test.YtghkahcogphomaaGreatQk50
import Derived.ProofKit
import Derived.ChangeOld
namespace Go.Proofs.YtghkahcogphomaaGreat.fiberRuns
open Go.ChangeShapes Go.WideShapes Go.ChangeAt Go.RowKit Go.Proofs.YtghkahcogphomaaGreat
set_option linter.unusedVariables false
set_option maxRecDepth 100000 in
set_option maxHeartbeats 4000000 in
theorem walk (rem : Bool) (aa : Option Addr) (len cap : Nat) (N : Nat → AV) (w : World) (hN : IsActs20 w aa len cap N) :
    Calls Tryz.prog 4 #[.bool rem, .slice aa len cap] w fun e w' => e = .returned (.bool true) ∧ Below w.heap.size w w' := by
  have H := Lib.hid hN
  have hlc := hN.2.2.1
  clear hN
  by_cases hbig : 120 < len
  · have b0 : decide (120 < (len : Int)) = true := by simp; omega
    go_enter Tryz.func4, Tryz.ntmps4
    go_wp2_with (go_at_call 5; refine (fiberAlive_c _).mono ?_; rintro e w' ⟨rfl, F1⟩)
    go_ret
    exact ⟨rfl, F1.below⟩
  have b0 : decide (120 < (len : Int)) = false := by simp; omega
  go_enter Tryz.func4, Tryz.ntmps4
  go_upto_region 3 with (go_at_call 5; refine (fiberAlive_c _).mono ?_; rintro e w1 ⟨rfl, F1⟩)
  have HF1 := Lib.hid F1
  have H1 : Hid (IsActs20 w1 aa len cap N) := Lib.hid (H.out.keep F1)
  have CF := Lib.hid (fair_c w1 aa len cap N H1.out (by omega))
  clear F1
  go_wp2_with fail
  refine CF.out.mono ?_
  rintro e w2 ⟨b, rfl, hb, F2⟩
  have HF2 : Hid (Fr [] w w2) := Lib.hid (HF1.out.trans F2 (by simp))
  have HB := Lib.hid hb
  clear hb F2 CF
  cases b with
  | false =>
    go_wp2
    go_ret
    exact ⟨rfl, HF2.out.below⟩
  | true =>
    have HA : Hid (∀ i, i < len → (N i).Fair) := Lib.hid (HB.out rfl)
    have CM := Lib.hid (efx_made w2 rem HF2.out)
    clear HB
    go_wp2_with fail
    refine CM.out.mono ?_
    rintro e w3 ⟨xb, rfl, hE⟩
    clear CM
    go_wp2_with fail
    go_loopw [24] (fun u wr => ∃ k : Nat, k ≤ len ∧ u = .int .i64 (k : Int) ∧ Hid (EFx w xb false wr)) (fun u _ => len - (intOf u).toNat)
    case atStart => exact ⟨0, Nat.zero_le _, rfl, hE⟩
    case round =>
      obtain ⟨k, hk, rfl, HE⟩ := hrel
      clear hE
      by_cases hlt : k < len
      · obtain ⟨ab, ao, kd, n, m, word, deep, la, ln, lc, qa, qn, qc, p0, p1, haa, hab, a0, a1, a2, a3, a4, a5, a6, a7, a8, EC⟩ := act_letters H.out HE.out.fr hlt
        have HI := Lib.hid (H.out.2.1 k hlt)
        have HK := Lib.hid (HA.out k hlt)
        rw [haa]
        clear haa
        go_upto_region 11 with fail
        obtain ⟨W4, hW4⟩ : ∃ W, W = wr.alloc (.cells #[.int .i64 kd, .int .i64 n, .int .i64 m, .int .u64 word, .bool deep, .slice la ln lc, .slice qa qn qc, .int .i64 p0, .int .i64 p1] 33) := ⟨_, rfl⟩
        obtain ⟨bb, hbb⟩ : ∃ k, k = wr.heap.size := ⟨_, rfl⟩
        have E4 : Hid (EFx w xb false W4) := Lib.hid (by rw [hW4]; exact HE.out.keep ((Fr.refl _ _).alloc _))
        have PB : Hid (blk W4 bb = some (.cells #[.int .i64 kd, .int .i64 n, .int .i64 m, .int .u64 word, .bool deep, .slice la ln lc, .slice qa qn qc, .int .i64 p0, .int .i64 p1] 33 (0, 0))) := Lib.hid (by rw [hW4, hbb, zB, if_pos rfl])
        have CS := Lib.hid (efx_step E4.out HI.out HK.out)
        rw [← EC.out.1] at CS
        rw [← hW4]
        try rw [← hbb]
        clear hW4 hbb a0 a1 a2 a3 a4 a5 a6 a7 a8 hab EC
        have c0 := zA PB.out (i := 0) rfl
        have c1 := zA PB.out (i := 1) rfl
        have c2 := zA PB.out (i := 2) rfl
        have c3 := zA PB.out (i := 3) rfl
        have c4 := zA PB.out (i := 4) rfl
        have c5 := zA PB.out (i := 5) rfl
        have c6 := zA PB.out (i := 6) rfl
        have c7 := zA PB.out (i := 7) rfl
        have c8 := zA PB.out (i := 8) rfl
        go_wp2_with fail
        refine CS.out.mono ?_
        rintro e w5 ⟨rfl, f, hE5⟩
        clear CS HE E4
        cases f with
        | true =>
          have x5 := hE5.out.cell
          go_wp2
          go_ret
          exact ⟨rfl, hE5.out.fr.below⟩
        | false =>
          have x5 := hE5.out.cell
          go_wp2_with (go_at_call 11; refine (efx_same hE5.out).mono ?_; rintro e w6 ⟨rfl, hE6⟩)
          go_roundw
          case rel => exact ⟨k + 1, by omega, by rw [Int.natCast_add]; rfl, hE6⟩
          case measure => show len - ((k : Int) + 1).toNat < len - (k : Int).toNat; omega
      · obtain rfl : k = len := by omega
        have CE := Lib.hid (empties_c HE.out.ei)
        go_wp2_with (go_at_call 12; refine CE.out.mono ?_; rintro e w5 ⟨rfl, hE5⟩; have HE5 := Lib.hid hE5; clear hE5)
        go_ret
        obtain ⟨_, _, _, _, _, _, _, _, _, _, hfin⟩ := HE5.out
        exact ⟨rfl, hfin.below⟩
theorem own : ownKnob Tryz.prog.godebug = none := by kernel_rfl
theorem laidOut : laidOutB Tryz.prog = true := by kernel_rfl
set_option maxRecDepth 100000 in
theorem lifted (os : Os) (started : os.Started) (H : Type) (enc : TypeId × Value → H) :
    ReturnsInHanded {} Tryz.checked os 4 .any (Rows.fiberRunsSpec.pre6 enc Tryz.prog Tryz.f4 Rows.fiberRunsRow.domain false) (Rows.fiberRunsSpec.post enc Tryz.prog Tryz.f4 false true false false) := by
  refine returnsInHanded_of_change (C := Tryz.checked) own started (by kernel_rfl) Tryz.func4
    (ChangeSpec.witness6 (enc := enc) (C := Tryz.checked) false ⟨#[], #[.bool false, .slice none 0 0], []⟩ 8 (by kernel_rfl) (by kernel_rfl) (by kernel_rfl) (by kernel_rfl)) ?_
  intro W base args ds gs before hval0 hW hcnd _
  have hval : ∀ (j : Nat) t v, Tryz.f4.params[j]? = some t → args[j]? = some v → Value.okWide Tryz.prog W .any base t v := hval0
  have hW' := hW
  obtain ⟨p, q, hA0, hV, rfl, hfz, hnd⟩ := hW
  have hA : DataW.TrodAll enc Tryz.prog W 0 (fun _ => true) true Tryz.f4.params.toList args.toList ds p := hA0
  rw [Tryz.params4] at hA hval
  obtain ⟨v0, vs0, d0, ds0, p0, q0, hargs, rfl, rfl, h0, r0⟩ := trodAll_cons hA
  obtain ⟨v1, vs1, d1, ds1, p1, q1, rfl, rfl, rfl, h1, r1⟩ := trodAll_cons r0
  obtain ⟨rfl, rfl, rfl⟩ := trodAll_nil r1
  obtain rfl : args = #[v0, v1] := by cases args; simp_all
  obtain ⟨rfl, rfl⟩ := trodVars_none hV
  obtain ⟨a0, rfl, rfl, rfl⟩ := open_bool Tryz.underlying4 (hval 0 4 v0 rfl rfl) h0
  obtain ⟨a1, len1, cap1, rfl⟩ := okWide_slice Tryz.underlying22 (hval 1 22 v1 rfl rfl)
  have k1 := h1
  have lt1 : ∀ x ∈ p1, x.block < W.heap.size := by obtain ⟨m, hm⟩ := k1; exact DataW.trod_lt m _ _ _ hm
  obtain ⟨z1, w1⟩ := opener20 h1
  clear hA0 hval0
  refine (walk a0 a1 len1 cap1 z1 W w1).mono fun e W' ⟨he, bel⟩ => ?_
  subst he
  exact ⟨_, rfl, _, _, _, [], _, [], hW', trodAll_mk1 (shut_bool Tryz.underlying4 _), (trodAll_cons_mk (shut_bool Tryz.underlying4 a0) (trodAll_cons_mk (Below.trod laidOut (by kernel_rfl) (of_decide_eq_true (by kernel_rfl)) k1 bel lt1) trodAll_mk0)), rfl, bel.frame _, fun h => by cases h⟩
theorem over : Rows.fiberRunsRow.holds Tryz.pinned (OpenSpec.ofChange Rows.fiberRunsSpec) :=
  OpenClaim.holds_of_wide 4 Tryz.f4 rfl rfl rfl rfl rfl rfl rfl ⟨rfl, rfl, rfl, rfl, rfl⟩ rfl rfl rfl rfl rfl (by kernel_rfl) Tryz.func4 (by kernel_rfl)
    (of_decide_eq_true (by kernel_rfl)) (by unfold Func.isWrapper; first | (rw [if_pos (by decide +kernel)]; kernel_rfl) | (rw [if_neg (by decide +kernel)]; exact ⟨rfl, rfl⟩))
    (fun os started H enc _ => lifted os started H enc)
/-- THE STATEMENT -/
theorem proved : Rows.FiberRunsSaid := over
#print axioms proved
end Go.Proofs.YtghkahcogphomaaGreat.fiberRuns
