/- The law CollectKeeps holds for every input: the Go function returns true and leaves its arguments as they were. No condition. -/
import Derived.Test.YtjgndfhfiekomaaZR
import Derived.Test.YtjgndfhfiekomaaZP
import Derived.ProofKit
import Derived.ChangeOld
namespace Go.Proofs.Ytjgndfhfiekomaa.collectKeeps
open Go.ChangeShapes Go.WideShapes Go.ChangeAt Go.RowKit
set_option linter.unusedVariables false
set_option linter.unusedSimpArgs false
theorem early (n : Int) (a : Option Addr) (len cap : Nat) (w : World) (bn : -9223372036854775808 ≤ n ∧ n ≤ 9223372036854775807) (hl : len ≤ maxLen) (h : n < 1 ∨ 8 < n ∨ 150 < len) :
    Calls Try.prog 6 #[.int .i64 n, .slice a len cap] w fun e w' => e = .returned (.bool true) ∧ Below w.heap.size w w' := by
  unfold maxLen at hl
  by_cases h1 : n < 1
  · clear h
    go_enter Try.func6, Try.ntmps6
    go_wp2_with (go_at_call 37; refine (collectAlive_c _).mono ?_; rintro e w' ⟨rfl, F1⟩)
    go_ret
    exact ⟨rfl, F1.below⟩
  by_cases h2 : 8 < n
  · clear h
    go_enter Try.func6, Try.ntmps6
    go_wp2_with (go_at_call 37; refine (collectAlive_c _).mono ?_; rintro e w' ⟨rfl, F1⟩)
    go_ret
    exact ⟨rfl, F1.below⟩
  · have h3 : 150 < len := by omega
    clear h
    go_enter Try.func6, Try.ntmps6
    go_wp2_with (go_at_call 37; refine (collectAlive_c _).mono ?_; rintro e w' ⟨rfl, F1⟩)
    go_ret
    exact ⟨rfl, F1.below⟩
set_option maxHeartbeats 4000000 in
theorem main (m : Nat) (a : Option Addr) (len cap : Nat) (N : Nat → Nat → Int) (w : World) (hm : 1 ≤ m ∧ m ≤ 8) (hl : len ≤ 150) (hN : IsActs16 w a len cap N) :
    Calls Try.prog 6 #[.int .i64 (m : Int), .slice a len cap] w fun e w' => e = .returned (.bool true) ∧ Below w.heap.size w w' := by
  have HM : Hid (blocksOf (m : Int) = m) := Lib.hid (by
    unfold blocksOf
    split
    · omega
    · split <;> omega)
  have HN := Lib.hid hN
  have hcap := hN.2.2.1
  clear hN
  go_enter Try.func6, Try.ntmps6
  go_wp2_with fail
  refine (collectAlive_c _).mono ?_
  rintro e w1 ⟨rfl, F1⟩
  have F1 := Lib.hid F1
  go_wp2_with fail
  refine (ymade_c _ _ HM.out).mono ?_
  rintro e w2 ⟨c, rb, mv, rfl, YM⟩
  obtain ⟨G0, K0, D0, I0⟩ := y0_paper (m := m) rb mv (by omega) (by omega)
  have YM := Lib.hid YM
  have I0 := Lib.hid I0
  have L0 : (Y0 rb mv).objs.length = 0 := rfl
  obtain ⟨S0, hS0⟩ : ∃ S0, S0 = Y0 rb mv := ⟨_, rfl⟩
  rw [← hS0] at YM I0 L0
  have L0 := Lib.hid L0
  clear hS0
  go_wp2_with fail
  go_loopw [7, 25] (fun _ u wr => ∃ (k : Nat) (A : Ar) (S : Ys) (G K : List Bool) (D : Nat → Option Ob), k ≤ len ∧ u = .int .i64 (k : Int) ∧ Hid (YAt w1 wr c A S []) ∧ Hid (YI m A S G K D) ∧ Hid (S.objs.length ≤ k)) (fun _ u _ => len - (intOf u).toNat)
  case atStart => exact ⟨0, _, S0, _, _, _, by omega, by go_num, YM, I0, Lib.hid (by have := L0.out; omega)⟩
  case round =>
    obtain ⟨k, A, S, G, K, D, hk, rfl, YK, IK, LK⟩ := hrel
    clear YM I0 L0
    have FK := Lib.hid (F1.out.same YK.out.fr)
    by_cases hlt : k < len
    · obtain ⟨ab, ao, rfl⟩ : ∃ ab ao, a = some ⟨ab, ao, none⟩ := by
        rcases HN.out.1 with h | ⟨b, o, h, _⟩
        · omega
        · exact ⟨b, o, h⟩
      obtain ⟨a0, a1, a2, a3, a4, a5, a6, a7, hab⟩ := acts16_at HN.out.1 FK.out (by simp) k hlt
      have hsz : ab < wr.heap.size := by have := FK.out.size; omega
      have hne : ab ≠ wr.heap.size := by omega
      have hw : Hid (Wd64 (actN N k).w) := Lib.hid (by
        have := HN.out.2.1 k 5 hlt (by omega)
        have h2 := bounds_u64 this
        unfold Wd64 actN
        simp only
        omega)
      have SC := Lib.hid (fun wz (hF : Fr [] wr wz) => step_c (YK.out.keep hF) IK.out (by have := LK.out; omega) (actN N k) hw.out)
      unfold Ac.v actN at SC
      simp only at SC
      have CO : Hid (∀ e w', StepOk w1 c [] m S (actN N k) e w' → e = .returned (.bool true) ∧ ∃ A' S' G' K' D', Hid (YAt w1 w' c A' S' []) ∧ Hid (YI m A' S' G' K' D') ∧ Hid (S'.objs.length ≤ k + 1)) := Lib.hid (by
        rintro e w' ⟨ok, A', S', G', K', D', h1, h2, h3, h4⟩
        refine ⟨h1, A', S', G', K', D', Lib.hid h2, Lib.hid h3, Lib.hid ?_⟩
        have h5 := stepM_len S.md (actN N k) ok
        rw [← h4] at h5
        simp only [Ys.md, List.length_map] at h5
        have := LK.out
        omega)
      unfold actN at CO
      clear YK IK LK
      go_wp2_with fail
      refine (SC.out _ ((Fr.refl _ _).alloc _)).mono ?_
      intro e w3 hp
      obtain ⟨he, A', S', G', K', D', Y', I', L'⟩ := CO.out e w3 hp
      subst he
      clear SC CO a0 a1 a2 a3 a4 a5 a6 a7 hp
      go_wp2
      go_roundw
      case rel => exact ⟨k + 1, A', S', G', K', D', by omega, by go_num, Y', I', L'⟩
      case measure => simp [intOf]; omega
    · have HJK := Lib.hid hlt
      go_wp2_with fail
      refine (same_c YK.out IK.out).mono ?_
      rintro e w3 ⟨rfl, F3⟩
      have Y3 := Lib.hid (YK.out.keep F3)
      clear YK F3
      go_wp2_with fail
      refine (wcollect_c Y3.out IK.out 0 0).mono ?_
      rintro e w4 ⟨A', R, G', K', D', rfl, Y4, _⟩
      have F4 := Lib.hid (F1.out.same Y4.fr)
      clear Y4 Y3
      go_wp2
      go_ret
      exact ⟨rfl, F4.out.below⟩
theorem walk (n : Int) (a : Option Addr) (len cap : Nat) (N : Nat → Nat → Int) (w : World) (w0 : (Lit.int .i64 n).wf = true) (hN : IsActs16 w a len cap N) :
    Calls Try.prog 6 #[.int .i64 n, .slice a len cap] w fun e w' => e = .returned (.bool true) ∧ Below w.heap.size w w' := by
  have bn := bounds_i64 w0
  by_cases h : n < 1 ∨ 8 < n ∨ 150 < len
  · exact early n a len cap w bn (by have := hN.2.2; omega) h
  · have := main n.toNat a len cap N w (by omega) (by omega) hN
    rwa [show ((n.toNat : Nat) : Int) = n from by omega] at this
theorem own : ownKnob Try.prog.godebug = none := by kernel_rfl
theorem laidOut : laidOutB Try.prog = true := by kernel_rfl
set_option maxRecDepth 100000 in
theorem lifted (os : Os) (started : os.Started) (H : Type) (enc : TypeId × Value → H) :
    ReturnsInHanded {} Try.checked os 6 .any (Rows.collectKeepsSpec.pre6 enc Try.prog Try.f6 Rows.collectKeepsRow.domain false) (Rows.collectKeepsSpec.post enc Try.prog Try.f6 false true false false) := by
  refine returnsInHanded_of_change (C := Try.checked) own started (by kernel_rfl) Try.func6
    (ChangeSpec.witness6 (enc := enc) (C := Try.checked) false ⟨#[], #[.int .i64 0, .slice none 0 0], []⟩ 8 (by kernel_rfl) (by kernel_rfl) (by kernel_rfl) (by kernel_rfl)) ?_
  intro W base args ds gs before hval0 hW hcnd _
  have hval : ∀ (j : Nat) t v, Try.f6.params[j]? = some t → args[j]? = some v → Value.okWide Try.prog W .any base t v := hval0
  have hW' := hW
  obtain ⟨p, q, hA0, hV, rfl, hfz, hnd⟩ := hW
  have hA : DataW.TrodAll enc Try.prog W 0 (fun _ => true) true Try.f6.params.toList args.toList ds p := hA0
  rw [Try.params6] at hA hval
  obtain ⟨v0, vs0, d0, ds0, p0, q0, hargs, rfl, rfl, h0, r0⟩ := trodAll_cons hA
  obtain ⟨v1, vs1, d1, ds1, p1, q1, rfl, rfl, rfl, h1, r1⟩ := trodAll_cons r0
  obtain ⟨rfl, rfl, rfl⟩ := trodAll_nil r1
  obtain rfl : args = #[v0, v1] := by cases args; simp_all
  obtain ⟨rfl, rfl⟩ := trodVars_none hV
  obtain ⟨a0, rfl, rfl, rfl, w0⟩ := open_int Try.underlying3 (hval 0 3 v0 rfl rfl) h0
  obtain ⟨a1, len1, cap1, rfl⟩ := okWide_slice Try.underlying76 (hval 1 76 v1 rfl rfl)
  have k1 := h1
  have lt1 : ∀ x ∈ p1, x.block < W.heap.size := by obtain ⟨m, hm⟩ := k1; exact DataW.trod_lt m _ _ _ hm
  obtain ⟨z1, w1⟩ := opener16 h1
  clear hA0 hval0
  refine (walk a0 a1 len1 cap1 z1 W w0 w1).mono fun e W' ⟨he, bel⟩ => ?_
  subst he
  exact ⟨_, rfl, _, _, _, [], _, [], hW', trodAll_mk1 (shut_bool Try.underlying4 _), (trodAll_cons_mk (shut_int Try.underlying3 w0) (trodAll_cons_mk (Below.trod laidOut (by kernel_rfl) (of_decide_eq_true (by kernel_rfl)) k1 bel lt1) trodAll_mk0)), rfl, bel.frame _, fun h => by cases h⟩
theorem over : Rows.collectKeepsRow.holds Try.pinned (OpenSpec.ofChange Rows.collectKeepsSpec) :=
  OpenClaim.holds_of_wide 6 Try.f6 rfl rfl rfl rfl rfl rfl rfl ⟨rfl, rfl, rfl, rfl, rfl⟩ rfl rfl rfl rfl rfl (by kernel_rfl) Try.func6 (by kernel_rfl)
    (of_decide_eq_true (by kernel_rfl)) (by unfold Func.isWrapper; first | (rw [if_pos (by decide +kernel)]; kernel_rfl) | (rw [if_neg (by decide +kernel)]; exact ⟨rfl, rfl⟩))
    (fun os started H enc _ => lifted os started H enc)
/-- THE STATEMENT -/
theorem proved : Rows.CollectKeepsSaid := over
#print axioms proved
end Go.Proofs.Ytjgndfhfiekomaa.collectKeeps
