/- The law FiberNames holds: the Go function returns true. No condition. -/
import Derived.Test.YtjgndfhfiekomaaFibV
import Derived.ProofKit
import Derived.ChangeOld
namespace Go.Proofs.Ytjgndfhfiekomaa.fiberNames
open Go.ChangeShapes Go.WideShapes Go.ChangeAt Go.RowKit Go.Proofs.Ytjgndfhfiekomaa
set_option linter.unusedVariables false
def na : Ar := (fibF (Ar.new 60) 60 45 45).1
theorem n0 : (fibF (Ar.new 60) 60 45 45).2 = some 1 := by decide +kernel
theorem n1 : nmF na 60 1 2 = -1 := by decide +kernel
theorem n2 : lowF na 60 1 = true := by decide +kernel
theorem n3 : freshF na 60 8 = 202 := by decide +kernel
theorem n4 : chF na 60 10 1 = some 1 := by decide +kernel
theorem nn : noF na 60 1 = true := by unfold noF; rw [n1]; rfl
theorem fr : FrOk na 60 1 := ⟨by rw [n1]; omega, by rw [n1]; omega, fun h => absurd n1 h, fun h => absurd n1 h, fun h => absurd n1 h⟩
theorem none_c (w : World) : Calls Try.prog 61 #[] w fun e w' => e = .returned (.int .u64 45) ∧ w = w' := by
  go_enter Try.func61, Try.ntmps61
  go_wp2_with (go_at_call 64; refine (wmade_r _ _ _ (by omega) (by omega)).mono ?_; rintro e w' ⟨rfl, rfl⟩)
  go_ret
  exact ⟨rfl, rfl⟩
set_option maxRecDepth 100000 in
set_option maxHeartbeats 4000000 in
theorem walk (w : World) : Calls Try.prog 10 #[] w fun e w' => e = .returned (.bool true) ∧ Below w.heap.size w w' := by
  have CV := Lib.hid (vnew_c 60 60 (by decide) (by omega) (by omega) w)
  have CN : Hid (∀ (w1 : World) (c : Sk), c.m = 60 → Sp w1 w1 c (Ar.new 60) → w.heap.size ≤ w1.heap.size → Ge w.heap.size c → Calls Try.prog 46 #[.pointer (some ⟨c.sb, 0, none⟩), .bool false] w1 (NewSt 60 false na 1 w1 w.heap.size)) := Lib.hid (fun w1 c hm h hB hG => by
    have := knew_c h false w.heap.size hB hG 1 (by rw [hm]; exact n0) (w64_small (by omega))
    rw [hm] at this; exact this)
  have C1 : Hid (∀ (w2 : World) (c : Sk), c.m = 60 → ∀ wa, St w2 wa c na 1 (.pointer none) → Calls Try.prog 59 #[.pointer (some ⟨c.kb, 0, none⟩)] wa fun e w' => e = .returned (.tuple #[.int .u64 45, .bool false]) ∧ St w2 w' c na 1 (.pointer none)) := Lib.hid (fun w2 c hm wa ha => by
    exact kleave_no ha (.inr (by rw [hm]; exact n2)))
  have C2 : Hid (∀ (w2 : World) (c : Sk), c.m = 60 → ∀ wa, St w2 wa c na 1 (.pointer none) → Calls Try.prog 51 #[.pointer (some ⟨c.kb, 0, none⟩), .int .i64 0] wa fun e w' => e = .returned (.tuple #[.int .u64 45, .bool false]) ∧ St w2 w' c na 1 (.pointer none)) := Lib.hid (fun w2 c hm wa ha => by
    exact kcapture_no ha 0 (by omega) (fun f hf => by
      simp [dnF] at hf; subst hf; rw [hm]; exact n2))
  have C3 : Hid (∀ (w2 : World) (c : Sk), c.m = 60 → ∀ wa, St w2 wa c na 1 (.pointer none) → Calls Try.prog 52 #[.pointer (some ⟨c.kb, 0, none⟩), .int .u64 8] wa fun e w' => e = .returned (.tuple #[.int .u64 45, .bool false, .int .i64 202]) ∧ St w2 w' c na 1 (.pointer none)) := Lib.hid (fun w2 c hm wa ha => by
    have := kclone_no ha 8 (w64_small (by omega)) (by rw [hm, n3]; decide)
    rw [hm, n3] at this; exact this)
  have C4 : Hid (∀ (w2 : World) (c : Sk), c.m = 60 → ∀ wa, St w2 wa c na 1 (.pointer none) → Calls Try.prog 54 #[.pointer (some ⟨c.kb, 0, none⟩)] wa fun e w' => e = .returned (.int .u64 45) ∧ St w2 w' c na 1 (.pointer none)) := Lib.hid (fun w2 c hm wa ha => by
    have := kclosure_c ha (by rw [hm]; exact fr)
    rw [hm, nn, if_pos rfl] at this; exact this)
  have C5 : Hid (∀ (w2 : World) (c : Sk), c.m = 60 → ∀ wa, St w2 wa c na 1 (.pointer none) → Calls Try.prog 55 #[.pointer (some ⟨c.kb, 0, none⟩)] wa fun e w' => e = .returned (.int .i64 0) ∧ St w2 w' c na 1 (.pointer none)) := Lib.hid (fun w2 c hm wa ha => by
    have := kpc_c ha (by rw [hm]; exact fr)
    rw [hm, nn, if_pos rfl] at this; exact this)
  have C6 : Hid (∀ (w2 : World) (c : Sk), c.m = 60 → ∀ wa, St w2 wa c na 1 (.pointer none) → Calls Try.prog 62 #[.pointer (some ⟨c.kb, 0, none⟩), .int .i64 0] wa fun e w' => e = .returned (.int .u64 45) ∧ St w2 w' c na 1 (.pointer none)) := Lib.hid (fun w2 c hm wa ha => by
    have := kslot_c ha (by rw [hm]; exact fr) 0 (by omega) (by omega)
    rw [hm] at this
    unfold slotF at this
    rw [nn, if_pos rfl] at this; exact this)
  have C7 : Hid (∀ (w2 : World) (c : Sk), c.m = 60 → ∀ wa, St w2 wa c na 1 (.pointer none) → Calls Try.prog 57 #[.pointer (some ⟨c.kb, 0, none⟩)] wa fun e w' => e = .returned (.int .u64 45) ∧ St w2 w' c na 1 (.pointer none)) := Lib.hid (fun w2 c hm wa ha => by
    have := ktake_c ha (by rw [hm]; exact fr)
    rw [hm] at this
    have e : takeF na 60 1 = (na, 45) := by
      unfold takeF
      rw [if_pos (by unfold wordsF; rw [if_pos nn])]
    rw [e] at this; exact this)
  have C8 : Hid (∀ (w2 : World) (c : Sk), c.m = 60 → ∀ wa, St w2 wa c na 1 (.pointer none) → Calls Try.prog 58 #[.pointer (some ⟨c.kb, 0, none⟩)] wa fun e w' => e = .returned (.bool false) ∧ St w2 w' c na 1 (.pointer none)) := Lib.hid (fun w2 c hm wa ha => by
    have := kpop_c ha (by rw [hm]; exact fr)
    rw [hm] at this
    have e : popF na 60 1 = (na, false) := by
      unfold popF
      rw [if_pos nn]
    rw [e] at this; exact this)
  have C9 : Hid (∀ (w2 : World) (c : Sk), c.m = 60 → ∀ wa, St w2 wa c na 1 (.pointer none) → Calls Try.prog 50 #[.pointer (some ⟨c.kb, 0, none⟩), .int .u64 0] wa fun e w' => e = .returned (.bool false) ∧ St w2 w' c na 1 (.pointer none)) := Lib.hid (fun w2 c hm wa ha => by
    have := kput_c ha (by rw [hm]; exact fr) 0 w64_0
    rw [hm] at this
    have e : putF na 60 1 0 = (na, false) := by
      unfold putF
      rw [if_pos nn]
    rw [e] at this; exact this)
  have C10 : Hid (∀ (w2 : World) (c : Sk), c.m = 60 → ∀ wa, St w2 wa c na 1 (.pointer none) → Calls Try.prog 56 #[.pointer (some ⟨c.kb, 0, none⟩)] wa fun e w' => e = .returned (.int .i64 0) ∧ St w2 w' c na 1 (.pointer none)) := Lib.hid (fun w2 c hm wa ha => by
    have := kwords_c ha (by rw [hm]; exact fr)
    rw [hm] at this
    have e : wordsF na 60 1 = 0 := by unfold wordsF; rw [if_pos nn]
    rw [e] at this; exact this)
  have C11 : Hid (∀ (w2 : World) (c : Sk), c.m = 60 → ∀ wa, St w2 wa c na 1 (.pointer none) → Calls Try.prog 63 #[.pointer (some ⟨c.kb, 0, none⟩)] wa fun e w' => e = .returned (.int .i64 0) ∧ St w2 w' c na 1 (.pointer none)) := Lib.hid (fun w2 c hm wa ha => by
    exact kframes_no ha (by rw [hm]; exact nn))
  have C12 : Hid (∀ (w2 : World) (c : Sk), c.m = 60 → ∀ wa, St w2 wa c na 1 (.pointer none) → Calls Try.prog 60 #[.pointer (some ⟨c.kb, 0, none⟩)] wa fun e w' => e = .returned (.int .i64 1) ∧ St w2 w' c na 1 (.pointer none)) := Lib.hid (fun w2 c hm wa ha => by
    exact kfibers_c ha 10 1 (by rw [hm]; exact n4) (by omega))
  generalize na = a1 at *
  go_enter Try.func10, Try.ntmps10
  go_wp2_with fail
  refine CV.out.mono ?_
  rintro e w1 ⟨c1, rfl, hm1, hS1, hF1, hG1⟩
  have CN1 := Lib.hid (CN.out w1 c1 hm1 hS1 hF1.size hG1)
  have F1 := Lib.hid hF1
  clear CV CN hm1 hS1 hF1 hG1
  go_wp2_with fail
  refine CN1.out.mono ?_
  rintro e w2 ⟨c, rfl, hm, _, h2, hgs, hfr⟩
  have F2 := Lib.hid (hfr w (Nat.le_refl _) F1.out)
  have G := Lib.hid hgs.own
  replace C1 := Lib.hid (C1.out w2 c hm)
  replace C2 := Lib.hid (C2.out w2 c hm)
  replace C3 := Lib.hid (C3.out w2 c hm)
  replace C4 := Lib.hid (C4.out w2 c hm)
  replace C5 := Lib.hid (C5.out w2 c hm)
  replace C6 := Lib.hid (C6.out w2 c hm)
  replace C7 := Lib.hid (C7.out w2 c hm)
  replace C8 := Lib.hid (C8.out w2 c hm)
  replace C9 := Lib.hid (C9.out w2 c hm)
  replace C10 := Lib.hid (C10.out w2 c hm)
  replace C11 := Lib.hid (C11.out w2 c hm)
  replace C12 := Lib.hid (C12.out w2 c hm)
  have K0 := Lib.hid h2
  clear CN1 F1 hm hgs hfr h2
  go_wp2_with fail
  refine (C1.out _ K0.out).mono ?_
  rintro e v1 ⟨rfl, h1⟩
  have K1 := Lib.hid h1
  clear C1 h1
  go_wp2_with fail
  refine (C2.out _ K1.out).mono ?_
  rintro e v2 ⟨rfl, h2⟩
  have K2 := Lib.hid h2
  clear C2 h2
  go_wp2_with fail
  refine (C3.out _ K2.out).mono ?_
  rintro e v3 ⟨rfl, h3⟩
  have K3 := Lib.hid h3
  clear C3 h3
  go_wp2_with fail
  refine (none_c _).mono ?_
  rintro e w' ⟨rfl, rfl⟩
  go_wp2_with fail
  refine (fiberAlive_c _).mono ?_
  rintro e va ⟨rfl, FA⟩
  have K4 := Lib.hid (K3.out.keep FA)
  clear FA
  go_wp2_with fail
  refine (C4.out _ K4.out).mono ?_
  rintro e v5 ⟨rfl, h5⟩
  have K5 := Lib.hid h5
  clear C4 h5
  go_wp2_with fail
  refine (C5.out _ K5.out).mono ?_
  rintro e v6 ⟨rfl, h6⟩
  have K6 := Lib.hid h6
  clear C5 h6
  go_wp2_with fail
  refine (C6.out _ K6.out).mono ?_
  rintro e v7 ⟨rfl, h7⟩
  have K7 := Lib.hid h7
  clear C6 h7
  go_wp2_with fail
  refine (C7.out _ K7.out).mono ?_
  rintro e v8 ⟨rfl, h8⟩
  have K8 := Lib.hid h8
  clear C7 h8
  go_wp2_with fail
  refine (C8.out _ K8.out).mono ?_
  rintro e v9 ⟨rfl, h9⟩
  have K9 := Lib.hid h9
  clear C8 h9
  go_wp2_with fail
  refine (C9.out _ K9.out).mono ?_
  rintro e v10 ⟨rfl, h10⟩
  have K10 := Lib.hid h10
  clear C9 h10
  go_wp2_with fail
  refine (C10.out _ K10.out).mono ?_
  rintro e v11 ⟨rfl, h11⟩
  have K11 := Lib.hid h11
  clear C10 h11
  go_wp2_with fail
  refine (C11.out _ K11.out).mono ?_
  rintro e v12 ⟨rfl, h12⟩
  have K12 := Lib.hid h12
  clear C11 h12
  go_wp2_with fail
  refine (C12.out _ K12.out).mono ?_
  rintro e v13 ⟨rfl, h13⟩
  have K13 := Lib.hid h13
  clear C12 h13
  go_wp2
  go_ret
  exact ⟨rfl, (F2.out.trans K13.out.fr (fun x hx => .inr (G.out x hx))).below⟩
theorem own : ownKnob Try.prog.godebug = none := by kernel_rfl
theorem laidOut : laidOutB Try.prog = true := by kernel_rfl
set_option maxRecDepth 100000 in
theorem lifted (os : Os) (started : os.Started) (H : Type) (enc : TypeId × Value → H) :
    ReturnsInHanded {} Try.checked os 10 .any (Rows.fiberNamesSpec.pre6 enc Try.prog Try.f10 Rows.fiberNamesRow.domain false) (Rows.fiberNamesSpec.post enc Try.prog Try.f10 false true false false) := by
  refine returnsInHanded_of_change (C := Try.checked) own started (by kernel_rfl) Try.func10
    (ChangeSpec.witness6 (enc := enc) (C := Try.checked) false ⟨#[], #[], []⟩ 8 (by kernel_rfl) (by kernel_rfl) (by kernel_rfl) (by kernel_rfl)) ?_
  intro W base args ds gs before hval0 hW hcnd _
  have hval : ∀ (j : Nat) t v, Try.f10.params[j]? = some t → args[j]? = some v → Value.okWide Try.prog W .any base t v := hval0
  have hW' := hW
  obtain ⟨p, q, hA0, hV, rfl, hfz, hnd⟩ := hW
  have hA : DataW.TrodAll enc Try.prog W 0 (fun _ => true) true Try.f10.params.toList args.toList ds p := hA0
  rw [Try.params10] at hA hval
  obtain ⟨rfl, rfl, rfl⟩ := trodAll_none hA
  obtain ⟨rfl, rfl⟩ := trodVars_none hV
  clear hA0 hval0
  refine (walk  W ).mono fun e W' ⟨he, bel⟩ => ?_
  subst he
  exact ⟨_, rfl, _, _, _, [], _, [], hW', trodAll_mk1 (shut_bool Try.underlying4 _), rfl, rfl, bel.frame _, fun h => by cases h⟩
theorem over : Rows.fiberNamesRow.holds Try.pinned (OpenSpec.ofChange Rows.fiberNamesSpec) :=
  OpenClaim.holds_of_wide 10 Try.f10 rfl rfl rfl rfl rfl rfl rfl ⟨rfl, rfl, rfl, rfl, rfl⟩ rfl rfl rfl rfl rfl (by kernel_rfl) Try.func10 (by kernel_rfl)
    (of_decide_eq_true (by kernel_rfl)) (by unfold Func.isWrapper; first | (rw [if_pos (by decide +kernel)]; kernel_rfl) | (rw [if_neg (by decide +kernel)]; exact ⟨rfl, rfl⟩))
    (fun os started H enc _ => lifted os started H enc)
/-- THE STATEMENT -/
theorem proved : Rows.FiberNamesSaid := over
#print axioms proved
end Go.Proofs.Ytjgndfhfiekomaa.fiberNames
