/- exactSmall. -/
import Derived.Test.YtladhmbidicncaaDoorExaW
namespace Go.Proofs.YtladhmbidicncaaDoor.exactSmall
open Go.ChangeShapes Go.WideShapes Go.RowKit Go.Proofs.YtladhmbidicncaaDoor
def smF (s : Bool) (n : Nat) : Int := match smB s n with | true => smV s n | false => 0
theorem smallI_flat {w w' : World} {s : Bool} {n : Nat} {e : Ending} (h : SmallI w s n e w') : e = .returned (.tuple #[.int .i64 (smF s n), .bool (smB s n)]) ∧ Fr [] w w' := by
  unfold SmallI at h
  unfold smF
  cases hb : smB s n with
  | true => rw [hb, if_pos rfl] at h; exact h
  | false => rw [hb, if_neg Bool.false_ne_true] at h; exact h
theorem small_of {k : Int} (h1 : -9223372036854775808 ≤ k) (h2 : k ≤ 9223372036854775807) : smB (decide (k < 0)) k.natAbs = true ∧ smF (decide (k < 0)) k.natAbs = k := by
  have hb : smB (decide (k < 0)) k.natAbs = true := by
    unfold smB
    by_cases h : k < 0
    · rw [decide_eq_true h]; show decide _ = true; rw [decide_eq_true_eq]; omega
    · rw [decide_eq_false h]; show decide _ = true; rw [decide_eq_true_eq]; omega
  refine ⟨hb, ?_⟩
  unfold smF
  rw [hb]
  show smV _ _ = k
  unfold smV
  by_cases h : k < 0
  · rw [decide_eq_true h]; show -((k.natAbs : Nat) : Int) = k; omega
  · rw [decide_eq_false h]; show ((k.natAbs : Nat) : Int) = k; omega
set_option maxRecDepth 100000 in
set_option maxHeartbeats 16000000 in
theorem walk (z1 : IA) (k : Int) (W : World) (h1 : InI W z1) (hk : (Lit.int .i64 k).wf = true) (hT : Tab W) :
    Calls Tryd.prog 16 #[.agg #[.bool z1.s, .slice z1.a z1.len z1.cap], .int .i64 k] W fun e W' => e = .returned (.bool true) ∧ Below W.heap.size W W' := by
  have HT := Lib.hid hT
  clear hT
  obtain ⟨s, a, ln, cap⟩ := z1
  obtain ⟨L, hL⟩ := h1
  have hL : InA W a ln cap L := hL
  show Calls Tryd.prog 16 #[.agg #[.bool s, .slice a ln cap], .int .i64 k] W _
  have hkb : -9223372036854775808 ≤ k ∧ k ≤ 9223372036854775807 := by
    simp [Lit.wf, IntKind.min, IntKind.max, IntKind.bits, IntKind.signed] at hk
    omega
  clear hk
  by_cases g1 : 100 < ln
  · have g1I : (100 : Int) < (ln : Int) := by omega
    clear hL hkb
    have FW : Hid (Fr [] W (W.alloc (.cells #[.bool s, .slice a ln cap] 52))) := Lib.hid ((Fr.refl [] W).alloc _)
    have P := Lib.hid (Bx.new W (.bool s) (.slice a ln cap))
    have fP0 := P.out.c0
    have fP1 := P.out.c1
    have fPl := P.out.lt
    go_enter Tryd.func16, Tryd.ntmps16
    go_wp2_with fail
    refine (exactAlive_c _ (HT.out.fr FW.out)).mono ?_
    rintro e w1 ⟨rfl, F1⟩
    replace P := Lib.hid (P.out.fr F1)
    replace fP0 := P.out.c0
    replace fP1 := P.out.c1
    replace fPl := P.out.lt
    replace FW := Lib.hid (FW.out.same F1)
    clear F1
    go_wp2_with fail
    go_ret
    exact ⟨rfl, FW.out.below⟩
  · have g1I : ¬ (100 : Int) < (ln : Int) := by omega
    have RE : Hid (∀ W', Fr [] W W' → Calls Tryd.prog 60 #[.agg #[.bool s, .slice a ln cap]] W' fun e w' => e = .returned (.bool (rightP s L)) ∧ Fr [] W' w') := Lib.hid (fun W' h => eright_c W' s ln (hL.keep h))
    have RR : Hid (∀ W', Fr [] W W' → Calls Tryd.prog 44 #[.agg #[.bool s, .slice a ln cap]] W' fun e w' => e = .returned (.bool (rightP s L)) ∧ Fr [] W' w') := Lib.hid (fun W' h => r2right_any W' s ln (hL.keep h))
    have CO : Hid (∀ W', Calls Tryd.prog 61 #[.int .i64 k] W' (GivesI W' (decide (k < 0)) k.natAbs)) := Lib.hid (fun W' => eof_c W' k hkb.1 hkb.2)
    have EO : Hid (∀ W', Calls Tryd.prog 62 #[.int .i64 k] W' (GivesI W' (decide (k < 0)) k.natAbs)) := Lib.hid (fun W' => r2of_c W' k hkb.1 hkb.2)
    have CS : Hid (∀ W' t q x c y d, In W' x c (lims q) → In W' y d (lims q) → Calls Tryd.prog 53 #[.agg #[.bool t, .slice x (lims q).length c], .agg #[.bool t, .slice y (lims q).length d]] W' fun e w' => e = .returned (.bool true) ∧ Fr [] W' w') := Lib.hid (fun W' t q x c y d h h2 => by
      have := esame_c W' t t q q h h2
      rwa [decide_eq_true (⟨rfl, rfl⟩ : t = t ∧ q = q)] at this)
    have CM : Hid (∀ W' x c, In W' x c (lims k.natAbs) → Calls Tryd.prog 63 #[.agg #[.bool (decide (k < 0)), .slice x (lims k.natAbs).length c]] W' fun e w' => e = .returned (.tuple #[.int .i64 k, .bool true]) ∧ Fr [] W' w') := Lib.hid (fun W' x c h => by
      refine (esmall_c W' (decide (k < 0)) k.natAbs h).mono ?_
      intro e w' h
      have := smallI_flat h
      rwa [(small_of hkb.1 hkb.2).1, (small_of hkb.1 hkb.2).2] at this)
    have XM : Hid (rightP s L = true → ∃ (v : Int) (g : Bool), (∀ W', Fr [] W W' → Calls Tryd.prog 63 #[.agg #[.bool s, .slice a ln cap]] W' fun e w' => e = .returned (.tuple #[.int .i64 v, .bool g]) ∧ Fr [] W' w') ∧ (∀ W', Fr [] W W' → Calls Tryd.prog 64 #[.agg #[.bool s, .slice a ln cap]] W' fun e w' => e = .returned (.tuple #[.int .i64 v, .bool g]) ∧ Fr [] W' w')) := Lib.hid (fun hp => by
      obtain ⟨n, e1, I1, hfn, hsn, hln⟩ := right_open hL hp
      subst e1
      exact ⟨smF s n, smB s n, fun W' h => (esmall_c W' s n (I1.keep h)).mono (fun e w' h => smallI_flat h), fun W' h => (r2small_c W' s n (I1.keep h) hsn).mono (fun e w' h => smallI_flat h)⟩)
    generalize decide (k < 0) = sk at *
    generalize k.natAbs = nk at *
    generalize rightP s L = g at *
    clear hL hkb g1
    have FW : Hid (Fr [] W (W.alloc (.cells #[.bool s, .slice a ln cap] 52))) := Lib.hid ((Fr.refl [] W).alloc _)
    have P := Lib.hid (Bx.new W (.bool s) (.slice a ln cap))
    have fP0 := P.out.c0
    have fP1 := P.out.c1
    have fPl := P.out.lt
    go_enter Tryd.func16, Tryd.ntmps16
    go_wp2_with fail
    refine (exactAlive_c _ (HT.out.fr FW.out)).mono ?_
    rintro e w1 ⟨rfl, F1⟩
    replace P := Lib.hid (P.out.fr F1)
    replace fP0 := P.out.c0
    replace fP1 := P.out.c1
    replace fPl := P.out.lt
    replace FW := Lib.hid (FW.out.same F1)
    clear F1
    go_wp2_with fail
    have KEEP : Hid (∀ w_, Fr [] w1 w_ → (w_.cell? ⟨W.heap.size, 0, none⟩ = some (.bool s) ∧ w_.cell? ⟨W.heap.size, 1, none⟩ = some (.slice a ln cap))) := Lib.hid (fun w_ h => ⟨(P.out.fr h).c0, (P.out.fr h).c1⟩)
    have FZ : Hid (∀ w_, Fr [] w1 w_ → Fr [] W w_) := Lib.hid (fun w_ h => FW.out.same h)
    go_region_held3 (fun w_ => w_.cell? ⟨W.heap.size, 0, none⟩ = some (.bool s) ∧ w_.cell? ⟨W.heap.size, 1, none⟩ = some (.slice a ln cap)) (with_reducible first | exact KEEP.out _ ((Fr.refl [] _).drew) | exact KEEP.out _ K5.out | exact KEEP.out _ K4.out | exact KEEP.out _ K3.out | exact KEEP.out _ K2.out | exact KEEP.out _ K1.out) (first | (go_at_call 60; refine Calls.mono (RE.out _ (FZ.out _ ((Fr.refl [] w1).drew))) ?_; rintro e u1 ⟨rfl, G1⟩; have K1 := Lib.hid (((Fr.refl [] w1).drew).same G1)) | (go_at_call 44; refine Calls.mono (RR.out _ (FZ.out _ K1.out)) ?_; rintro e u2 ⟨rfl, G2⟩; have K2 := Lib.hid (K1.out.same G2)) | (go_at_call 61; refine Calls.mono (CO.out _) ?_; rintro e u3 ⟨aN, cN, rfl, IN, G3⟩; have K3 := Lib.hid (K2.out.same G3)) | (go_at_call 62; refine Calls.mono (EO.out _) ?_; rintro e u4 ⟨aO, cO, rfl, IO, G4⟩; have K4 := Lib.hid (K3.out.same G4)) | (go_at_call 53; refine Calls.mono (CS.out _ _ _ _ _ _ _ (IN.keep G4) IO) ?_; rintro e u5 ⟨rfl, G5⟩; have K5 := Lib.hid (K4.out.same G5)))
    clear KEEP FZ
    replace P := Lib.hid (P.out.fr K5.out)
    replace fP0 := P.out.c0
    replace fP1 := P.out.c1
    replace fPl := P.out.lt
    replace FW := Lib.hid (FW.out.same K5.out)
    go_wp2_with fail
    refine (CO.out _).mono ?_
    rintro e w6 ⟨a6, c6, rfl, I6, F6⟩
    replace P := Lib.hid (P.out.fr F6)
    replace fP0 := P.out.c0
    replace fP1 := P.out.c1
    replace fPl := P.out.lt
    replace FW := Lib.hid (FW.out.same F6)
    clear F6
    go_wp2_with fail
    refine (CM.out _ _ _ I6).mono ?_
    rintro e w7 ⟨rfl, F7⟩
    replace P := Lib.hid (P.out.fr F7)
    replace fP0 := P.out.c0
    replace fP1 := P.out.c1
    replace fPl := P.out.lt
    replace FW := Lib.hid (FW.out.same F7)
    clear F7 I6
    go_wp2_with fail
    refine (RR.out _ FW.out).mono ?_
    rintro e w8 ⟨rfl, F8⟩
    replace P := Lib.hid (P.out.fr F8)
    replace fP0 := P.out.c0
    replace fP1 := P.out.c1
    replace fPl := P.out.lt
    replace FW := Lib.hid (FW.out.same F8)
    clear F8
    cases g with
    | false =>
      go_wp2
      go_ret
      exact ⟨rfl, FW.out.below⟩
    | true =>
      obtain ⟨v, g, XA, XB⟩ := XM.out rfl
      have XA := Lib.hid XA
      have XB := Lib.hid XB
      clear XM
      go_wp2_with fail
      refine (XA.out _ FW.out).mono ?_
      rintro e w9 ⟨rfl, F9⟩
      replace P := Lib.hid (P.out.fr F9)
      replace fP0 := P.out.c0
      replace fP1 := P.out.c1
      replace fPl := P.out.lt
      replace FW := Lib.hid (FW.out.same F9)
      clear F9
      go_wp2_with fail
      refine (XB.out _ FW.out).mono ?_
      rintro e w10 ⟨rfl, F10⟩
      replace P := Lib.hid (P.out.fr F10)
      replace fP0 := P.out.c0
      replace fP1 := P.out.c1
      replace fPl := P.out.lt
      replace FW := Lib.hid (FW.out.same F10)
      clear F10
      go_wp2
      go_ret
      exact ⟨rfl, FW.out.below⟩
set_option maxRecDepth 100000 in
theorem lifted (os : Os) (started : os.Started) (H : Type) (enc : TypeId × Value → H) :
    ReturnsInHanded {} Tryd.checked os 16 .any (fun w args => (Rows.exactSmallSpec.pre enc Tryd.prog Tryd.f16 [] false w args ∧ laidMetH Tryd.prog listed w) ∧ sizedMet enc Tryd.prog Tryd.f16 (OpenSpec.ofChange Rows.exactSmallSpec) false w args) (Rows.exactSmallSpec.post enc Tryd.prog Tryd.f16 false true false false) := by
  refine returnsInHanded_of_change_and (C := Tryd.checked) (X := fun w _ => laidMetH Tryd.prog listed w) (fun _ _ _ hh h => h.of_heap hh) own started (by kernel_rfl) Tryd.func16
    (ChangeSpec.witness_shaped (enc := enc) (C := Tryd.checked) (os := os) (X := fun w _ => laidMetH Tryd.prog listed w) false (World.doorLaid Tryd.prog 24 os) #[zeroI, .int .i64 0] 8 rfl (World.shaped_of_RefB (by kernel_rfl) (by kernel_rfl)) (by kernel_rfl) (by kernel_rfl) (by kernel_rfl) (door_met os _)) ?_
  intro W base args ds gs before hval0 hW _ _ hL _
  have hT := tab_of_laid hL
  have hval : ∀ (j : Nat) t v, Tryd.f16.params[j]? = some t → args[j]? = some v → Value.okWide Tryd.prog W .any base t v := hval0
  have hW' := hW
  obtain ⟨p, q, hA0, hV, rfl, hfz, hnd⟩ := hW
  have hA : DataW.TrodAll enc Tryd.prog W 0 (fun _ => true) true Tryd.f16.params.toList args.toList ds p := hA0
  rw [Tryd.params16] at hA hval
  obtain ⟨v0, vs0, d0, ds0, p0, q0, hargs, rfl, rfl, h0, r0⟩ := trodAll_cons hA
  obtain ⟨v1, vs1, d1, ds1, p1, q1, rfl, rfl, rfl, h1, r1⟩ := trodAll_cons r0
  obtain ⟨rfl, rfl, rfl⟩ := trodAll_nil r1
  obtain rfl : args = #[v0, v1] := by cases args; simp_all
  obtain ⟨rfl, rfl⟩ := trodVars_none hV
  have k0 := h0
  have lt0 : ∀ x ∈ p0, x.block < W.heap.size := by obtain ⟨m, hm⟩ := k0; exact DataW.trod_lt m _ _ _ hm
  obtain ⟨z0, rfl, w0⟩ := open_iv (hval 0 52 v0 rfl rfl) h0
  obtain ⟨a1, rfl, rfl, rfl, w1⟩ := open_int Tryd.underlying3 (hval 1 3 v1 rfl rfl) h1
  clear hA0 hval0
  refine (walk z0 a1 W w0 w1 hT).mono fun e W' ⟨he, bel⟩ => ?_
  subst he
  exact ⟨_, rfl, _, _, _, [], _, [], hW', trodAll_mk1 (shut_bool Tryd.underlying4 _), (trodAll_cons_mk (Below.trod laidOut (by kernel_rfl) (of_decide_eq_true (by kernel_rfl)) k0 bel lt0) (trodAll_cons_mk (shut_int Tryd.underlying3 w1) trodAll_mk0)), rfl, bel.frame _, fun h => by cases h⟩
theorem over : Rows.exactSmallRow.holds Tryd.pinned (OpenSpec.ofChange Rows.exactSmallSpec) :=
  OpenClaim.holds_of_wide 16 Tryd.f16 rfl rfl rfl rfl rfl rfl rfl ⟨rfl, rfl, rfl, rfl, rfl⟩ rfl rfl rfl rfl rfl (by kernel_rfl) Tryd.func16 (by kernel_rfl)
    (of_decide_eq_true (by kernel_rfl)) (by unfold Func.isWrapper; first | (rw [if_pos (by decide +kernel)]; kernel_rfl) | (rw [if_neg (by decide +kernel)]; exact ⟨rfl, rfl⟩))
    (fun os started H enc _ => lifted os started H enc)
/-- THE STATEMENT -/
theorem proved : Rows.ExactSmallCardSaid :=
  Claim7.holds_tied_plain_at .later [] [.data, .data, .data] true (true, "ea8df5c1a0e302ec682270425c9a8cf6ae00272b589ccfc6cc1f4d10a9599452") false
    over (fun _ h => by cases h) (by kernel_rfl) (fun _ h => by cases h) exactSmall_row_tie rfl ⟨rfl, rfl⟩ (by kernel_rfl) rfl
    (fun f fn hf hfn => by
      obtain rfl : f = 16 := Option.some.inj ((show Tryd.prog.funcNamed "distaff/distafflaw02.ExactSmall" = some 16 by kernel_rfl).symm.trans hf) |>.symm
      obtain rfl : fn = Tryd.f16 := (Option.some.inj (Tryd.func16.symm.trans hfn)).symm
      exact ⟨by kernel_rfl, fun j t ht => by
        rw [Tryd.params16] at ht
        have hm : t ∈ [52, 3] := by simpa using Array.mem_of_getElem? ht
        have hall : ([52, 3].all fun u => !Tryd.prog.wantsStandIn u) = true := by kernel_rfl
        exact (show Tryd.prog.wantsStandIn t = false by simpa using List.all_eq_true.1 hall t hm)⟩)
    (by kernel_rfl)
#print axioms proved
end Go.Proofs.YtladhmbidicncaaDoor.exactSmall
