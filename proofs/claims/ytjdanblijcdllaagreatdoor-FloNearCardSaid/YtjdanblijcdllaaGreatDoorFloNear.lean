/- floNear. -/
import Derived.Test.YtjdanblijcdllaaGreatDoorFloP
set_option linter.all false
namespace Go.Proofs.YtjdanblijcdllaaGreatDoor.floNear
open Go.ChangeShapes Go.WideShapes Go.RowKit Go.Proofs.YtjdanblijcdllaaGreatDoor
set_option maxRecDepth 20000 in
theorem infm_c (w : World) : Calls Tryz.prog 38 #[.int .i64 (-1)] w fun e w' => e = .returned (.float .f64 18442240474082181120) ∧ w = w' := by
  have hf : ∀ w, (callFunc 28 #[.int .u64 18442240474082181120]).run Tryz.prog w = .ok (.value (.float .f64 18442240474082181120)) w := fun w => from_run 18442240474082181120 w
  go_enter Tryz.func38, Tryz.ntmps38
  go_wp2
  go_ret
  exact ⟨rfl, rfl⟩
set_option maxRecDepth 100000 in
set_option maxHeartbeats 4000000 in
theorem walk (z1 : IA) (W : World) (h1 : InI W z1) (hL : laidMet Tryz.prog listedF W) :
    Calls Tryz.prog 9 #[.agg #[.bool z1.s, .slice z1.a z1.len z1.cap]] W fun e W' => e = .returned (.bool true) ∧ Below W.heap.size W W' := by
  have HL := Lib.hid (ldF_of hL)
  clear hL
  obtain ⟨s, a, ln, cap⟩ := z1
  obtain ⟨L, hL⟩ := h1
  have hL : InA W a ln cap L := hL
  show Calls Tryz.prog 9 #[.agg #[.bool s, .slice a ln cap]] W _
  obtain ⟨W1, hW1⟩ : ∃ W1, W1 = W.alloc (.cells #[.bool s, .slice a ln cap] 25) := ⟨_, rfl⟩
  obtain ⟨k, hk⟩ : ∃ k, k = W.heap.size := ⟨_, rfl⟩
  have PA : Hid (BxX W1 k (.bool s) (.slice a ln cap)) := Lib.hid (by rw [hW1, hk]; exact BxX.new _ _ _)
  have G1 : Hid (Fr [] W W1) := Lib.hid (by rw [hW1]; exact (Fr.refl _ _).alloc _)
  have RA : Hid (∀ W', Fr [] W W' → Calls Tryz.prog 39 #[.agg #[.bool s, .slice a ln cap]] W' fun e w' => e = .returned (.bool (rightP s L)) ∧ Fr [] W' w') := Lib.hid (fun W' h => r2right_any W' s ln (hL.keep h))
  cases hp : rightP s L with
  | false =>
    rw [hp] at RA
    clear hp hL
    go_enter Tryz.func9, Tryz.ntmps9
    go_wp2_with fail
    rw [← hW1]
    try rw [← hk]
    clear hW1 hk
    refine (floAlive_c _ (HL.out.fr G1.out)).mono ?_
    rintro e w1 ⟨rfl, F1⟩
    have PA := Lib.hid (PA.out.fr F1)
    have G1 := Lib.hid (G1.out.same F1)
    clear F1
    have x0 := PA.out.c0
    have x1 := PA.out.c1
    have xl := PA.out.lt
    go_wp2_with fail
    refine (RA.out _ G1.out).mono ?_
    rintro e w2 ⟨rfl, F2⟩
    have G2 := Lib.hid (G1.out.same F2)
    clear F2
    go_wp2_with fail
    go_ret
    exact ⟨rfl, G2.out.below⟩
  | true =>
    rw [hp] at RA
    obtain ⟨n, e1, I1, hfn, hsn, hln⟩ := right_open hL hp
    clear hp hL hfn
    by_cases g : 30 < ln
    · have gI : (30 : Int) < (ln : Int) := by omega
      clear I1 hsn hln e1
      go_enter Tryz.func9, Tryz.ntmps9
      go_wp2_with fail
      rw [← hW1]
      try rw [← hk]
      clear hW1 hk
      refine (floAlive_c _ (HL.out.fr G1.out)).mono ?_
      rintro e w1 ⟨rfl, F1⟩
      have PA := Lib.hid (PA.out.fr F1)
      have G1 := Lib.hid (G1.out.same F1)
      clear F1
      have x0 := PA.out.c0
      have x1 := PA.out.c1
      have xl := PA.out.lt
      go_wp2_with fail
      refine (RA.out _ G1.out).mono ?_
      rintro e w2 ⟨rfl, F2⟩
      have PA := Lib.hid (PA.out.fr F2)
      have G2 := Lib.hid (G1.out.same F2)
      clear F2 x0 x1 xl
      have x0 := PA.out.c0
      have x1 := PA.out.c1
      have xl := PA.out.lt
      go_wp2_with fail
      go_ret
      exact ⟨rfl, G2.out.below⟩
    · have gI : ¬ (30 : Int) < (ln : Int) := by omega
      have hn30 : n < 4294967296 ^ 30 := len_lims.1 (by omega)
      have NR := Lib.hid (near_law s hn30 hsn)
      have hnB : n < B2 := by
        rw [B2_eq]
        exact Nat.lt_of_lt_of_le hn30 (Nat.pow_le_pow_right (by decide) (by decide))
      have HB := Lib.hid hnB
      have HS := Lib.hid hsn
      obtain ⟨f, hf⟩ : ∃ f, f = ofW s n := ⟨_, rfl⟩
      have I1 := Lib.hid I1
      have HLN := Lib.hid hln
      clear hln hnB hsn hn30 g
      subst e1
      have OF : Hid (∀ W', Fr [] W W' → Calls Tryz.prog 40 #[.agg #[.bool s, .slice a (lims n).length cap]] W' fun e w' => e = .returned (.float .f64 f) ∧ Fr [] W' w') := Lib.hid (fun W' h => by
        rw [hf]
        exact flof_c W' s n (I1.out.keep h) (by have := HLN.out; omega))
      rw [← hf] at NR
      have CM : Hid (∀ W' b, b < 18446744073709551616 → Fr [] W W' → Calls Tryz.prog 41 #[.agg #[.bool s, .slice a (lims n).length cap], .float .f64 b] W' fun e w' => e = .returned (.tuple #[.int .i64 (fcP s n b), .bool (!isNan b)]) ∧ Fr [] W' w') := Lib.hid (fun W' b hb h => flcmp_c W' s n b (I1.out.keep h) HB.out HS.out hb)
      have CD : Hid (∀ W', Fr [] W W' → Calls Tryz.prog 41 #[.agg #[.bool s, .slice a (lims n).length cap], .float .f64 (nextDn f)] W' fun e w' => e = .returned (.tuple #[.int .i64 1, .bool true]) ∧ Fr [] W' w') := Lib.hid (fun W' h => by
        have := CM.out W' _ NR.out.dn h
        rw [NR.out.cdn, NR.out.n1] at this
        exact this)
      have CU : Hid (∀ W', Fr [] W W' → Calls Tryz.prog 41 #[.agg #[.bool s, .slice a (lims n).length cap], .float .f64 (nextUp f)] W' fun e w' => e = .returned (.tuple #[.int .i64 (-1), .bool true]) ∧ Fr [] W' w') := Lib.hid (fun W' h => by
        have := CM.out W' _ NR.out.up h
        rw [NR.out.cup, NR.out.n2] at this
        exact this)
      obtain ⟨c, hc⟩ : ∃ c, c = fcP s n f := ⟨_, rfl⟩
      have CF : Hid (∀ W', Fr [] W W' → Calls Tryz.prog 41 #[.agg #[.bool s, .slice a (lims n).length cap], .float .f64 f] W' fun e w' => e = .returned (.tuple #[.int .i64 c, .bool true]) ∧ Fr [] W' w') := Lib.hid (fun W' h => by
        have := CM.out W' _ NR.out.lt h
        rw [← hc, NR.out.n0] at this
        exact this)
      obtain ⟨t, ht⟩ : ∃ t, t = sg (fsg f) (exN f) := ⟨_, rfl⟩
      obtain ⟨m, hm⟩ : ∃ m, m = exN f := ⟨_, rfl⟩
      have EX : Hid (∀ W', Calls Tryz.prog 43 #[.float .f64 f] W' fun e w' => ∃ a2 cap2, e = .returned (.tuple #[.agg #[.bool t, .slice a2 (lims m).length cap2], .int .i64 0]) ∧ In w' a2 cap2 (lims m) ∧ Fr [] W' w') := Lib.hid (fun W' => by
        have := flexact_c W' f NR.out.lt NR.out.whole
        rw [← ht, ← hm] at this
        exact this)
      have htm : t = true → m ≠ 0 := by rw [ht, hm]; unfold sg; intro hx; simp at hx; exact hx.2
      have hml : (lims m).length ≤ 70000 := by
        have hb : m < 4294967296 ^ 64 := by rw [hm, ← B2_eq]; exact exN_fits NR.out.fin
        have := len_lims.2 hb
        omega
      have CI : Hid (∀ W' a2 cap2, Fr [] W W' → In W' a2 cap2 (lims m) → Calls Tryz.prog 44 #[.agg #[.bool s, .slice a (lims n).length cap], .agg #[.bool t, .slice a2 (lims m).length cap2]] W' fun e w' => e = .returned (.int .i64 c) ∧ Fr [] W' w') := Lib.hid (fun W' a2 cap2 h h2 => by
        have hbk : cmpP s n t m = c := by rw [ht, hm, hc]; exact NR.out.back
        have := r2cmp_c W' s t n m (I1.out.keep h) h2 (by have := HLN.out; omega) hml
        rw [cmp_law HS.out htm, hbk] at this
        exact this)
      have ND := Lib.hid (fun w => nextdn_c f NR.out.lt NR.out.fin w)
      have NU := Lib.hid (fun w => nextup_c f NR.out.lt NR.out.fin w)
      clear CM NR HB HS hf hc ht hm hml htm HLN
      go_enter Tryz.func9, Tryz.ntmps9
      go_wp2_with fail
      rw [← hW1]
      try rw [← hk]
      clear hW1 hk
      refine (floAlive_c _ (HL.out.fr G1.out)).mono ?_
      rintro e w1 ⟨rfl, F1⟩
      have PA := Lib.hid (PA.out.fr F1)
      have G1 := Lib.hid (G1.out.same F1)
      clear F1
      have x0 := PA.out.c0
      have x1 := PA.out.c1
      have xl := PA.out.lt
      go_wp2_with fail
      refine (RA.out _ G1.out).mono ?_
      rintro e w2 ⟨rfl, F2⟩
      have PA := Lib.hid (PA.out.fr F2)
      have G2 := Lib.hid (G1.out.same F2)
      clear F2 x0 x1 xl RA HL
      have x0 := PA.out.c0
      have x1 := PA.out.c1
      have xl := PA.out.lt
      go_wp2_with fail
      refine (OF.out _ G2.out).mono ?_
      rintro e w3 ⟨rfl, F3⟩
      have PA := Lib.hid (PA.out.fr F3)
      have G3 := Lib.hid (G2.out.same F3)
      clear F3 x0 x1 xl OF G2
      have x0 := PA.out.c0
      have x1 := PA.out.c1
      have xl := PA.out.lt
      have KEEP : Hid (∀ w_, Fr [] w3 w_ → (w_.cell? ⟨k, 0, none⟩ = some (.bool s) ∧ w_.cell? ⟨k, 1, none⟩ = some (.slice a (lims n).length cap))) := Lib.hid (fun w_ h => ⟨(PA.out.fr h).c0, (PA.out.fr h).c1⟩)
      go_wp2_with fail
      go_region_held3 (fun w_ => w_.cell? ⟨k, 0, none⟩ = some (.bool s) ∧ w_.cell? ⟨k, 1, none⟩ = some (.slice a (lims n).length cap)) (with_reducible first | assumption | exact KEEP.out _ ((Fr.refl [] _).drew) | exact KEEP.out _ K4.out) (first | (go_at_call 38; refine (infm_c _).mono ?_; rintro e u ⟨rfl, rfl⟩) | (go_at_call 42; refine (ND.out _).mono ?_; rintro e u ⟨rfl, rfl⟩) | (go_at_call 41; refine (CD.out _ (G3.out.same (Fr.refl [] w3).drew)).mono ?_; rintro e w4 ⟨rfl, F4⟩; have K4 : Hid (Fr [] w3 w4) := Lib.hid ((Fr.refl [] w3).drew.same F4)))
      go_wp2_with fail
      have x0 := (KEEP.out _ K4.out).1
      have x1 := (KEEP.out _ K4.out).2
      go_region_held3 (fun w_ => w_.cell? ⟨k, 0, none⟩ = some (.bool s) ∧ w_.cell? ⟨k, 1, none⟩ = some (.slice a (lims n).length cap)) (with_reducible first | assumption | exact KEEP.out _ K4.out.drew | exact KEEP.out _ K5.out) (first | (go_at_call 38; refine (inf1_c _).mono ?_; rintro e u ⟨rfl, rfl⟩) | (go_at_call 42; refine (NU.out _).mono ?_; rintro e u ⟨rfl, rfl⟩) | (go_at_call 41; refine (CU.out _ (G3.out.same K4.out.drew)).mono ?_; rintro e w5 ⟨rfl, F5⟩; have K5 : Hid (Fr [] w3 w5) := Lib.hid (K4.out.drew.same F5)))
      have PA := Lib.hid (PA.out.fr K5.out)
      have G5 := Lib.hid (G3.out.same K5.out)
      clear KEEP x0 x1 xl CD CU ND NU G3
      have x0 := PA.out.c0
      have x1 := PA.out.c1
      have xl := PA.out.lt
      go_wp2_with fail
      refine (CF.out _ G5.out).mono ?_
      rintro e w6 ⟨rfl, F6⟩
      have PA := Lib.hid (PA.out.fr F6)
      have G6 := Lib.hid (G5.out.same F6)
      clear F6 x0 x1 xl CF G5
      go_wp2_with fail
      refine (EX.out _).mono ?_
      rintro e w7 ⟨a2, cap2, rfl, I7, F7⟩
      have N7 := F7.alloc (.cells #[.bool t, .slice a2 (lims m).length cap2] 25)
      have PA := Lib.hid (PA.out.fr N7)
      have G7 := Lib.hid (G6.out.same N7)
      have I7 := Lib.hid (I7.keep ((Fr.refl [] _).alloc (.cells #[.bool t, .slice a2 (lims m).length cap2] 25)))
      have PB := Lib.hid (BxX.new w7 (.bool t) (.slice a2 (lims m).length cap2))
      clear F7 N7 G6 EX
      have x0 := PA.out.c0
      have x1 := PA.out.c1
      have xl := PA.out.lt
      have y0 := PB.out.c0
      have y1 := PB.out.c1
      have yl := PB.out.lt
      go_wp2_with fail
      refine (CI.out _ _ _ G7.out I7.out).mono ?_
      rintro e w8 ⟨rfl, F8⟩
      have G8 := Lib.hid (G7.out.same F8)
      clear F8 x0 x1 xl y0 y1 yl
      go_wp2_with fail
      go_ret
      exact ⟨rfl, G8.out.below⟩
set_option maxRecDepth 100000 in
theorem lifted (os : Os) (started : os.Started) (H : Type) (enc : TypeId × Value → H) :
    ReturnsInHanded {} Tryz.checked os 9 .any (fun w args => (Rows.floNearSpec.pre enc Tryz.prog Tryz.f9 [] false w args ∧ laidMetH Tryz.prog listedF w) ∧ sizedMet enc Tryz.prog Tryz.f9 (OpenSpec.ofChange Rows.floNearSpec) false w args) (Rows.floNearSpec.post enc Tryz.prog Tryz.f9 false true false false) := by
  refine returnsInHanded_of_change_and (C := Tryz.checked) (X := fun w _ => laidMetH Tryz.prog listedF w) (fun _ _ _ hh h => h.of_heap hh) own started (by kernel_rfl) Tryz.func9
    (ChangeSpec.witness_shaped (enc := enc) (C := Tryz.checked) (os := os) (X := fun w _ => laidMetH Tryz.prog listedF w) false (World.laidAll Tryz.prog os listedF) #[zeroI] 8 (World.laidAll_os _ _ _) (World.shaped_of_ZipB (by kernel_rfl) (by kernel_rfl)) (by kernel_rfl) (by kernel_rfl) (by kernel_rfl) (by rw [MakeChecks.laidMetH_plain _ _ _ (by kernel_rfl)]; exact listedF_met os _)) ?_
  intro W base args ds gs before hval0 hW _ _ hL _
  rw [MakeChecks.laidMetH_plain _ _ _ (by kernel_rfl)] at hL
  have hT := hL
  have hval : ∀ (j : Nat) t v, Tryz.f9.params[j]? = some t → args[j]? = some v → Value.okWide Tryz.prog W .any base t v := hval0
  have hW' := hW
  obtain ⟨p, q, hA0, hV, rfl, hfz, hnd⟩ := hW
  have hA : DataW.TrodAll enc Tryz.prog W 0 (fun _ => true) true Tryz.f9.params.toList args.toList ds p := hA0
  rw [Tryz.params9] at hA hval
  obtain ⟨v0, vs0, d0, ds0, p0, q0, hargs, rfl, rfl, h0, r0⟩ := trodAll_cons hA
  obtain ⟨rfl, rfl, rfl⟩ := trodAll_nil r0
  obtain rfl : args = #[v0] := by cases args; simp_all
  obtain ⟨rfl, rfl⟩ := trodVars_none hV
  have k0 := h0
  have lt0 : ∀ x ∈ p0, x.block < W.heap.size := by obtain ⟨m, hm⟩ := k0; exact DataW.trod_lt m _ _ _ hm
  obtain ⟨z0, rfl, w0⟩ := open_iv (hval 0 25 v0 rfl rfl) h0
  clear hA0 hval0
  refine (walk z0 W w0 hT).mono fun e W' ⟨he, bel⟩ => ?_
  subst he
  exact ⟨_, rfl, _, _, _, [], _, [], hW', trodAll_mk1 (shut_bool Tryz.underlying4 _), (trodAll_cons_mk (Below.trod laidOut (by kernel_rfl) (of_decide_eq_true (by kernel_rfl)) k0 bel lt0) trodAll_mk0), rfl, bel.frame _, fun h => by cases h⟩
theorem fi : Tryz.prog.inPlace 9 = Rows.floNearRow.inPlace := by kernel_rfl
theorem fu : Tryz.prog.unfollowed 9 = Rows.floNearRow.unfollowed := by kernel_rfl
theorem fv : Tryz.prog.varsNamed 9 = Rows.floNearRow.named := by kernel_rfl
theorem over : Rows.floNearRow.holds Tryz.pinned (OpenSpec.ofChange Rows.floNearSpec) :=
  OpenClaim.holds_of_wide 9 Tryz.f9 rfl rfl rfl rfl rfl rfl rfl ⟨rfl, rfl, rfl, rfl, rfl⟩ rfl rfl rfl rfl rfl (by kernel_rfl) Tryz.func9 (by unfold joinedFacts; rw [show Tryz.pinned.checked.prog.recurses 9 = false from norec_FloNear, show Tryz.pinned.checked.prog.inPlace 9 = Rows.floNearRow.inPlace from fi, show Tryz.pinned.checked.prog.unfollowed 9 = Rows.floNearRow.unfollowed from fu, show Tryz.pinned.checked.prog.varsNamed 9 = Rows.floNearRow.named from fv]; kernel_rfl)
    (of_decide_eq_true (by kernel_rfl)) (by unfold Func.isWrapper; first | (rw [if_pos (by decide +kernel)]; kernel_rfl) | (rw [if_neg (by decide +kernel)]; exact ⟨rfl, rfl⟩))
    (fun os started H enc _ => lifted os started H enc)
/-- THE STATEMENT -/
theorem proved : Rows.FloNearCardSaid :=
  Claim7.holds_tied_plain_at .later [] [.data, .data, .widerDeep, .widerDeep, .data, .data, .data, .data, .data, .sentinel, .sentinel, .pinned, .pinned] true (true, "1d6fd9ead80604889e6942dfba794aba432fb978ea210d34680d91fbcb61fb16") true
    over (fun _ h => by cases h) (by kernel_rfl) (fun _ h => by cases h) floNear_row_tie rfl ⟨rfl, rfl⟩ (by kernel_rfl) rfl
    (fun f fn hf hfn => by
      obtain rfl : f = 9 := Option.some.inj ((show Tryz.prog.funcNamed "distaff/distafflaw03.FloNear" = some 9 by kernel_rfl).symm.trans hf) |>.symm
      obtain rfl : fn = Tryz.f9 := (Option.some.inj (Tryz.func9.symm.trans hfn)).symm
      exact ⟨by kernel_rfl, fun j t ht => by
        rw [Tryz.params9] at ht
        have hm : t ∈ [25] := by simpa using Array.mem_of_getElem? ht
        have hall : ([25].all fun u => !Tryz.prog.wantsStandIn u) = true := by kernel_rfl
        exact (show Tryz.prog.wantsStandIn t = false by simpa using List.all_eq_true.1 hall t hm)⟩)
    (by kernel_rfl)
#print axioms proved
end Go.Proofs.YtjdanblijcdllaaGreatDoor.floNear
