/- floNames: the names of the odd numbers. -/
import Derived.Test.YtjdanblijcdllaaGreatDoorFloP
/- Walks: flo.Text at the number that is none, at the lower infinity and at the lower zero. -/
set_option linter.all false
namespace Go.Proofs.YtjdanblijcdllaaGreatDoor
open Go.ChangeShapes Go.WideShapes Go.RowKit Go.Shelf
set_option maxRecDepth 100000 in
set_option maxHeartbeats 1000000 in
theorem efg_m0 (w0 w : World) (g x cap : Nat) (R : RowB w0 g [] w x cap 0 []) : Calls Tryz.prog 190 #[.slice (some ⟨x, 0, none⟩) 0 cap, .bool true, .slice none 0 0, .int .i64 0, .int .i64 0, .int .i64 (-1), .int .u8 102, .bool true] w fun e w' => ∃ x5 c5, e = .returned (.slice (some ⟨x5, 0, none⟩) 2 c5) ∧ RowB w0 g [] w' x5 c5 2 [.int .u8 45, .int .u8 48] := by
  have R0 := Lib.hid R
  clear R
  go_enter Tryz.func190, Tryz.ntmps190
  go_wp2_with (first | (at_builtin; refine wpB_app rfl _ _ rfl R0.out 1 1 [.int .u8 45] rfl rfl rfl (by intro u hu; simp only [List.mem_cons, List.not_mem_nil, or_false] at hu; rcases hu with rfl <;> rfl) (by decide) rfl (by decide) ?_; intro x1 c1 w1 R1; have R1 : Hid (RowB w0 g [] w1 x1 c1 1 [.int .u8 45]) := Lib.hid R1; clear R0) | (at_builtin; refine wpB_app rfl _ _ rfl R1.out 1 2 [.int .u8 48] rfl rfl rfl (by intro u hu; simp only [List.mem_cons, List.not_mem_nil, or_false] at hu; rcases hu with rfl <;> rfl) (by decide) rfl (by decide) ?_; intro x2 c2 w2 R2; have R2 : Hid (RowB w0 g [] w2 x2 c2 2 [.int .u8 45, .int .u8 48]) := Lib.hid R2; clear R1))
  go_ret
  exact ⟨x2, c2, rfl, R2.out⟩
set_option maxRecDepth 100000 in
set_option maxHeartbeats 1000000 in
theorem ftoa_m0 (w0 w : World) (x : Nat) (hown : w.ownsRow w0.heap.size 5 1 (.slice (some ⟨x, 0, none⟩) 0 24) 0 []) (hF : Fr [] w0 w) (hg : 11 < w.heap.size) (hx : x ≠ 11) : Calls Tryz.prog 165 #[.slice (some ⟨x, 0, none⟩) 0 24, .float .f64 9223372036854775808, .int .u8 102, .int .i64 (-1)] w fun e w' => ∃ x5 c5, e = .returned (.slice (some ⟨x5, 0, none⟩) 2 c5) ∧ w'.ownsRow w0.heap.size 5 1 (.slice (some ⟨x5, 0, none⟩) 2 c5) 2 ([45, 48].map encB) ∧ Fr [] w0 w' := by
  have hr := isbits_run 9223372036854775808
  have h1 : bits BinOp.and IntKind.i64 2048 2047 = 0 := by decide
  have h2 : bits BinOp.and IntKind.u64 9223372036854775808 4503599627370495 = 0 := by decide
  have RB : Hid (RowB w0 11 [] w.drew x 24 0 []) := Lib.hid ⟨own_fr hown (Fr.refl [] w).drew (by simp), hx, fun t v hv => absurd hv (by simp), hg, hF.drew⟩
  have CE := Lib.hid (efg_m0 w0 w.drew 11 x 24 RB.out)
  clear RB hown hF hg hx
  go_enter Tryz.func165, Tryz.ntmps165
  go_wp2_with fail
  go_region
  go_wp2_with fail
  refine CE.out.mono ?_
  rintro e w7 ⟨x5, c5, rfl, R5⟩
  have R5 := Lib.hid R5
  clear CE
  go_wp2_with fail
  go_ret
  exact ⟨x5, c5, rfl, R5.out.own, R5.out.fr⟩
set_option maxRecDepth 100000 in
theorem isfmt_m0 (w : World) (HL : LdT w) : Calls Tryz.prog 126 #[.float .f64 9223372036854775808, .int .u8 102, .int .i64 (-1), .int .i64 64] w fun e w' => e = .returned (.string ⟨#[45, 48]⟩) ∧ Fr [] w w' := by
  have hm := max24
  have MK := mk24
  obtain ⟨W1, hW1⟩ : ∃ W1, W1 = w.alloc (.cells (Array.replicate 24 (.int .u8 0)) 5) := ⟨_, rfl⟩
  have F1 : Hid (Fr [] w W1) := Lib.hid (by rw [hW1]; exact (Fr.refl _ _).alloc _)
  obtain ⟨k, hk⟩ : ∃ k, k = w.heap.size := ⟨_, rfl⟩
  have CF := Lib.hid (ftoa_m0 w W1 k (by rw [hW1, hk]; exact own_u8s w) F1.out (by rw [hW1]; have := HL.big; rw [size_alloc]; omega) (by rw [hk]; have := HL.big; omega))
  clear HL
  go_enter Tryz.func126, Tryz.ntmps126
  go_wp2_with fail
  rw [← hW1, ← hk]
  clear hW1 hk MK
  refine CF.out.mono ?_
  rintro e w3 ⟨x5, c5, rfl, own5, F5⟩
  have F5 := Lib.hid F5
  have hcv : (convert 137 9 (.slice (some ⟨x5, 0, none⟩) 2 c5)).run Tryz.prog w3 = .ok (.string ⟨#[45, 48]⟩) w3 := conv_own (L := [45, 48]) own5
  clear own5 CF
  go_wp2_with fail
  go_ret
  exact ⟨rfl, F5.out⟩
theorem fmt_m0 (w : World) (HL : LdT w) : Calls Tryz.prog 79 #[.float .f64 9223372036854775808, .int .u8 102, .int .i64 (-1), .int .i64 64] w fun e w' => e = .returned (.string ⟨#[45, 48]⟩) ∧ Fr [] w w' := by
  have CF := Lib.hid (isfmt_m0 w HL)
  clear HL
  go_enter Tryz.func79, Tryz.ntmps79
  go_wp2_with fail
  refine CF.out.mono ?_
  rintro e w3 ⟨rfl, F3⟩
  go_wp2_with fail
  go_ret
  exact ⟨rfl, F3⟩
set_option maxRecDepth 100000 in
theorem txt_m0 (w : World) (HL : LdT w) : Calls Tryz.prog 36 #[.float .f64 9223372036854775808] w fun e w' => e = .returned (.string ⟨#[45, 48, 46, 48]⟩) ∧ Fr [] w w' := by
  have CN := Lib.hid (name_fin 9223372036854775808 (by decide) (by decide) (by decide) w)
  have CA : Hid (Calls Tryz.prog 77 #[.float .f64 9223372036854775808] w fun e w' => e = .returned (.float .f64 0) ∧ w = w') := Lib.hid (abs_c 9223372036854775808 (by decide) w)
  have o1 : FloatKind.f64.format.order 0 0 = some .eq := by decide
  have CF := Lib.hid (fmt_m0 w HL)
  have CP := Lib.hid (fun w1 => point_no ⟨#[45, 48]⟩ w1 (by decide) (by decide))
  clear HL
  go_enter Tryz.func36, Tryz.ntmps36
  go_wp2_with fail
  refine CN.out.mono ?_
  rintro e w' ⟨rfl, rfl⟩
  go_wp2_with fail
  refine CA.out.mono ?_
  rintro e w' ⟨rfl, rfl⟩
  go_wp2_with fail
  refine CF.out.mono ?_
  rintro e w2 ⟨rfl, F2⟩
  have F2 := Lib.hid F2
  go_wp2_with fail
  refine (CP.out _).mono ?_
  rintro e w' ⟨rfl, rfl⟩
  go_wp2_with fail
  go_ret
  exact ⟨rfl, F2.out⟩
theorem txt_nan (w : World) : Calls Tryz.prog 36 #[.float .f64 9221120237041090561] w fun e w' => e = .returned (.string ⟨#[43, 110, 97, 110, 46, 48]⟩) ∧ w = w' := by
  have CN : Hid (Calls Tryz.prog 76 #[.float .f64 9221120237041090561] w fun e w' => e = .returned (.string ⟨#[43, 110, 97, 110, 46, 48]⟩) ∧ w = w') := Lib.hid (by
    have hb1 : (FloatKind.f64.format.order 9221120237041090561 9221120237041090561 != some .eq) = true := by decide
    go_enter Tryz.func76, Tryz.ntmps76
    go_wp2_with fail
    go_ret
    exact ⟨rfl, rfl⟩)
  go_enter Tryz.func36, Tryz.ntmps36
  go_wp2_with fail
  refine CN.out.mono ?_
  rintro e w' ⟨rfl, rfl⟩
  go_wp2_with fail
  go_ret
  exact ⟨rfl, rfl⟩
theorem txt_ninf (w : World) : Calls Tryz.prog 36 #[.float .f64 18442240474082181120] w fun e w' => e = .returned (.string ⟨#[45, 105, 110, 102, 46, 48]⟩) ∧ w = w' := by
  have C1 := Lib.hid (fun w => by have := isinf1_c 18442240474082181120 w; rw [show (isInf 18442240474082181120 && !fsg 18442240474082181120) = false by decide] at this; exact this)
  have C2 := Lib.hid (fun w => by have := isinfm_c 18442240474082181120 (by decide) w; rw [show (isInf 18442240474082181120 && fsg 18442240474082181120) = true by decide] at this; exact this)
  have CN : Hid (Calls Tryz.prog 76 #[.float .f64 18442240474082181120] w fun e w' => e = .returned (.string ⟨#[45, 105, 110, 102, 46, 48]⟩) ∧ w = w') := Lib.hid (by
    have hb1 : (FloatKind.f64.format.order 18442240474082181120 18442240474082181120 != some .eq) = false := by decide
    go_enter Tryz.func76, Tryz.ntmps76
    go_wp2_with fail
    refine (C1.out _).mono ?_
    rintro e w' ⟨rfl, rfl⟩
    go_wp2_with fail
    refine (C2.out _).mono ?_
    rintro e w' ⟨rfl, rfl⟩
    go_wp2_with fail
    go_ret
    exact ⟨rfl, rfl⟩)
  go_enter Tryz.func36, Tryz.ntmps36
  go_wp2_with fail
  refine CN.out.mono ?_
  rintro e w' ⟨rfl, rfl⟩
  go_wp2_with fail
  go_ret
  exact ⟨rfl, rfl⟩
theorem nan_c (w : World) : Calls Tryz.prog 37 #[] w fun e w' => e = .returned (.float .f64 9221120237041090561) ∧ w = w' := by
  have hf : ∀ w, (callFunc 28 #[.int .u64 9221120237041090561]).run Tryz.prog w = .ok (.value (.float .f64 9221120237041090561)) w := fun w => from_run 9221120237041090561 w
  go_enter Tryz.func37, Tryz.ntmps37
  go_wp2
  go_ret
  exact ⟨rfl, rfl⟩
end Go.Proofs.YtjdanblijcdllaaGreatDoor
namespace Go.Proofs.YtjdanblijcdllaaGreatDoor.floNames
open Go.ChangeShapes Go.WideShapes Go.RowKit Go.Proofs.YtjdanblijcdllaaGreatDoor
theorem infm_c (w : World) : Calls Tryz.prog 38 #[.int .i64 (-1)] w fun e w' => e = .returned (.float .f64 18442240474082181120) ∧ w = w' := by
  have hf : ∀ w, (callFunc 28 #[.int .u64 18442240474082181120]).run Tryz.prog w = .ok (.value (.float .f64 18442240474082181120)) w := fun w => from_run 18442240474082181120 w
  go_enter Tryz.func38, Tryz.ntmps38
  go_wp2
  go_ret
  exact ⟨rfl, rfl⟩
set_option maxRecDepth 20000 in
set_option maxHeartbeats 1000000 in
theorem walk (W : World) (hL : laidMet Tryz.prog listedF W) :
    Calls Tryz.prog 8 #[] W fun e W' => e = .returned (.bool true) ∧ Below W.heap.size W W' := by
  have HL := Lib.hid (ldF_of hL)
  have CC : Hid (∀ w, Calls Tryz.prog 35 #[.float .f64 0, .float .f64 13830554455654793216] w fun e w' => e = .returned (.float .f64 9223372036854775808) ∧ w = w') := Lib.hid (fun w => copysign_c 0 13830554455654793216 (by decide) (by decide) w)
  have CS1 : Hid (∀ w, Calls Tryz.prog 32 #[.float .f64 0, .float .f64 9223372036854775808] w fun e w' => e = .returned (.bool false) ∧ Fr [] w w') := Lib.hid (fun w => flsame_c 0 9223372036854775808 w)
  have CS2 : Hid (∀ w, Calls Tryz.prog 32 #[.float .f64 9221120237041090561, .float .f64 18444492273895866369] w fun e w' => e = .returned (.bool true) ∧ Fr [] w w') := Lib.hid (fun w => flsame_c 9221120237041090561 18444492273895866369 w)
  have hn := neg_run 9221120237041090561
  have hn2 : Op.negFloat .f64 9221120237041090561 = 18444492273895866369 := by decide
  clear hL
  go_enter Tryz.func8, Tryz.ntmps8
  go_wp2_with fail
  refine (parse_12 W).mono ?_
  rintro e w1 ⟨rfl, F1⟩
  have G1 := Lib.hid F1
  clear F1
  go_wp2_with fail
  refine (CC.out _).mono ?_
  rintro e w2 ⟨rfl, rfl⟩
  go_wp2_with fail
  refine (floAlive_c _ (HL.out.fr G1.out)).mono ?_
  rintro e w2 ⟨rfl, F2⟩
  have G2 := Lib.hid (G1.out.same F2)
  clear G1 F2
  go_wp2_with fail
  refine (nan_c _).mono ?_
  rintro e w3 ⟨rfl, rfl⟩
  go_wp2_with fail
  refine (txt_nan _).mono ?_
  rintro e w3 ⟨rfl, rfl⟩
  go_wp2_with fail
  refine (infm_c _).mono ?_
  rintro e w3 ⟨rfl, rfl⟩
  go_wp2_with fail
  refine (txt_ninf _).mono ?_
  rintro e w3 ⟨rfl, rfl⟩
  go_wp2_with fail
  refine (txt_m0 _ (HL.out.fr G2.out).t).mono ?_
  rintro e w4 ⟨rfl, F4⟩
  have G4 := Lib.hid (G2.out.same F4)
  clear G2 F4
  go_wp2_with fail
  refine (CS1.out _).mono ?_
  rintro e w5 ⟨rfl, F5⟩
  have G5 := Lib.hid (G4.out.same F5)
  clear G4 F5
  go_wp2_with fail
  refine (nan_c _).mono ?_
  rintro e w6 ⟨rfl, rfl⟩
  go_wp2_with fail
  refine (nan_c _).mono ?_
  rintro e w6 ⟨rfl, rfl⟩
  go_wp2_with fail
  refine (CS2.out _).mono ?_
  rintro e w6 ⟨rfl, F6⟩
  have G6 := Lib.hid (G5.out.same F6)
  clear G5 F6
  go_wp2_with fail
  go_ret
  exact ⟨rfl, G6.out.below⟩
set_option maxRecDepth 100000 in
theorem lifted (os : Os) (started : os.Started) (H : Type) (enc : TypeId × Value → H) :
    ReturnsInHanded {} Tryz.checked os 8 .any (fun w args => (Rows.floNamesSpec.pre enc Tryz.prog Tryz.f8 [] false w args ∧ laidMetH Tryz.prog listedF w) ∧ sizedMet enc Tryz.prog Tryz.f8 (OpenSpec.ofChange Rows.floNamesSpec) false w args) (Rows.floNamesSpec.post enc Tryz.prog Tryz.f8 false true false false) := by
  refine returnsInHanded_of_change_and (C := Tryz.checked) (X := fun w _ => laidMetH Tryz.prog listedF w) (fun _ _ _ hh h => h.of_heap hh) own started (by kernel_rfl) Tryz.func8
    (ChangeSpec.witness_shaped (enc := enc) (C := Tryz.checked) (os := os) (X := fun w _ => laidMetH Tryz.prog listedF w) false (World.laidAll Tryz.prog os listedF) #[] 8 (World.laidAll_os _ _ _) (World.shaped_of_ZipB (by kernel_rfl) (by kernel_rfl)) (by kernel_rfl) (by kernel_rfl) (by kernel_rfl) (by rw [MakeChecks.laidMetH_plain _ _ _ (by kernel_rfl)]; exact listedF_met os _)) ?_
  intro W base args ds gs before hval0 hW _ _ hL _
  rw [MakeChecks.laidMetH_plain _ _ _ (by kernel_rfl)] at hL
  have hT := hL
  have hval : ∀ (j : Nat) t v, Tryz.f8.params[j]? = some t → args[j]? = some v → Value.okWide Tryz.prog W .any base t v := hval0
  have hW' := hW
  obtain ⟨p, q, hA0, hV, rfl, hfz, hnd⟩ := hW
  have hA : DataW.TrodAll enc Tryz.prog W 0 (fun _ => true) true Tryz.f8.params.toList args.toList ds p := hA0
  rw [Tryz.params8] at hA hval
  obtain ⟨rfl, rfl, rfl⟩ := trodAll_none hA
  obtain ⟨rfl, rfl⟩ := trodVars_none hV
  clear hA0 hval0
  refine (walk  W  hT).mono fun e W' ⟨he, bel⟩ => ?_
  subst he
  exact ⟨_, rfl, _, _, _, [], _, [], hW', trodAll_mk1 (shut_bool Tryz.underlying4 _), rfl, rfl, bel.frame _, fun h => by cases h⟩
theorem fi : Tryz.prog.inPlace 8 = Rows.floNamesRow.inPlace := by kernel_rfl
theorem fu : Tryz.prog.unfollowed 8 = Rows.floNamesRow.unfollowed := by kernel_rfl
theorem fv : Tryz.prog.varsNamed 8 = Rows.floNamesRow.named := by kernel_rfl
theorem over : Rows.floNamesRow.holds Tryz.pinned (OpenSpec.ofChange Rows.floNamesSpec) :=
  OpenClaim.holds_of_wide 8 Tryz.f8 rfl rfl rfl rfl rfl rfl rfl ⟨rfl, rfl, rfl, rfl, rfl⟩ rfl rfl rfl rfl rfl (by kernel_rfl) Tryz.func8 (by unfold joinedFacts; rw [show Tryz.pinned.checked.prog.recurses 8 = false from norec_FloNames, show Tryz.pinned.checked.prog.inPlace 8 = Rows.floNamesRow.inPlace from fi, show Tryz.pinned.checked.prog.unfollowed 8 = Rows.floNamesRow.unfollowed from fu, show Tryz.pinned.checked.prog.varsNamed 8 = Rows.floNamesRow.named from fv]; kernel_rfl)
    (of_decide_eq_true (by kernel_rfl)) (by unfold Func.isWrapper; first | (rw [if_pos (by decide +kernel)]; kernel_rfl) | (rw [if_neg (by decide +kernel)]; exact ⟨rfl, rfl⟩))
    (fun os started H enc _ => lifted os started H enc)
/-- THE STATEMENT -/
theorem proved : Rows.FloNamesCardSaid :=
  Claim7.holds_tied_plain_at .later [] [.data, .data, .widerDeep, .widerDeep, .data, .data, .data, .data, .data, .sentinel, .sentinel, .pinned, .pinned] true (true, "1d6fd9ead80604889e6942dfba794aba432fb978ea210d34680d91fbcb61fb16") true
    over (fun _ h => by cases h) (by kernel_rfl) (fun _ h => by cases h) floNames_row_tie rfl ⟨rfl, rfl⟩ (by kernel_rfl) rfl
    (fun f fn hf hfn => by
      obtain rfl : f = 8 := Option.some.inj ((show Tryz.prog.funcNamed "distaff/distafflaw03.FloNames" = some 8 by kernel_rfl).symm.trans hf) |>.symm
      obtain rfl : fn = Tryz.f8 := (Option.some.inj (Tryz.func8.symm.trans hfn)).symm
      exact ⟨by kernel_rfl, fun j t ht => by
        rw [Tryz.params8] at ht
        simp at ht⟩)
    (by kernel_rfl)
#print axioms proved
end Go.Proofs.YtjdanblijcdllaaGreatDoor.floNames
