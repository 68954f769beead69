/- towerNames. -/
import Derived.Test.YtjdanblijcdllaaGreatDoorTwQ
set_option linter.all false
namespace Go.Proofs.YtjdanblijcdllaaGreatDoor.towerNames
open Go.ChangeShapes Go.WideShapes Go.RowKit Go.Proofs.YtjdanblijcdllaaGreatDoor
variable {a a2 : Option Addr} {cap cap2 : Nat}
def zeroV : Value := .agg #[.bool false, .float .f64 0, .bool false, .slice none 0 0]
theorem whole_kind (w : World) (l : Nat) (f : Nat) : Calls Tryz.prog 23 #[.int .i64 0, .agg #[.bool false, .float .f64 0, .bool false, .slice a l cap], .agg #[.bool true, .float .f64 f, .bool false, .slice none 0 0]] w fun e w' => e = .returned (.tuple #[.agg #[.bool false, .float .f64 0, .bool false, .slice none 0 0], .int .i64 41]) ∧ Fr [] w w' := by
  have hsf := sf_run
  go_enter Tryz.func23, Tryz.ntmps23
  go_wp2
  refine bodyPost_ret (ret_nv2 rfl _ _ (w.heap.size + 1 + 1) _ _ _ _ rfl (by simp only [blk_alloc, size_alloc]; rw [if_pos trivial])) rfl ?_
  exact ⟨rfl, (((Fr.refl [] w).alloc _).alloc _).alloc _⟩
theorem one_kind (w : World) (l : Nat) : Calls Tryz.prog 25 #[.int .i64 8, .agg #[.bool false, .float .f64 0, .bool false, .slice a l cap]] w fun e w' => e = .returned (.tuple #[.agg #[.bool false, .float .f64 0, .bool false, .slice none 0 0], .int .i64 41]) ∧ Fr [] w w' := by
  have hsf := sf_run
  go_enter Tryz.func25, Tryz.ntmps25
  go_wp2
  refine bodyPost_ret (ret_nv2 rfl _ _ (w.heap.size + 1) _ _ _ _ rfl (by simp only [blk_alloc, size_alloc]; rw [if_pos trivial])) rfl ?_
  exact ⟨rfl, ((Fr.refl [] w).alloc _).alloc _⟩
theorem div_zero (w : World) (f : Nat) : Calls Tryz.prog 26 #[.agg #[.bool true, .float .f64 f, .bool false, .slice none 0 0], .agg #[.bool false, .float .f64 0, .bool false, .slice a 0 cap]] w fun e w' => e = .returned (.tuple #[.agg #[.bool false, .float .f64 0, .bool false, .slice none 0 0], .int .i64 12]) ∧ Fr [] w w' := by
  obtain ⟨W1, hW1⟩ : ∃ W1, W1 = ((w.alloc (.cells #[.bool true, .float .f64 f, .bool false, .slice none 0 0] 27)).alloc (.cells #[.bool false, .float .f64 0, .bool false, .slice a 0 cap] 27)).alloc (.cells #[.bool false, .float .f64 0, .bool false, .slice none 0 0] 27) := ⟨_, rfl⟩
  obtain ⟨k, hk⟩ : ∃ k, k = w.heap.size := ⟨_, rfl⟩
  have F1 : Hid (Fr [] w W1) := Lib.hid (by rw [hW1]; exact (((Fr.refl _ _).alloc _).alloc _).alloc _)
  have B3 : Hid (BxN W1 (k + 1 + 1) (.bool false) (.float .f64 0) (.bool false) (.slice none 0 0)) := Lib.hid (by
    unfold BxN
    rw [hW1, hk]
    simp only [blk_alloc, size_alloc]
    rw [if_pos trivial])
  have CZ := Lib.hid (twzero_c (a := a) (cap := cap) W1 false 0 false 0)
  have HK := Lib.hid hk
  have hsf := sf_run
  go_enter Tryz.func26, Tryz.ntmps26
  go_wp2_with fail
  rw [← hW1, ← hk]
  clear hW1 hk
  refine CZ.out.mono ?_
  rintro e w2 ⟨rfl, F2⟩
  have P2 := Lib.hid (B3.out.fr F2)
  have F2 := Lib.hid (F1.out.same F2)
  clear CZ F1 B3
  have q0 := P2.out.c0
  have q1 := P2.out.c1
  have q2 := P2.out.c2
  have q3 := P2.out.c3
  have p0 := P2.out.f 0
  have p1 := P2.out.f 1
  have p2 := P2.out.f 2
  have p3 := P2.out.f 3
  have pl := P2.out.lt
  go_wp2_with fail
  have hkw : w.heap.size ≤ k + 1 + 1 := by have := HK.out; omega
  refine bodyPost_ret (ret_nv2 rfl _ _ _ _ _ _ _ rfl (P2.out.set _ _ _ _)) rfl ?_
  exact ⟨rfl, F2.out.set4 hkw _ _ _ _⟩
theorem right_no (w : World) : Calls Tryz.prog 27 #[.agg #[.bool false, .float .f64 4607182418800017408, .bool false, .slice none 0 0]] w fun e w' => e = .returned (.bool false) ∧ Fr [] w w' := by
  have hr : ∀ w : World, (callFunc 49 #[.float .f64 4607182418800017408]).run Tryz.prog w = .ok (.value (.int .u64 4607182418800017408)) w := bits_run 4607182418800017408
  go_enter Tryz.func27, Tryz.ntmps27
  go_wp2
  go_ret
  exact ⟨rfl, (Fr.refl _ _).alloc _⟩
theorem int0_c (w : World) : Calls Tryz.prog 19 #[.int .i64 0] w fun e w' => ∃ a cap, e = .returned (.agg #[.bool false, .float .f64 0, .bool false, .slice a 0 cap]) ∧ Fr [] w w' := by
  refine (int_c w 0 0 0 [] (by decide) (by decide) (by decide) rfl rfl rfl).mono ?_
  rintro e w' ⟨a, c, h1, _, h3⟩
  exact ⟨a, c, h1, h3⟩
set_option maxRecDepth 100000 in
theorem walk (W : World) (hT0 : laidMet Tryz.prog listed W) : Calls Tryz.prog 6 #[] W fun e W' => e = .returned (.bool true) ∧ Below W.heap.size W W' := by
  have HL := Lib.hid (ldT_of hT0)
  clear hT0
  have hsf := sf_run
  go_enter Tryz.func6, Tryz.ntmps6
  go_wp2_with fail
  refine (int_c W 1 1 1 [1] (by decide) (by decide) (by decide) rfl lims_1 rfl).mono ?_
  rintro e w1 ⟨a1, c1, rfl, _, F1⟩
  have G1 := Lib.hid F1
  clear F1
  go_wp2_with fail
  refine (twflo_c w1 4607182418800017408).mono ?_
  rintro e w2 ⟨rfl, F2⟩
  have G2 := Lib.hid (G1.out.same F2)
  clear G1 F2
  go_wp2_with fail
  refine (whole_kind w2 1 4607182418800017408).mono ?_
  rintro e w3 ⟨rfl, F3⟩
  have G3 := Lib.hid ((G2.out.same F3).alloc (.cells #[.bool false, .float .f64 0, .bool false, .slice none 0 0] 27))
  clear G2 F3
  go_wp2_with fail
  refine (int_c _ 1 1 1 [1] (by decide) (by decide) (by decide) rfl lims_1 rfl).mono ?_
  rintro e w4 ⟨a4, c4, rfl, _, F4⟩
  have G4 := Lib.hid (G3.out.same F4)
  clear G3 F4
  go_wp2_with fail
  refine (one_kind w4 1).mono ?_
  rintro e w5 ⟨rfl, F5⟩
  have G5 := Lib.hid ((G4.out.same F5).alloc (.cells #[.bool false, .float .f64 0, .bool false, .slice none 0 0] 27))
  clear G4 F5
  go_wp2_with fail
  refine (twflo_c _ 4607182418800017408).mono ?_
  rintro e w6 ⟨rfl, F6⟩
  have G6 := Lib.hid (G5.out.same F6)
  clear G5 F6
  go_wp2_with fail
  refine (int0_c w6).mono ?_
  rintro e w7 ⟨a7, c7, rfl, F7⟩
  have G7 := Lib.hid (G6.out.same F7)
  clear G6 F7
  go_wp2_with fail
  refine (div_zero w7 4607182418800017408).mono ?_
  rintro e w8 ⟨rfl, F8⟩
  have G8 := Lib.hid ((G7.out.same F8).alloc (.cells #[.bool false, .float .f64 0, .bool false, .slice none 0 0] 27))
  clear G7 F8
  go_wp2_with fail
  refine (towerAlive_c _ (HL.out.fr G8.out)).mono ?_
  rintro e w9 ⟨rfl, F9⟩
  have G9 := Lib.hid (G8.out.same F9)
  clear G8 F9
  go_wp2_with fail
  refine (right_no w9).mono ?_
  rintro e wa ⟨rfl, Fa⟩
  have Ga := Lib.hid (G9.out.same Fa)
  clear G9 Fa
  go_wp2_with fail
  go_ret
  exact ⟨rfl, Ga.out.below⟩
set_option maxRecDepth 100000 in
theorem lifted (os : Os) (started : os.Started) (H : Type) (enc : TypeId × Value → H) :
    ReturnsInHanded {} Tryz.checked os 6 .any (fun w args => (Rows.towerNamesSpec.pre enc Tryz.prog Tryz.f6 [] false w args ∧ laidMetH Tryz.prog listed w) ∧ sizedMet enc Tryz.prog Tryz.f6 (OpenSpec.ofChange Rows.towerNamesSpec) false w args) (Rows.towerNamesSpec.post enc Tryz.prog Tryz.f6 false true false false) := by
  refine returnsInHanded_of_change_and (C := Tryz.checked) (X := fun w _ => laidMetH Tryz.prog listed w) (fun _ _ _ hh h => h.of_heap hh) own started (by kernel_rfl) Tryz.func6
    (ChangeSpec.witness_shaped (enc := enc) (C := Tryz.checked) (os := os) (X := fun w _ => laidMetH Tryz.prog listed w) false (World.laidAll Tryz.prog os listed) #[] 8 (World.laidAll_os _ _ _) (World.shaped_of_ZipB (by kernel_rfl) (by kernel_rfl)) (by kernel_rfl) (by kernel_rfl) (by kernel_rfl) (by rw [MakeChecks.laidMetH_plain _ _ _ (by kernel_rfl)]; exact listed_met os _)) ?_
  intro W base args ds gs before hval0 hW _ _ hL _
  rw [MakeChecks.laidMetH_plain _ _ _ (by kernel_rfl)] at hL
  have hT := hL
  have hval : ∀ (j : Nat) t v, Tryz.f6.params[j]? = some t → args[j]? = some v → Value.okWide Tryz.prog W .any base t v := hval0
  have hW' := hW
  obtain ⟨p, q, hA0, hV, rfl, hfz, hnd⟩ := hW
  have hA : DataW.TrodAll enc Tryz.prog W 0 (fun _ => true) true Tryz.f6.params.toList args.toList ds p := hA0
  rw [Tryz.params6] at hA hval
  obtain ⟨rfl, rfl, rfl⟩ := trodAll_none hA
  obtain ⟨rfl, rfl⟩ := trodVars_none hV
  clear hA0 hval0
  refine (walk  W  hT).mono fun e W' ⟨he, bel⟩ => ?_
  subst he
  exact ⟨_, rfl, _, _, _, [], _, [], hW', trodAll_mk1 (shut_bool Tryz.underlying4 _), rfl, rfl, bel.frame _, fun h => by cases h⟩
theorem over : Rows.towerNamesRow.holds Tryz.pinned (OpenSpec.ofChange Rows.towerNamesSpec) :=
  OpenClaim.holds_of_wide 6 Tryz.f6 rfl rfl rfl rfl rfl rfl rfl ⟨rfl, rfl, rfl, rfl, rfl⟩ rfl rfl rfl rfl rfl (by kernel_rfl) Tryz.func6 (by kernel_rfl)
    (of_decide_eq_true (by kernel_rfl)) (by unfold Func.isWrapper; first | (rw [if_pos (by decide +kernel)]; kernel_rfl) | (rw [if_neg (by decide +kernel)]; exact ⟨rfl, rfl⟩))
    (fun os started H enc _ => lifted os started H enc)
/-- THE STATEMENT -/
theorem proved : Rows.TowerNamesCardSaid :=
  Claim7.holds_tied_plain_at .later [] [.data, .data, .data, .data, .sentinel, .sentinel, .pinned, .pinned] true (true, "1d6fd9ead80604889e6942dfba794aba432fb978ea210d34680d91fbcb61fb16") true
    over (fun _ h => by cases h) (by kernel_rfl) (fun _ h => by cases h) towerNames_row_tie rfl ⟨rfl, rfl⟩ (by kernel_rfl) rfl
    (fun f fn hf hfn => by
      obtain rfl : f = 6 := Option.some.inj ((show Tryz.prog.funcNamed "distaff/distafflaw04.TowerNames" = some 6 by kernel_rfl).symm.trans hf) |>.symm
      obtain rfl : fn = Tryz.f6 := (Option.some.inj (Tryz.func6.symm.trans hfn)).symm
      exact ⟨by kernel_rfl, fun j t ht => by
        rw [Tryz.params6] at ht
        simp at ht⟩)
    (by kernel_rfl)
#print axioms proved
end Go.Proofs.YtjdanblijcdllaaGreatDoor.towerNames
