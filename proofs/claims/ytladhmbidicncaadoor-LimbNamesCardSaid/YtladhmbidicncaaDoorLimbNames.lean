/- LimbNames: the errors and the limit have their numbers. No condition. The row lists three tables of Go's library, tied to the program's text by the card. -/
import Derived.Test.YtladhmbidicncaaDoorLawT
namespace Go.Proofs.YtladhmbidicncaaDoor.limbNames
open Go.ChangeShapes Go.WideShapes Go.RowKit Go.Proofs.YtladhmbidicncaaDoor
theorem n_div (W : World) : Calls Tryd.prog 26 #[.slice (some ⟨W.heap.size, 0, none⟩) 1 1, .slice none 0 0] (W.alloc (.cells #[.int .u32 1] 38)) fun e w' => e = .returned (.tuple #[.slice none 0 0, .slice none 0 0, .int .i64 12]) ∧ Fr [] W w' := by
  refine (ldiv_c _ (in_new W [1] (lim_of _ rfl) (by decide)) (Nw.nil (W.alloc (.cells #[.int .u32 1] 38)) 0).in).mono ?_
  intro e w' h
  unfold DivR at h
  have e1 : (fits (val [1]) && fits (val [])) = true := by decide +kernel
  rw [e1, if_neg (by decide), if_pos (by decide)] at h
  exact ⟨h.1, ((Fr.refl [] W).alloc _).same h.2⟩
theorem n_parse (W : World) : Calls Tryd.prog 36 #[.string ⟨#[49, 120]⟩] W fun e w' => e = .returned (.tuple #[.slice none 0 0, .int .i64 13]) ∧ Fr [] W w' := by
  refine (lparse_c W [49, 120] (by decide)).mono ?_
  intro e w' h
  unfold ParseR at h
  have e1 : parseE [49, 120] = 13 := by decide
  rw [e1, if_neg (by decide)] at h
  exact h
theorem n_text (W : World) (hT : Tab W) : Calls Tryd.prog 37 #[.slice none 0 0] W fun e w' => e = .returned (.string ⟨#[48]⟩) ∧ Fr [] W w' := by
  refine (ltext_c W (Nw.nil W 0).in hT).mono ?_
  rintro e w' ⟨rfl, hF⟩
  have e1 : textOf (val []) = [48] := by
    unfold textOf
    rw [if_pos (by decide)]
    exact dec_small (by decide)
  rw [e1]
  exact ⟨rfl, hF⟩
set_option maxRecDepth 100000 in
theorem walk (W : World) (hT : Tab W) : Calls Tryd.prog 7 #[] W fun e W' => e = .returned (.bool true) ∧ Below W.heap.size W W' := by
  have HT := Lib.hid hT
  clear hT
  go_enter Tryd.func7, Tryd.ntmps7
  go_wp2_with fail
  refine (n_div W).mono ?_
  rintro e w1 ⟨rfl, F1⟩
  have F1 := Lib.hid F1
  go_wp2_with fail
  refine (n_parse w1).mono ?_
  rintro e w2 ⟨rfl, F2⟩
  have F2 := Lib.hid (F1.out.same F2)
  have T2 := Lib.hid (HT.out.fr F2.out)
  clear F1
  go_wp2_with fail
  refine (limbAlive_c w2 T2.out).mono ?_
  rintro e w3 ⟨rfl, F3⟩
  have F3 := Lib.hid (F2.out.same F3)
  have T3 := Lib.hid (HT.out.fr F3.out)
  clear F2 T2
  go_wp2_with fail
  refine (n_text w3 T3.out).mono ?_
  rintro e w4 ⟨rfl, F4⟩
  have F4 := Lib.hid (F3.out.same F4)
  clear F3 T3
  go_wp2
  go_ret
  exact ⟨rfl, F4.out.below⟩
set_option maxRecDepth 100000 in
theorem lifted (os : Os) (started : os.Started) (H : Type) (enc : TypeId × Value → H) :
    ReturnsInHanded {} Tryd.checked os 7 .any (fun w args => (Rows.limbNamesSpec.pre enc Tryd.prog Tryd.f7 [] false w args ∧ laidMetH Tryd.prog listed w) ∧ sizedMet enc Tryd.prog Tryd.f7 (OpenSpec.ofChange Rows.limbNamesSpec) false w args) (Rows.limbNamesSpec.post enc Tryd.prog Tryd.f7 false true false false) := by
  refine returnsInHanded_of_change_and (C := Tryd.checked) (X := fun w _ => laidMetH Tryd.prog listed w) (fun _ _ _ hh h => h.of_heap hh) own started (by kernel_rfl) Tryd.func7
    (ChangeSpec.witness_shaped (enc := enc) (C := Tryd.checked) (os := os) (X := fun w _ => laidMetH Tryd.prog listed w) false (World.doorLaid Tryd.prog 24 os) #[] 8 rfl (World.shaped_of_RefB (by kernel_rfl) (by kernel_rfl)) (by kernel_rfl) (by kernel_rfl) (by kernel_rfl) (door_met os _)) ?_
  intro W base args ds gs before hval0 hW _ _ hL _
  have hT := tab_of_laid hL
  have hval : ∀ (j : Nat) t v, Tryd.f7.params[j]? = some t → args[j]? = some v → Value.okWide Tryd.prog W .any base t v := hval0
  have hW' := hW
  obtain ⟨p, q, hA0, hV, rfl, hfz, hnd⟩ := hW
  have hA : DataW.TrodAll enc Tryd.prog W 0 (fun _ => true) true Tryd.f7.params.toList args.toList ds p := hA0
  rw [Tryd.params7] at hA hval
  obtain ⟨rfl, rfl, rfl⟩ := trodAll_none hA
  obtain ⟨rfl, rfl⟩ := trodVars_none hV
  clear hA0 hval0
  refine (walk  W  hT).mono fun e W' ⟨he, bel⟩ => ?_
  subst he
  exact ⟨_, rfl, _, _, _, [], _, [], hW', trodAll_mk1 (shut_bool Tryd.underlying4 _), rfl, rfl, bel.frame _, fun h => by cases h⟩
theorem over : Rows.limbNamesRow.holds Tryd.pinned (OpenSpec.ofChange Rows.limbNamesSpec) :=
  OpenClaim.holds_of_wide 7 Tryd.f7 rfl rfl rfl rfl rfl rfl rfl ⟨rfl, rfl, rfl, rfl, rfl⟩ rfl rfl rfl rfl rfl (by kernel_rfl) Tryd.func7 (by kernel_rfl)
    (of_decide_eq_true (by kernel_rfl)) (by unfold Func.isWrapper; first | (rw [if_pos (by decide +kernel)]; kernel_rfl) | (rw [if_neg (by decide +kernel)]; exact ⟨rfl, rfl⟩))
    (fun os started H enc _ => lifted os started H enc)
/-- THE STATEMENT -/
theorem proved : Rows.LimbNamesCardSaid :=
  Claim7.holds_tied_plain_at .later [] [.data, .data, .data] true (true, "ea8df5c1a0e302ec682270425c9a8cf6ae00272b589ccfc6cc1f4d10a9599452") false
    over (fun _ h => by cases h) (by kernel_rfl) (fun _ h => by cases h) limbNames_row_tie rfl ⟨rfl, rfl⟩ (by kernel_rfl) rfl
    (fun f fn hf hfn => by
      obtain rfl : f = 7 := Option.some.inj ((show Tryd.prog.funcNamed "distaff/distafflaw01.LimbNames" = some 7 by kernel_rfl).symm.trans hf) |>.symm
      obtain rfl : fn = Tryd.f7 := (Option.some.inj (Tryd.func7.symm.trans hfn)).symm
      exact ⟨by kernel_rfl, fun j t ht => by
        rw [Tryd.params7] at ht
        simp at ht⟩)
    (by kernel_rfl)
#print axioms proved
end Go.Proofs.YtladhmbidicncaaDoor.limbNames
