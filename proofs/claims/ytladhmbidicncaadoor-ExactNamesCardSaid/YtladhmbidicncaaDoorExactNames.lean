/- ExactNames: the error and the limit have their numbers. No condition. The row lists three tables of Go's library, tied to the program's text by the card. -/
import Derived.Test.YtladhmbidicncaaDoorExaPB
namespace Go.Proofs.YtladhmbidicncaaDoor.exactNames
open Go.ChangeShapes Go.WideShapes Go.RowKit Go.Proofs.YtladhmbidicncaaDoor
theorem pow_100 : powP 100 false 1 false 2 = some (false, 1267650600228229401496703205376) := by
  rw [pow_even (by decide) (by decide) (by decide +kernel)]
  show powP 50 false 1 false 4 = _
  rw [pow_even (by decide) (by decide) (by decide +kernel)]
  show powP 25 false 1 false 16 = _
  rw [pow_odd (by decide) (by decide +kernel) (by decide) (by decide +kernel)]
  show powP 12 false 16 false 256 = _
  rw [pow_even (by decide) (by decide) (by decide +kernel)]
  show powP 6 false 16 false 65536 = _
  rw [pow_even (by decide) (by decide) (by decide +kernel)]
  show powP 3 false 16 false 4294967296 = _
  rw [pow_odd (by decide) (by decide +kernel) (by decide) (by decide +kernel)]
  show powP 1 false 68719476736 false 18446744073709551616 = _
  rw [pow_odd_end (by decide) (by decide +kernel) (by decide)]
  rfl
theorem dec_100 : Lib.decDigits 1267650600228229401496703205376 = [49, 50, 54, 55, 54, 53, 48, 54, 48, 48, 50, 50, 56, 50, 50, 57, 52, 48, 49, 52, 57, 54, 55, 48, 51, 50, 48, 53, 51, 55, 54] := by
  repeat (first | rw [dec_small (by decide)] | rw [dec_big (by decide)])
  rfl
theorem text_100 : textI false 1267650600228229401496703205376 = [49, 50, 54, 55, 54, 53, 48, 54, 48, 48, 50, 50, 56, 50, 50, 57, 52, 48, 49, 52, 57, 54, 55, 48, 51, 50, 48, 53, 51, 55, 54] := by
  unfold textI textOf
  rw [if_neg (by decide), if_pos (by decide +kernel)]
  exact dec_100
theorem right_no (W : World) : Calls Tryd.prog 60 #[.agg #[.bool true, .slice none 0 0]] W fun e w' => e = .returned (.bool false) ∧ Fr [] W w' := by
  have h := (Nw.nil W 0).in
  exact eright_c W true 0 ⟨rfl, h.rd, h.lim, h.le, h.cm⟩
set_option maxRecDepth 100000 in
set_option maxHeartbeats 4000000 in
theorem walk (W : World) (hT : Tab W) : Calls Tryd.prog 19 #[] W fun e W' => e = .returned (.bool true) ∧ Below W.heap.size W W' := by
  have HT := Lib.hid hT
  clear hT
  have C2 : Hid (∀ W, Calls Tryd.prog 61 #[.int .i64 2] W (GivesI W false 2)) := Lib.hid (fun W => eof_c W 2 (by decide) (by decide))
  have C3 : Hid (∀ W, Calls Tryd.prog 61 #[.int .i64 1001] W (GivesI W false 1001)) := Lib.hid (fun W => eof_c W 1001 (by decide) (by decide))
  have C4 : Hid (∀ W, Calls Tryd.prog 61 #[.int .i64 100] W (GivesI W false 100)) := Lib.hid (fun W => eof_c W 100 (by decide) (by decide))
  have CB : Hid (∀ W a c a2 c2, In W a c (lims 2) → In W a2 c2 (lims 1001) → Calls Tryd.prog 72 #[.agg #[.bool false, .slice a (lims 2).length c], .agg #[.bool false, .slice a2 (lims 1001).length c2]] W fun e w' => e = .returned (.tuple #[.agg #[.bool false, .slice none 0 0], .int .i64 21]) ∧ Fr [] W w') := Lib.hid (fun W a c a2 c2 _ h2 => epow_bad W false 2 false 1001 (fun h => by cases h) (fun h => absurd h.2 (by decide)) h2)
  have CP : Hid (∀ W a c a2 c2, In W a c (lims 2) → In W a2 c2 (lims 100) → Calls Tryd.prog 72 #[.agg #[.bool false, .slice a (lims 2).length c], .agg #[.bool false, .slice a2 (lims 100).length c2]] W (PowF W false 1267650600228229401496703205376 0)) := Lib.hid (fun W a c a2 c2 h h2 => by
    refine (epow_c W false 2 100 (by decide) (by decide +kernel) h h2).mono ?_
    intro e w' h
    rw [pow_100] at h
    exact powI_flat h)
  have CT : Hid (∀ W a c, In W a c (lims 1267650600228229401496703205376) → Tab W → Calls Tryd.prog 58 #[.agg #[.bool false, .slice a (lims 1267650600228229401496703205376).length c]] W fun e w' => e = .returned (.string ⟨#[49, 50, 54, 55, 54, 53, 48, 54, 48, 48, 50, 50, 56, 50, 50, 57, 52, 48, 49, 52, 57, 54, 55, 48, 51, 50, 48, 53, 51, 55, 54]⟩) ∧ Fr [] W w') := Lib.hid (fun W a c h hT => ealive_text W false _ h hT _ text_100)
  generalize (1267650600228229401496703205376 : Nat) = nP at CP CT
  generalize (2 : Nat) = n2 at C2 CB CP
  generalize (1001 : Nat) = n3 at C3 CB
  generalize (100 : Nat) = n4 at C4 CP
  go_enter Tryd.func19, Tryd.ntmps19
  go_wp2_with fail
  refine (C2.out _).mono ?_
  rintro e w1 ⟨a1, c1, rfl, I1, F1⟩
  have I1 := Lib.hid I1
  have F1 := Lib.hid F1
  go_wp2_with fail
  refine (C3.out _).mono ?_
  rintro e w2 ⟨a2, c2, rfl, I2, F2⟩
  have I1 := Lib.hid (I1.out.keep F2)
  have I2 := Lib.hid I2
  have F2 := Lib.hid (F1.out.same F2)
  clear F1
  go_wp2_with fail
  refine (CB.out _ _ _ _ _ I1.out I2.out).mono ?_
  rintro e w3 ⟨rfl, F3⟩
  have F3 := Lib.hid ((F2.out.same F3).alloc (.cells #[.bool false, .slice none 0 0] 52))
  clear F2 I1 I2
  go_wp2_with fail
  refine (C2.out _).mono ?_
  rintro e w4 ⟨a4, c4, rfl, I4, F4⟩
  have I4 := Lib.hid I4
  have F4 := Lib.hid (F3.out.same F4)
  clear F3
  go_wp2_with fail
  refine (C4.out _).mono ?_
  rintro e w5 ⟨a5, c5, rfl, I5, F5⟩
  have I4 := Lib.hid (I4.out.keep F5)
  have I5 := Lib.hid I5
  have F5 := Lib.hid (F4.out.same F5)
  clear F4
  go_wp2_with fail
  refine (CP.out _ _ _ _ _ I4.out I5.out).mono ?_
  rintro e w6 ⟨a6, c6, rfl, I6, F6⟩
  have I6 := Lib.hid (I6.keep ((Fr.refl [] _).alloc (.cells #[.bool false, .slice a6 (lims nP).length c6] 52)))
  have B6 := Lib.hid (Bx.new w6 (.bool false) (.slice a6 (lims nP).length c6))
  have F6 := Lib.hid ((F5.out.same F6).alloc (.cells #[.bool false, .slice a6 (lims nP).length c6] 52))
  clear F5 I4 I5
  go_wp2_with fail
  refine (exactAlive_c _ (HT.out.fr F6.out)).mono ?_
  rintro e w7 ⟨rfl, F7⟩
  replace B6 := Lib.hid (B6.out.fr F7)
  replace I6 := Lib.hid (I6.out.keep F7)
  have F7 := Lib.hid (F6.out.same F7)
  have b60 := B6.out.c0
  have b61 := B6.out.c1
  have b6l := B6.out.lt
  clear F6
  go_wp2_with fail
  refine (CT.out _ _ _ I6.out (HT.out.fr F7.out)).mono ?_
  rintro e w8 ⟨rfl, F8⟩
  have F8 := Lib.hid (F7.out.same F8)
  clear F7 B6 b60 b61 b6l
  go_wp2_with fail
  refine (right_no _).mono ?_
  rintro e w9 ⟨rfl, F9⟩
  have F9 := Lib.hid (F8.out.same F9)
  clear F8
  go_wp2
  go_ret
  exact ⟨rfl, F9.out.below⟩
set_option maxRecDepth 100000 in
theorem lifted (os : Os) (started : os.Started) (H : Type) (enc : TypeId × Value → H) :
    ReturnsInHanded {} Tryd.checked os 19 .any (fun w args => (Rows.exactNamesSpec.pre enc Tryd.prog Tryd.f19 [] false w args ∧ laidMetH Tryd.prog listed w) ∧ sizedMet enc Tryd.prog Tryd.f19 (OpenSpec.ofChange Rows.exactNamesSpec) false w args) (Rows.exactNamesSpec.post enc Tryd.prog Tryd.f19 false true false false) := by
  refine returnsInHanded_of_change_and (C := Tryd.checked) (X := fun w _ => laidMetH Tryd.prog listed w) (fun _ _ _ hh h => h.of_heap hh) own started (by kernel_rfl) Tryd.func19
    (ChangeSpec.witness_shaped (enc := enc) (C := Tryd.checked) (os := os) (X := fun w _ => laidMetH Tryd.prog listed w) false (World.doorLaid Tryd.prog 24 os) #[] 8 rfl (World.shaped_of_RefB (by kernel_rfl) (by kernel_rfl)) (by kernel_rfl) (by kernel_rfl) (by kernel_rfl) (door_met os _)) ?_
  intro W base args ds gs before hval0 hW _ _ hL _
  have hT := tab_of_laid hL
  have hval : ∀ (j : Nat) t v, Tryd.f19.params[j]? = some t → args[j]? = some v → Value.okWide Tryd.prog W .any base t v := hval0
  have hW' := hW
  obtain ⟨p, q, hA0, hV, rfl, hfz, hnd⟩ := hW
  have hA : DataW.TrodAll enc Tryd.prog W 0 (fun _ => true) true Tryd.f19.params.toList args.toList ds p := hA0
  rw [Tryd.params19] at hA hval
  obtain ⟨rfl, rfl, rfl⟩ := trodAll_none hA
  obtain ⟨rfl, rfl⟩ := trodVars_none hV
  clear hA0 hval0
  refine (walk  W  hT).mono fun e W' ⟨he, bel⟩ => ?_
  subst he
  exact ⟨_, rfl, _, _, _, [], _, [], hW', trodAll_mk1 (shut_bool Tryd.underlying4 _), rfl, rfl, bel.frame _, fun h => by cases h⟩
theorem over : Rows.exactNamesRow.holds Tryd.pinned (OpenSpec.ofChange Rows.exactNamesSpec) :=
  OpenClaim.holds_of_wide 19 Tryd.f19 rfl rfl rfl rfl rfl rfl rfl ⟨rfl, rfl, rfl, rfl, rfl⟩ rfl rfl rfl rfl rfl (by kernel_rfl) Tryd.func19 (by kernel_rfl)
    (of_decide_eq_true (by kernel_rfl)) (by unfold Func.isWrapper; first | (rw [if_pos (by decide +kernel)]; kernel_rfl) | (rw [if_neg (by decide +kernel)]; exact ⟨rfl, rfl⟩))
    (fun os started H enc _ => lifted os started H enc)
/-- THE STATEMENT -/
theorem proved : Rows.ExactNamesCardSaid :=
  Claim7.holds_tied_plain_at .later [] [.data, .data, .data] true (true, "ea8df5c1a0e302ec682270425c9a8cf6ae00272b589ccfc6cc1f4d10a9599452") false
    over (fun _ h => by cases h) (by kernel_rfl) (fun _ h => by cases h) exactNames_row_tie rfl ⟨rfl, rfl⟩ (by kernel_rfl) rfl
    (fun f fn hf hfn => by
      obtain rfl : f = 19 := Option.some.inj ((show Tryd.prog.funcNamed "distaff/distafflaw02.ExactNames" = some 19 by kernel_rfl).symm.trans hf) |>.symm
      obtain rfl : fn = Tryd.f19 := (Option.some.inj (Tryd.func19.symm.trans hfn)).symm
      exact ⟨by kernel_rfl, fun j t ht => by
        rw [Tryd.params19] at ht
        simp at ht⟩)
    (by kernel_rfl)
#print axioms proved
end Go.Proofs.YtladhmbidicncaaDoor.exactNames
