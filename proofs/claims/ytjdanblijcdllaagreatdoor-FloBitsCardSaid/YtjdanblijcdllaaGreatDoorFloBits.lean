/- floBits. -/
import Derived.Test.YtjdanblijcdllaaGreatDoorFloP
set_option linter.all false
namespace Go.Proofs.YtjdanblijcdllaaGreatDoor.floBits
open Go.ChangeShapes Go.WideShapes Go.RowKit Go.Proofs.YtjdanblijcdllaaGreatDoor
theorem wf_u64 {z : Int} (h : (Lit.int .u64 z).wf = true) : ∃ k : Nat, z = k ∧ k < 18446744073709551616 := by
  simp [Lit.wf, IntKind.min, IntKind.max, IntKind.bits, IntKind.signed] at h
  exact ⟨z.toNat, by omega, by omega⟩
set_option maxRecDepth 20000 in
theorem walk (z0 z1 : Int) (W : World) (h0 : (Lit.int .u64 z0).wf = true) (h1 : (Lit.int .u64 z1).wf = true) (hL : laidMet Tryz.prog listedF W) :
    Calls Tryz.prog 7 #[.int .u64 z0, .int .u64 z1] W fun e W' => e = .returned (.bool true) ∧ Below W.heap.size W W' := by
  obtain ⟨x, rfl, hx⟩ := wf_u64 h0
  obtain ⟨y, rfl, hy⟩ := wf_u64 h1
  have HL := Lib.hid (ldF_of hL)
  have HX := Lib.hid hx
  have HY := Lib.hid hy
  have f1 := fun w => from_run x w
  have f2 := fun w => from_run y w
  clear h0 h1 hL hx hy
  go_enter Tryz.func7, Tryz.ntmps7
  go_wp2_with fail
  refine (floAlive_c W HL.out).mono ?_
  rintro e w1 ⟨rfl, F1⟩
  have F1 := Lib.hid F1
  go_wp2_with fail
  refine (flbits_c x w1).mono ?_
  rintro e w2 ⟨rfl, rfl⟩
  go_wp2_with fail
  refine (r3bits_c x HX.out _).mono ?_
  rintro e w2 ⟨rfl, rfl⟩
  go_wp2_with fail
  refine (flsame_c x y _).mono ?_
  rintro e w3 ⟨rfl, F3⟩
  have F3 := Lib.hid (F1.out.same F3)
  clear F1
  go_wp2_with fail
  refine (r3same_c x y HX.out HY.out _).mono ?_
  rintro e w4 ⟨rfl, F4⟩
  have F4 := Lib.hid (F3.out.same F4)
  clear F3
  go_wp2_with fail
  go_ret
  exact ⟨rfl, F4.out.below⟩
set_option maxRecDepth 100000 in
theorem lifted (os : Os) (started : os.Started) (H : Type) (enc : TypeId × Value → H) :
    ReturnsInHanded {} Tryz.checked os 7 .any (fun w args => (Rows.floBitsSpec.pre enc Tryz.prog Tryz.f7 [] false w args ∧ laidMetH Tryz.prog listedF w) ∧ sizedMet enc Tryz.prog Tryz.f7 (OpenSpec.ofChange Rows.floBitsSpec) false w args) (Rows.floBitsSpec.post enc Tryz.prog Tryz.f7 false true false false) := by
  refine returnsInHanded_of_change_and (C := Tryz.checked) (X := fun w _ => laidMetH Tryz.prog listedF w) (fun _ _ _ hh h => h.of_heap hh) own started (by kernel_rfl) Tryz.func7
    (ChangeSpec.witness_shaped (enc := enc) (C := Tryz.checked) (os := os) (X := fun w _ => laidMetH Tryz.prog listedF w) false (World.laidAll Tryz.prog os listedF) #[.int .u64 0, .int .u64 0] 8 (World.laidAll_os _ _ _) (World.shaped_of_ZipB (by kernel_rfl) (by kernel_rfl)) (by kernel_rfl) (by kernel_rfl) (by kernel_rfl) (by rw [MakeChecks.laidMetH_plain _ _ _ (by kernel_rfl)]; exact listedF_met os _)) ?_
  intro W base args ds gs before hval0 hW _ _ hL _
  rw [MakeChecks.laidMetH_plain _ _ _ (by kernel_rfl)] at hL
  have hT := hL
  have hval : ∀ (j : Nat) t v, Tryz.f7.params[j]? = some t → args[j]? = some v → Value.okWide Tryz.prog W .any base t v := hval0
  have hW' := hW
  obtain ⟨p, q, hA0, hV, rfl, hfz, hnd⟩ := hW
  have hA : DataW.TrodAll enc Tryz.prog W 0 (fun _ => true) true Tryz.f7.params.toList args.toList ds p := hA0
  rw [Tryz.params7] at hA hval
  obtain ⟨v0, vs0, d0, ds0, p0, q0, hargs, rfl, rfl, h0, r0⟩ := trodAll_cons hA
  obtain ⟨v1, vs1, d1, ds1, p1, q1, rfl, rfl, rfl, h1, r1⟩ := trodAll_cons r0
  obtain ⟨rfl, rfl, rfl⟩ := trodAll_nil r1
  obtain rfl : args = #[v0, v1] := by cases args; simp_all
  obtain ⟨rfl, rfl⟩ := trodVars_none hV
  obtain ⟨a0, rfl, rfl, rfl, w0⟩ := open_int Tryz.underlying46 (hval 0 46 v0 rfl rfl) h0
  obtain ⟨a1, rfl, rfl, rfl, w1⟩ := open_int Tryz.underlying46 (hval 1 46 v1 rfl rfl) h1
  clear hA0 hval0
  refine (walk a0 a1 W w0 w1 hT).mono fun e W' ⟨he, bel⟩ => ?_
  subst he
  exact ⟨_, rfl, _, _, _, [], _, [], hW', trodAll_mk1 (shut_bool Tryz.underlying4 _), (trodAll_cons_mk (shut_int Tryz.underlying46 w0) (trodAll_cons_mk (shut_int Tryz.underlying46 w1) trodAll_mk0)), rfl, bel.frame _, fun h => by cases h⟩
theorem fi : Tryz.prog.inPlace 7 = Rows.floBitsRow.inPlace := by kernel_rfl
theorem fu : Tryz.prog.unfollowed 7 = Rows.floBitsRow.unfollowed := by kernel_rfl
theorem fv : Tryz.prog.varsNamed 7 = Rows.floBitsRow.named := by kernel_rfl
theorem over : Rows.floBitsRow.holds Tryz.pinned (OpenSpec.ofChange Rows.floBitsSpec) :=
  OpenClaim.holds_of_wide 7 Tryz.f7 rfl rfl rfl rfl rfl rfl rfl ⟨rfl, rfl, rfl, rfl, rfl⟩ rfl rfl rfl rfl rfl (by kernel_rfl) Tryz.func7 (by unfold joinedFacts; rw [show Tryz.pinned.checked.prog.recurses 7 = false from norec_FloBits, show Tryz.pinned.checked.prog.inPlace 7 = Rows.floBitsRow.inPlace from fi, show Tryz.pinned.checked.prog.unfollowed 7 = Rows.floBitsRow.unfollowed from fu, show Tryz.pinned.checked.prog.varsNamed 7 = Rows.floBitsRow.named from fv]; kernel_rfl)
    (of_decide_eq_true (by kernel_rfl)) (by unfold Func.isWrapper; first | (rw [if_pos (by decide +kernel)]; kernel_rfl) | (rw [if_neg (by decide +kernel)]; exact ⟨rfl, rfl⟩))
    (fun os started H enc _ => lifted os started H enc)
/-- THE STATEMENT -/
theorem proved : Rows.FloBitsCardSaid :=
  Claim7.holds_tied_plain_at .later [] [.data, .data, .widerDeep, .widerDeep, .data, .data, .data, .data, .data, .sentinel, .sentinel, .pinned, .pinned] true (true, "1d6fd9ead80604889e6942dfba794aba432fb978ea210d34680d91fbcb61fb16") true
    over (fun _ h => by cases h) (by kernel_rfl) (fun _ h => by cases h) floBits_row_tie rfl ⟨rfl, rfl⟩ (by kernel_rfl) rfl
    (fun f fn hf hfn => by
      obtain rfl : f = 7 := Option.some.inj ((show Tryz.prog.funcNamed "distaff/distafflaw03.FloBits" = some 7 by kernel_rfl).symm.trans hf) |>.symm
      obtain rfl : fn = Tryz.f7 := (Option.some.inj (Tryz.func7.symm.trans hfn)).symm
      exact ⟨by kernel_rfl, fun j t ht => by
        rw [Tryz.params7] at ht
        have hm : t ∈ [46, 46] := by simpa using Array.mem_of_getElem? ht
        have hall : ([46, 46].all fun u => !Tryz.prog.wantsStandIn u) = true := by kernel_rfl
        exact (show Tryz.prog.wantsStandIn t = false by simpa using List.all_eq_true.1 hall t hm)⟩)
    (by kernel_rfl)
#print axioms proved
end Go.Proofs.YtjdanblijcdllaaGreatDoor.floBits
