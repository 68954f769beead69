/- FloTexts: the text of any floating number is the document's text of it, and the number and the error of any text of at most 800 bytes are the document's. No condition. The row lists the variables of Go's library that these texts read, tied to the program's text by the card. -/
import Derived.Test.YtcjkgnafpkkjmaaGreatDoorQk37
import Derived.Test.YtcjkgnafpkkjmaaGreatDoorQk22
import Derived.Test.YtcjkgnafpkkjmaaGreatDoorQk33
import Derived.ChangeMaps5
set_option linter.all false
namespace Go.Proofs.YtcjkgnafpkkjmaaGreatDoor.floTexts
open Go.ChangeShapes Go.WideShapes Go.RowKit Go.Proofs.YtcjkgnafpkkjmaaGreatDoor Go.ChangeMaps
theorem wf_u64 {z : Int} (h : (Lit.int .u64 z).wf = true) : ∃ k : Nat, z = k ∧ k < 18446744073709551616 := by
  simp [Lit.wf, IntKind.min, IntKind.max, IntKind.bits, IntKind.signed] at h
  exact ⟨z.toNat, by omega, by omega⟩
theorem ba_of (s : ByteArray) : ∃ l : List UInt8, s = ba l := ⟨s.data.toList, by cases s; rfl⟩
set_option maxRecDepth 20000 in
theorem walk (z0 : Int) (s : ByteArray) (W : World) (h0 : (Lit.int .u64 z0).wf = true) (_ : s.size ≤ maxLen) (hL : laidMet Tryz.prog listedF W) :
    Calls Tryz.prog 3 #[.int .u64 z0, .string s] W fun e W' => e = .returned (.bool true) ∧ Below W.heap.size W W' := by
  obtain ⟨b, rfl, hb⟩ := wf_u64 h0
  obtain ⟨l, rfl⟩ := ba_of s
  have HL := Lib.hid (ldF_of hL)
  have HX := Lib.hid (ldX_of hL)
  have hsz := ba_size l
  have f1 := fun w => from_run b w
  clear h0 hL
  by_cases hl : 800 < l.length
  · generalize ba l = S at *
    obtain ⟨n, hn⟩ : ∃ n, n = l.length := ⟨_, rfl⟩
    rw [← hn] at hl hsz
    clear hn
    have g8 : (800 : Int) < (n : Int) := by omega
    go_enter Tryz.func3, Tryz.ntmps3
    go_wp2_with fail
    refine (floAlive_c W HL.out).mono ?_
    rintro e w1 ⟨rfl, F1⟩
    have F1 := Lib.hid F1
    go_wp2_with fail
    go_ret
    exact ⟨rfl, F1.out.below⟩
  · obtain ⟨f, en, hf, CF, CR⟩ := parse_c l (by omega) (fun h1 h2 => slow_of l h1 (by omega))
    obtain ⟨T, TF, TR⟩ := text_c b hb
    have CF := Lib.hid CF
    have CR := Lib.hid CR
    have TF := Lib.hid TF
    have TR := Lib.hid TR
    have HF := Lib.hid hf
    generalize ba l = S at *
    obtain ⟨n, hn⟩ : ∃ n, n = l.length := ⟨_, rfl⟩
    rw [← hn] at hl hsz
    have g8 : ¬ (800 : Int) < (n : Int) := by omega
    clear hn hf hb hl
    go_enter Tryz.func3, Tryz.ntmps3
    go_wp2_with fail
    refine (floAlive_c W HL.out).mono ?_
    rintro e w1 ⟨rfl, F1⟩
    have F1 := Lib.hid F1
    go_wp2_with fail
    refine (CF.out w1 (HX.out.fr F1.out)).mono ?_
    rintro e w2 ⟨rfl, F2⟩
    have F2 := Lib.hid (F1.out.same F2)
    clear F1
    go_wp2_with fail
    refine (CR.out w2 (HX.out.fr F2.out)).mono ?_
    rintro e w3 ⟨rfl, F3⟩
    have F3 := Lib.hid (F2.out.same F3)
    clear F2
    go_wp2_with fail
    refine (TF.out w3 (HX.out.fr F3.out).t).mono ?_
    rintro e w4 ⟨rfl, F4⟩
    have F4 := Lib.hid (F3.out.same F4)
    clear F3
    go_wp2_with fail
    refine (TR.out w4 (HX.out.fr F4.out).t).mono ?_
    rintro e w5 ⟨rfl, F5⟩
    have F5 := Lib.hid (F4.out.same F5)
    clear F4
    go_wp2_with fail
    refine (r3same_c f f HF.out HF.out _).mono ?_
    rintro e w6 ⟨rfl, F6⟩
    have F6 := Lib.hid (F5.out.same F6)
    clear F5
    go_wp2_with fail
    go_ret
    exact ⟨rfl, F6.out.below⟩
set_option maxRecDepth 100000 in
theorem lifted (os : Os) (started : os.Started) (H : Type) (enc : TypeId × Value → H) :
    ReturnsInHanded {} Tryz.checked os 3 .any (fun w args => (Rows.floTextsSpec.pre enc Tryz.prog Tryz.f3 [] false w args ∧ laidMetH Tryz.prog listedF w) ∧ sizedMet enc Tryz.prog Tryz.f3 (OpenSpec.ofChange Rows.floTextsSpec) false w args) (Rows.floTextsSpec.post enc Tryz.prog Tryz.f3 false true false false) := by
  refine returnsInHanded_of_change_and (C := Tryz.checked) (X := fun w _ => laidMetH Tryz.prog listedF w) (fun _ _ _ hh h => h.of_heap hh) own started (by kernel_rfl) Tryz.func3
    (ChangeSpec.witness_shaped (enc := enc) (C := Tryz.checked) (os := os) (X := fun w _ => laidMetH Tryz.prog listedF w) false (World.laidAll Tryz.prog os listedF) #[.int .u64 0, .string ⟨#[]⟩] 8 (World.laidAll_os _ _ _) (World.shaped_of_ZipB (by kernel_rfl) (by kernel_rfl)) (by kernel_rfl) (by kernel_rfl) (by kernel_rfl) (by rw [MakeChecks.laidMetH_plain _ _ _ (by kernel_rfl)]; exact listedF_met os _)) ?_
  intro W base args ds gs before hval0 hW _ _ hL _
  rw [MakeChecks.laidMetH_plain _ _ _ (by kernel_rfl)] at hL
  have hT := hL
  have hval : ∀ (j : Nat) t v, Tryz.f3.params[j]? = some t → args[j]? = some v → Value.okWide Tryz.prog W .any base t v := hval0
  have hW' := hW
  obtain ⟨p, q, hA0, hV, rfl, hfz, hnd⟩ := hW
  have hA : DataW.TrodAll enc Tryz.prog W 0 (fun _ => true) true Tryz.f3.params.toList args.toList ds p := hA0
  rw [Tryz.params3] at hA hval
  obtain ⟨v0, vs0, d0, ds0, p0, q0, hargs, rfl, rfl, h0, r0⟩ := trodAll_cons hA
  obtain ⟨v1, vs1, d1, ds1, p1, q1, rfl, rfl, rfl, h1, r1⟩ := trodAll_cons r0
  obtain ⟨rfl, rfl, rfl⟩ := trodAll_nil r1
  obtain rfl : args = #[v0, v1] := by cases args; simp_all
  obtain ⟨rfl, rfl⟩ := trodVars_none hV
  obtain ⟨a0, rfl, rfl, rfl, w0⟩ := open_int Tryz.underlying22 (hval 0 22 v0 rfl rfl) h0
  obtain ⟨a1, rfl, rfl, rfl, w1⟩ := open_string Tryz.underlying9 (hval 1 9 v1 rfl rfl) h1
  clear hA0 hval0
  refine (walk a0 a1 W w0 w1 hT).mono fun e W' ⟨he, bel⟩ => ?_
  subst he
  exact ⟨_, rfl, _, _, _, [], _, [], hW', trodAll_mk1 (shut_bool Tryz.underlying4 _), (trodAll_cons_mk (shut_int Tryz.underlying22 w0) (trodAll_cons_mk (shut_string Tryz.underlying9 w1) trodAll_mk0)), rfl, bel.frame _, fun h => by cases h⟩
theorem fi : Tryz.prog.inPlace 3 = Rows.floTextsRow.inPlace := by kernel_rfl
theorem fu : Tryz.prog.unfollowed 3 = Rows.floTextsRow.unfollowed := by kernel_rfl
theorem fv : Tryz.prog.varsNamed 3 = Rows.floTextsRow.named := by kernel_rfl
theorem over : Rows.floTextsRow.holds Tryz.pinned (OpenSpec.ofChange Rows.floTextsSpec) :=
  OpenClaim.holds_of_wide 3 Tryz.f3 rfl rfl rfl rfl rfl rfl rfl ⟨rfl, rfl, rfl, rfl, rfl⟩ rfl rfl rfl rfl rfl (by kernel_rfl) Tryz.func3 (by unfold joinedFacts; rw [show Tryz.pinned.checked.prog.recurses 3 = false from norec_FloTexts, show Tryz.pinned.checked.prog.inPlace 3 = Rows.floTextsRow.inPlace from fi, show Tryz.pinned.checked.prog.unfollowed 3 = Rows.floTextsRow.unfollowed from fu, show Tryz.pinned.checked.prog.varsNamed 3 = Rows.floTextsRow.named from fv]; kernel_rfl)
    (of_decide_eq_true (by kernel_rfl)) (by unfold Func.isWrapper; first | (rw [if_pos (by decide +kernel)]; kernel_rfl) | (rw [if_neg (by decide +kernel)]; exact ⟨rfl, rfl⟩))
    (fun os started H enc _ => lifted os started H enc)
/-- THE STATEMENT -/
theorem proved : Rows.FloTextsCardSaid :=
  Claim7.holds_tied_plain_at .later [] [.data, .data, .widerDeep, .widerDeep, .data, .data, .data, .data, .data, .sentinel, .sentinel, .pinned, .pinned] true (true, "b2a25aa7b2753fbd9f8f4bfa460f7f9573cc111c2bf74c6d20d0db6f816fe055") true
    over (fun _ h => by cases h) (by kernel_rfl) (fun _ h => by cases h) floTexts_row_tie rfl ⟨rfl, rfl⟩ (by kernel_rfl) rfl
    (fun f fn hf hfn => by
      obtain rfl : f = 3 := Option.some.inj ((show Tryz.prog.funcNamed "distaff/distafflaw03.FloTexts" = some 3 by kernel_rfl).symm.trans hf) |>.symm
      obtain rfl : fn = Tryz.f3 := (Option.some.inj (Tryz.func3.symm.trans hfn)).symm
      exact ⟨by kernel_rfl, fun j t ht => by
        rw [Tryz.params3] at ht
        have hm : t ∈ [22, 9] := by simpa using Array.mem_of_getElem? ht
        have hall : ([22, 9].all fun u => !Tryz.prog.wantsStandIn u) = true := by kernel_rfl
        exact (show Tryz.prog.wantsStandIn t = false by simpa using List.all_eq_true.1 hall t hm)⟩)
    (by kernel_rfl)
#print axioms proved
end Go.Proofs.YtcjkgnafpkkjmaaGreatDoor.floTexts
