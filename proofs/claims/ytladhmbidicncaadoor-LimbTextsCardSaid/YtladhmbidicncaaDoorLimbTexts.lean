/- LimbTexts: the digits of any number, and the number of any text. No condition. The row lists three tables of Go's library, tied to the program's text by the card. -/
import Derived.Test.YtladhmbidicncaaDoorLawC
import Derived.ChangeMaps5
namespace Go.Proofs.YtladhmbidicncaaDoor.limbTexts
open Go.ChangeShapes Go.WideShapes Go.RowKit Go.ChangeMaps Go.Proofs.YtladhmbidicncaaDoor
set_option maxRecDepth 100000 in
set_option maxHeartbeats 4000000 in
theorem walk (a1 : Option Addr) (n1 c1 : Nat) (L : List Nat) (s : ByteArray) (W : World) (h1 : InA W a1 n1 c1 L) (hs : s.size ≤ maxLen) (hT : Tab W) :
    Calls Tryd.prog 8 #[.slice a1 n1 c1, .string s] W fun e W' => e = .returned (.bool true) ∧ Below W.heap.size W W' := by
  have HT := Lib.hid hT
  have H1 := Lib.hid h1
  obtain ⟨l, rfl⟩ : ∃ l : List UInt8, s = ⟨l.toArray⟩ := ⟨s.data.toList, by simp⟩
  have hsz : (ByteArray.mk l.toArray).size = l.length := rfl
  have hlm : l.length ≤ 9223372036854775807 := by rw [hsz] at hs; unfold maxLen at hs; omega
  clear hT h1 hs
  by_cases g1 : 70 < n1
  · go_enter Tryd.func8, Tryd.ntmps8
    go_wp2_with fail
    refine (limbAlive_c W HT.out).mono ?_
    rintro e w1 ⟨rfl, F1⟩
    have F1 := Lib.hid F1
    go_wp2
    go_ret
    exact ⟨rfl, F1.out.below⟩
  · by_cases g2 : 800 < l.length
    · go_enter Tryd.func8, Tryd.ntmps8
      go_wp2_with fail
      refine (limbAlive_c W HT.out).mono ?_
      rintro e w1 ⟨rfl, F1⟩
      have F1 := Lib.hid F1
      go_wp2
      go_ret
      exact ⟨rfl, F1.out.below⟩
    · have A1 := Lib.hid (H1.out.in (by omega))
      have e1 := H1.out.len
      subst e1
      clear H1
      obtain ⟨n, hn⟩ : ∃ n, n = val L := ⟨_, rfl⟩
      have HN := Lib.hid hn
      clear hn
      have tl := textOf_len n
      have PL := Lib.hid (fun W' => lparse_c W' l (by omega))
      have PR := Lib.hid (fun W' => r1parse_c W' l (by omega))
      by_cases hE : parseE l = 0
      · have RES : Hid (∀ W' e w', ParseR W' l e w' → ∃ a c, e = .returned (.tuple #[.slice a (lims (numOf l)).length c, .int .i64 0]) ∧ In w' a c (lims (numOf l)) ∧ Fr [] W' w') := Lib.hid (fun W' e w' h => by
          unfold ParseR at h; rw [if_pos hE] at h
          obtain ⟨a, c, h1, h2, h3⟩ := h
          exact ⟨a, c, h1, h2.in, h3⟩)
        clear hE
        go_enter Tryd.func8, Tryd.ntmps8
        go_wp2_with fail
        refine (limbAlive_c W HT.out).mono ?_
        rintro e w1 ⟨rfl, F1⟩
        have F1 := Lib.hid F1
        go_wp2_with fail
        refine (PL.out w1).mono ?_
        intro e w2 h
        obtain ⟨b2, d2, rfl, P2, F2⟩ := RES.out _ _ _ h
        have P2 := Lib.hid P2
        have G2 := Lib.hid (F1.out.same F2)
        clear h F1
        go_wp2_with fail
        refine (PR.out w2).mono ?_
        intro e w3 h
        obtain ⟨b3, d3, rfl, Q3, F3⟩ := RES.out _ _ _ h
        have Q3 := Lib.hid Q3
        have P3 := Lib.hid (P2.out.keep F3)
        have G3 := Lib.hid (G2.out.same F3)
        have hB3 := G3.out.size
        have X3 := Lib.hid (A1.out.keep G3.out)
        clear h G2
        go_wp2_with (at_builtin; refine wpList_copy (B := W.heap.size) (w0 := w3) (L := L) rfl _ _ rfl rfl hB3 rfl X3.out rfl ?_; intro a4 c4 w4 N4 F4)
        have G4 := Lib.hid (G3.out.same F4)
        have K4 := Lib.hid F4
        have CT := Lib.hid (ltext_c w4 N4.in (HT.out.fr G4.out))
        rw [← HN.out] at CT
        clear N4 G3 F4
        refine CT.out.mono ?_
        rintro e w5 ⟨rfl, F5⟩
        have G5 := Lib.hid (G4.out.same F5)
        have K5 := Lib.hid (K4.out.same F5)
        have CU := Lib.hid (r1text_c w5 (A1.out.keep G5.out) (by omega))
        rw [← HN.out] at CU
        clear G4 K4 CT
        go_wp2_with fail
        refine CU.out.mono ?_
        rintro e w6 ⟨rfl, F6⟩
        have G6 := Lib.hid (G5.out.same F6)
        have K6 := Lib.hid (K5.out.same F6)
        have CS := Lib.hid (r1same_c w6 (P3.out.keep K6.out) (Q3.out.keep K6.out))
        simp only [decide_true] at CS
        clear G5 K5 CU
        go_wp2_with fail
        refine CS.out.mono ?_
        rintro e w7 ⟨rfl, F7⟩
        have D := Lib.hid (G6.out.same F7).below
        clear F7
        go_wp2
        go_ret
        exact ⟨rfl, D.out⟩
      · obtain ⟨ev, hev⟩ : ∃ ev, ev = parseE l := ⟨_, rfl⟩
        have RES : Hid (∀ W' e w', ParseR W' l e w' → e = .returned (.tuple #[.slice none 0 0, .int .i64 (ev : Int)]) ∧ Fr [] W' w') := Lib.hid (fun W' e w' h => by
          unfold ParseR at h; rw [if_neg hE, ← hev] at h; exact h)
        have EQ : ((ev : Int) == (ev : Int)) = true := beq_self_eq_true _
        clear hev
        clear hE
        go_enter Tryd.func8, Tryd.ntmps8
        go_wp2_with fail
        refine (limbAlive_c W HT.out).mono ?_
        rintro e w1 ⟨rfl, F1⟩
        have F1 := Lib.hid F1
        go_wp2_with fail
        refine (PL.out w1).mono ?_
        intro e w2 h
        obtain ⟨rfl, F2⟩ := RES.out _ _ _ h
        have G2 := Lib.hid (F1.out.same F2)
        clear h F1
        go_wp2_with fail
        refine (PR.out w2).mono ?_
        intro e w3 h
        obtain ⟨rfl, F3⟩ := RES.out _ _ _ h
        have G3 := Lib.hid (G2.out.same F3)
        have hB3 := G3.out.size
        have X3 := Lib.hid (A1.out.keep G3.out)
        clear h G2
        go_wp2_with (at_builtin; refine wpList_copy (B := W.heap.size) (w0 := w3) (L := L) rfl _ _ rfl rfl hB3 rfl X3.out rfl ?_; intro a4 c4 w4 N4 F4)
        have G4 := Lib.hid (G3.out.same F4)
        have K4 := Lib.hid F4
        have CT := Lib.hid (ltext_c w4 N4.in (HT.out.fr G4.out))
        rw [← HN.out] at CT
        clear N4 G3 F4
        refine CT.out.mono ?_
        rintro e w5 ⟨rfl, F5⟩
        have G5 := Lib.hid (G4.out.same F5)
        have K5 := Lib.hid (K4.out.same F5)
        have CU := Lib.hid (r1text_c w5 (A1.out.keep G5.out) (by omega))
        rw [← HN.out] at CU
        clear G4 K4 CT
        go_wp2_with fail
        refine CU.out.mono ?_
        rintro e w6 ⟨rfl, F6⟩
        have G6 := Lib.hid (G5.out.same F6)
        have K6 := Lib.hid (K5.out.same F6)
        have CS := Lib.hid (r1same_c w6 (Nw.nil w6 0).in (Nw.nil w6 0).in)
        simp only [decide_true] at CS
        clear G5 K5 CU
        go_wp2_with fail
        refine CS.out.mono ?_
        rintro e w7 ⟨rfl, F7⟩
        have D := Lib.hid (G6.out.same F7).below
        clear F7
        go_wp2
        go_ret
        exact ⟨rfl, D.out⟩
set_option maxRecDepth 100000 in
theorem lifted (os : Os) (started : os.Started) (H : Type) (enc : TypeId × Value → H) :
    ReturnsInHanded {} Tryd.checked os 8 .any (fun w args => (Rows.limbTextsSpec.pre enc Tryd.prog Tryd.f8 [] false w args ∧ laidMetH Tryd.prog listed w) ∧ sizedMet enc Tryd.prog Tryd.f8 (OpenSpec.ofChange Rows.limbTextsSpec) false w args) (Rows.limbTextsSpec.post enc Tryd.prog Tryd.f8 false true false false) := by
  refine returnsInHanded_of_change_and (C := Tryd.checked) (X := fun w _ => laidMetH Tryd.prog listed w) (fun _ _ _ hh h => h.of_heap hh) own started (by kernel_rfl) Tryd.func8
    (ChangeSpec.witness_shaped (enc := enc) (C := Tryd.checked) (os := os) (X := fun w _ => laidMetH Tryd.prog listed w) false (World.doorLaid Tryd.prog 24 os) #[.slice none 0 0, .string ⟨#[]⟩] 8 rfl (World.shaped_of_RefB (by kernel_rfl) (by kernel_rfl)) (by kernel_rfl) (by kernel_rfl) (by kernel_rfl) (door_met os _)) ?_
  intro W base args ds gs before hval0 hW _ _ hL _
  have hT := tab_of_laid hL
  have hval : ∀ (j : Nat) t v, Tryd.f8.params[j]? = some t → args[j]? = some v → Value.okWide Tryd.prog W .any base t v := hval0
  have hW' := hW
  obtain ⟨p, q, hA0, hV, rfl, hfz, hnd⟩ := hW
  have hA : DataW.TrodAll enc Tryd.prog W 0 (fun _ => true) true Tryd.f8.params.toList args.toList ds p := hA0
  rw [Tryd.params8] at hA hval
  obtain ⟨v0, vs0, d0, ds0, p0, q0, hargs, rfl, rfl, h0, r0⟩ := trodAll_cons hA
  obtain ⟨v1, vs1, d1, ds1, p1, q1, rfl, rfl, rfl, h1, r1⟩ := trodAll_cons r0
  obtain ⟨rfl, rfl, rfl⟩ := trodAll_nil r1
  obtain rfl : args = #[v0, v1] := by cases args; simp_all
  obtain ⟨rfl, rfl⟩ := trodVars_none hV
  obtain ⟨a0, len0, cap0, rfl⟩ := okWide_slice Tryd.underlying22 (hval 0 22 v0 rfl rfl)
  have k0 := h0
  have lt0 : ∀ x ∈ p0, x.block < W.heap.size := by obtain ⟨m, hm⟩ := k0; exact DataW.trod_lt m _ _ _ hm
  obtain ⟨z0, w0⟩ := open_u32s h0
  obtain ⟨a1, rfl, rfl, rfl, w1⟩ := open_string Tryd.underlying9 (hval 1 9 v1 rfl rfl) h1
  clear hA0 hval0
  refine (walk a0 len0 cap0 z0 a1 W w0 w1 hT).mono fun e W' ⟨he, bel⟩ => ?_
  subst he
  exact ⟨_, rfl, _, _, _, [], _, [], hW', trodAll_mk1 (shut_bool Tryd.underlying4 _), (trodAll_cons_mk (Below.trod laidOut (by kernel_rfl) (of_decide_eq_true (by kernel_rfl)) k0 bel lt0) (trodAll_cons_mk (shut_string Tryd.underlying9 w1) trodAll_mk0)), rfl, bel.frame _, fun h => by cases h⟩
theorem over : Rows.limbTextsRow.holds Tryd.pinned (OpenSpec.ofChange Rows.limbTextsSpec) :=
  OpenClaim.holds_of_wide 8 Tryd.f8 rfl rfl rfl rfl rfl rfl rfl ⟨rfl, rfl, rfl, rfl, rfl⟩ rfl rfl rfl rfl rfl (by kernel_rfl) Tryd.func8 (by kernel_rfl)
    (of_decide_eq_true (by kernel_rfl)) (by unfold Func.isWrapper; first | (rw [if_pos (by decide +kernel)]; kernel_rfl) | (rw [if_neg (by decide +kernel)]; exact ⟨rfl, rfl⟩))
    (fun os started H enc _ => lifted os started H enc)
/-- THE STATEMENT -/
theorem proved : Rows.LimbTextsCardSaid :=
  Claim7.holds_tied_plain_at .later [] [.data, .data, .data] true (true, "ea8df5c1a0e302ec682270425c9a8cf6ae00272b589ccfc6cc1f4d10a9599452") false
    over (fun _ h => by cases h) (by kernel_rfl) (fun _ h => by cases h) limbTexts_row_tie rfl ⟨rfl, rfl⟩ (by kernel_rfl) rfl
    (fun f fn hf hfn => by
      obtain rfl : f = 8 := Option.some.inj ((show Tryd.prog.funcNamed "distaff/distafflaw01.LimbTexts" = some 8 by kernel_rfl).symm.trans hf) |>.symm
      obtain rfl : fn = Tryd.f8 := (Option.some.inj (Tryd.func8.symm.trans hfn)).symm
      exact ⟨by kernel_rfl, fun j t ht => by
        rw [Tryd.params8] at ht
        have hm : t ∈ [22, 9] := by simpa using Array.mem_of_getElem? ht
        have hall : ([22, 9].all fun u => !Tryd.prog.wantsStandIn u) = true := by kernel_rfl
        exact (show Tryd.prog.wantsStandIn t = false by simpa using List.all_eq_true.1 hall t hm)⟩)
    (by kernel_rfl)
#print axioms proved
end Go.Proofs.YtladhmbidicncaaDoor.limbTexts
