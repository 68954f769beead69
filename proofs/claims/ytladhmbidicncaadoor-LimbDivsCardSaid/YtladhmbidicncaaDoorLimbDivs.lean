/- LimbDivs: the quotient and the rest of any two. No condition. The row lists three tables of Go's library, tied to the program's text by the card. -/
import Derived.Test.YtladhmbidicncaaDoorLawC
namespace Go.Proofs.YtladhmbidicncaaDoor.limbDivs
open Go.ChangeShapes Go.WideShapes Go.RowKit Go.Proofs.YtladhmbidicncaaDoor
set_option maxRecDepth 100000 in
set_option maxHeartbeats 4000000 in
theorem walk (a1 : Option Addr) (n1 c1 : Nat) (L : List Nat) (a2 : Option Addr) (n2 c2 : Nat) (M : List Nat) (W : World) (h1 : InA W a1 n1 c1 L) (h2 : InA W a2 n2 c2 M) (hT : Tab W) :
    Calls Tryd.prog 4 #[.slice a1 n1 c1, .slice a2 n2 c2] W fun e W' => e = .returned (.bool true) ∧ Below W.heap.size W W' := by
  have HT := Lib.hid hT
  have H1 := Lib.hid h1
  have H2 := Lib.hid h2
  clear hT h1 h2
  by_cases g1 : 70 < n1
  · go_enter Tryd.func4, Tryd.ntmps4
    go_wp2_with fail
    refine (limbAlive_c W HT.out).mono ?_
    rintro e w1 ⟨rfl, F1⟩
    have F1 := Lib.hid F1
    go_wp2
    go_ret
    exact ⟨rfl, F1.out.below⟩
  · by_cases g2 : 70 < n2
    · go_enter Tryd.func4, Tryd.ntmps4
      go_wp2_with fail
      refine (limbAlive_c W HT.out).mono ?_
      rintro e w1 ⟨rfl, F1⟩
      have F1 := Lib.hid F1
      go_wp2
      go_ret
      exact ⟨rfl, F1.out.below⟩
    · have A1 := Lib.hid (H1.out.in (by omega))
      have A2 := Lib.hid (H2.out.in (by omega))
      have e1 := H1.out.len
      have e2 := H2.out.len
      subst e1
      subst e2
      clear H1 H2
      obtain ⟨n, hn⟩ : ∃ n, n = val L := ⟨_, rfl⟩
      obtain ⟨m, hm⟩ : ∃ m, m = val M := ⟨_, rfl⟩
      have HN := Lib.hid hn
      have HM := Lib.hid hm
      clear hn hm
      go_enter Tryd.func4, Tryd.ntmps4
      go_wp2_with fail
      refine (limbAlive_c W HT.out).mono ?_
      rintro e w1 ⟨rfl, F1⟩
      have F1 := Lib.hid F1
      have hB1 := F1.out.size
      have X1 := Lib.hid (A1.out.keep F1.out)
      go_wp2_with (first | (at_builtin; refine wpList_copy (B := W.heap.size) (w0 := w1) (L := L) rfl _ _ rfl rfl hB1 rfl X1.out rfl ?_; intro a3 c3 w3 N3 F3; have G3 := Lib.hid (F1.out.same F3); have N3 := Lib.hid N3; have Y3 := Lib.hid (A2.out.keep G3.out); have hB3 := G3.out.size) | (at_builtin; refine wpList_copy (B := W.heap.size) (w0 := w3) (L := M) rfl _ _ rfl rfl hB3 rfl Y3.out rfl ?_; intro a4 c4 w4 N4 F4; have G4 := Lib.hid (G3.out.same F4); have X4 := Lib.hid (N3.out.keep F4).in; have Y4 := Lib.hid N4.in))
      have CD := Lib.hid (ldiv_c w4 X4.out Y4.out)
      rw [← HN.out, ← HM.out] at CD
      have CX := Lib.hid (fun W' (h : Fr [] w4 W') => r1same_c W' (X4.out.keep h) (A1.out.keep (G4.out.same h)))
      have CY := Lib.hid (fun W' (h : Fr [] w4 W') => r1same_c W' (Y4.out.keep h) (A2.out.keep (G4.out.same h)))
      have BA := Lib.hid (fun W' (h : Fr [] w4 W') => r1big_c W' (A1.out.keep (G4.out.same h)))
      have BB := Lib.hid (fun W' (h : Fr [] w4 W') => r1big_c W' (A2.out.keep (G4.out.same h)))
      have TB := Lib.hid (fun W' (h : Fr [] w4 W') => r1trim_c W' (A2.out.keep (G4.out.same h)))
      have CP := Lib.hid (fun W' (h : Fr [] w4 W') (hz : val M ≠ 0) => r1split_c W' (A1.out.keep (G4.out.same h)) (A2.out.keep (G4.out.same h)) (by omega) hz)
      simp only [decide_true] at CX CY
      simp only [← HN.out, ← HM.out] at BA BB TB CP
      clear X1 Y3 N3 F1 G3
      cases hfn : fits n with
      | false =>
        have RES : ∀ e w5, DivR w4 n m e w5 → e = .returned (.tuple #[.slice none 0 0, .slice none 0 0, .int .i64 11]) ∧ Fr [] w4 w5 := fun e w5 h => by
          unfold DivR at h; rw [hfn, if_pos (by simp)] at h; exact h
        have RES := Lib.hid RES
        simp only [hfn] at BA
        clear hfn
        refine CD.out.mono ?_
        intro e w5 hR
        obtain ⟨rfl, F5⟩ := RES.out e w5 hR
        have F5 := Lib.hid F5
        clear hR RES
        go_wp2_with fail
        refine (CX.out w5 F5.out).mono ?_
        rintro e w6 ⟨rfl, F6⟩
        have F6 := Lib.hid (F5.out.same F6)
        go_wp2_with fail
        refine (CY.out w6 F6.out).mono ?_
        rintro e w7 ⟨rfl, F7⟩
        have F7 := Lib.hid (F6.out.same F7)
        go_wp2_with fail
        refine (BA.out w7 F7.out).mono ?_
        rintro e w8 ⟨rfl, F8⟩
        have D := Lib.hid (G4.out.same (F7.out.same F8)).below
        clear F8
        go_wp2
        go_ret
        exact ⟨rfl, D.out⟩
      | true =>
        simp only [hfn] at BA
        cases hfm : fits m with
        | false =>
          have RES : ∀ e w5, DivR w4 n m e w5 → e = .returned (.tuple #[.slice none 0 0, .slice none 0 0, .int .i64 11]) ∧ Fr [] w4 w5 := fun e w5 h => by
            unfold DivR at h; rw [hfm, if_pos (by simp)] at h; exact h
          have RES := Lib.hid RES
          simp only [hfm] at BB
          clear hfn hfm
          refine CD.out.mono ?_
          intro e w5 hR
          obtain ⟨rfl, F5⟩ := RES.out e w5 hR
          have F5 := Lib.hid F5
          clear hR RES
          go_wp2_with fail
          refine (CX.out w5 F5.out).mono ?_
          rintro e w6 ⟨rfl, F6⟩
          have F6 := Lib.hid (F5.out.same F6)
          go_wp2_with fail
          refine (CY.out w6 F6.out).mono ?_
          rintro e w7 ⟨rfl, F7⟩
          have F7 := Lib.hid (F6.out.same F7)
          go_wp2_with fail
          refine (BA.out w7 F7.out).mono ?_
          rintro e w8 ⟨rfl, F8⟩
          have F8 := Lib.hid (F7.out.same F8)
          go_wp2_with fail
          refine (BB.out w8 F8.out).mono ?_
          rintro e w9 ⟨rfl, F9⟩
          have D := Lib.hid (G4.out.same (F8.out.same F9)).below
          clear F9
          go_wp2
          go_ret
          exact ⟨rfl, D.out⟩
        | true =>
          simp only [hfm] at BB
          by_cases hm0 : m = 0
          · have RES : ∀ e w5, DivR w4 n m e w5 → e = .returned (.tuple #[.slice none 0 0, .slice none 0 0, .int .i64 12]) ∧ Fr [] w4 w5 := fun e w5 h => by
              unfold DivR at h; rw [hfn, hfm, if_neg (by simp), if_pos hm0] at h; exact h
            have RES := Lib.hid RES
            have HL0 : Hid ((lims m).length = 0) := Lib.hid (by rw [hm0]; rfl)
            clear hfn hfm hm0
            refine CD.out.mono ?_
            intro e w5 hR
            obtain ⟨rfl, F5⟩ := RES.out e w5 hR
            have F5 := Lib.hid F5
            clear hR RES
            go_wp2_with fail
            refine (CX.out w5 F5.out).mono ?_
            rintro e w6 ⟨rfl, F6⟩
            have F6 := Lib.hid (F5.out.same F6)
            go_wp2_with fail
            refine (CY.out w6 F6.out).mono ?_
            rintro e w7 ⟨rfl, F7⟩
            have F7 := Lib.hid (F6.out.same F7)
            go_wp2_with fail
            refine (BA.out w7 F7.out).mono ?_
            rintro e w8 ⟨rfl, F8⟩
            have F8 := Lib.hid (F7.out.same F8)
            go_wp2_with fail
            refine (BB.out w8 F8.out).mono ?_
            rintro e w9 ⟨rfl, F9⟩
            have F9 := Lib.hid (F8.out.same F9)
            go_wp2_with fail
            refine (TB.out w9 F9.out).mono ?_
            rintro e w10 ⟨a10, c10, rfl, N10, F10⟩
            have D := Lib.hid (G4.out.same (F9.out.same F10)).below
            clear N10 F10
            rw [HL0.out]
            go_wp2
            go_ret
            exact ⟨rfl, D.out⟩
          · have RES : ∀ e w5, DivR w4 n m e w5 → ∃ a1 c1 a2 c2, e = .returned (.tuple #[.slice a1 (lims (n / m)).length c1, .slice a2 (lims (n % m)).length c2, .int .i64 0]) ∧ In w5 a1 c1 (lims (n / m)) ∧ In w5 a2 c2 (lims (n % m)) ∧ Fr [] w4 w5 := fun e w5 h => by
              unfold DivR at h; rw [hfn, hfm, if_neg (by simp), if_neg hm0] at h
              obtain ⟨a1, c1, a2, c2, h1, h2, h3, h4⟩ := h
              exact ⟨a1, c1, a2, c2, h1, h2.in, h3.in, h4⟩
            have RES := Lib.hid RES
            have hlm : 0 < (lims m).length := lims_len_pos.2 hm0
            have hlz : (((lims m).length : Int) == 0) = false := by rw [beq_eq_false_iff_ne]; omega
            have CP := Lib.hid (fun W' h => CP.out W' h hm0)
            clear hfn hfm hm0
            refine CD.out.mono ?_
            intro e w5 hR
            obtain ⟨a5, c5, a6, c6, rfl, Q5, R5, F5⟩ := RES.out e w5 hR
            have F5 := Lib.hid F5
            have Q5 := Lib.hid Q5
            have R5 := Lib.hid R5
            clear hR RES
            go_wp2_with fail
            refine (CX.out w5 F5.out).mono ?_
            rintro e w6 ⟨rfl, F6⟩
            have K6 := Lib.hid F6
            have F6 := Lib.hid (F5.out.same F6)
            go_wp2_with fail
            refine (CY.out w6 F6.out).mono ?_
            rintro e w7 ⟨rfl, F7⟩
            have K7 := Lib.hid (K6.out.same F7)
            have F7 := Lib.hid (F6.out.same F7)
            go_wp2_with fail
            refine (BA.out w7 F7.out).mono ?_
            rintro e w8 ⟨rfl, F8⟩
            have K8 := Lib.hid (K7.out.same F8)
            have F8 := Lib.hid (F7.out.same F8)
            go_wp2_with fail
            refine (BB.out w8 F8.out).mono ?_
            rintro e w9 ⟨rfl, F9⟩
            have K9 := Lib.hid (K8.out.same F9)
            have F9 := Lib.hid (F8.out.same F9)
            go_wp2_with fail
            refine (TB.out w9 F9.out).mono ?_
            rintro e w10 ⟨a10, c10, rfl, N10, F10⟩
            have K10 := Lib.hid (K9.out.same F10)
            have F10 := Lib.hid (F9.out.same F10)
            clear N10
            go_wp2_with fail
            refine (CP.out w10 F10.out).mono ?_
            rintro e w11 ⟨a11, c11, a12, c12, rfl, Q11, R11, F11⟩
            have CQ := Lib.hid (r1same_c w11 (Q5.out.keep (K10.out.same F11)) Q11.in)
            have CR := Lib.hid (fun W' (h : Fr [] w11 W') => r1same_c W' (R5.out.keep ((K10.out.same F11).same h)) (R11.in.keep h))
            simp only [decide_true] at CQ CR
            have F11 := Lib.hid (F10.out.same F11)
            clear Q11 R11
            go_wp2_with fail
            refine CQ.out.mono ?_
            rintro e w12 ⟨rfl, F12⟩
            have F12 := Lib.hid F12
            go_wp2_with fail
            refine (CR.out w12 F12.out).mono ?_
            rintro e w13 ⟨rfl, F13⟩
            have D := Lib.hid (G4.out.same (F11.out.same (F12.out.same F13))).below
            clear F13
            go_wp2
            go_ret
            exact ⟨rfl, D.out⟩
set_option maxRecDepth 100000 in
theorem lifted (os : Os) (started : os.Started) (H : Type) (enc : TypeId × Value → H) :
    ReturnsInHanded {} Tryd.checked os 4 .any (fun w args => (Rows.limbDivsSpec.pre enc Tryd.prog Tryd.f4 [] false w args ∧ laidMetH Tryd.prog listed w) ∧ sizedMet enc Tryd.prog Tryd.f4 (OpenSpec.ofChange Rows.limbDivsSpec) false w args) (Rows.limbDivsSpec.post enc Tryd.prog Tryd.f4 false true false false) := by
  refine returnsInHanded_of_change_and (C := Tryd.checked) (X := fun w _ => laidMetH Tryd.prog listed w) (fun _ _ _ hh h => h.of_heap hh) own started (by kernel_rfl) Tryd.func4
    (ChangeSpec.witness_shaped (enc := enc) (C := Tryd.checked) (os := os) (X := fun w _ => laidMetH Tryd.prog listed w) false (World.doorLaid Tryd.prog 24 os) #[.slice none 0 0, .slice none 0 0] 8 rfl (World.shaped_of_RefB (by kernel_rfl) (by kernel_rfl)) (by kernel_rfl) (by kernel_rfl) (by kernel_rfl) (door_met os _)) ?_
  intro W base args ds gs before hval0 hW _ _ hL _
  have hT := tab_of_laid hL
  have hval : ∀ (j : Nat) t v, Tryd.f4.params[j]? = some t → args[j]? = some v → Value.okWide Tryd.prog W .any base t v := hval0
  have hW' := hW
  obtain ⟨p, q, hA0, hV, rfl, hfz, hnd⟩ := hW
  have hA : DataW.TrodAll enc Tryd.prog W 0 (fun _ => true) true Tryd.f4.params.toList args.toList ds p := hA0
  rw [Tryd.params4] at hA hval
  obtain ⟨v0, vs0, d0, ds0, p0, q0, hargs, rfl, rfl, h0, r0⟩ := trodAll_cons hA
  obtain ⟨v1, vs1, d1, ds1, p1, q1, rfl, rfl, rfl, h1, r1⟩ := trodAll_cons r0
  obtain ⟨rfl, rfl, rfl⟩ := trodAll_nil r1
  obtain rfl : args = #[v0, v1] := by cases args; simp_all
  obtain ⟨rfl, rfl⟩ := trodVars_none hV
  obtain ⟨a0, len0, cap0, rfl⟩ := okWide_slice Tryd.underlying22 (hval 0 22 v0 rfl rfl)
  have k0 := h0
  have lt0 : ∀ x ∈ p0, x.block < W.heap.size := by obtain ⟨m, hm⟩ := k0; exact DataW.trod_lt m _ _ _ hm
  obtain ⟨z0, w0⟩ := open_u32s h0
  obtain ⟨a1, len1, cap1, rfl⟩ := okWide_slice Tryd.underlying22 (hval 1 22 v1 rfl rfl)
  have k1 := h1
  have lt1 : ∀ x ∈ p1, x.block < W.heap.size := by obtain ⟨m, hm⟩ := k1; exact DataW.trod_lt m _ _ _ hm
  obtain ⟨z1, w1⟩ := open_u32s h1
  clear hA0 hval0
  refine (walk a0 len0 cap0 z0 a1 len1 cap1 z1 W w0 w1 hT).mono fun e W' ⟨he, bel⟩ => ?_
  subst he
  exact ⟨_, rfl, _, _, _, [], _, [], hW', trodAll_mk1 (shut_bool Tryd.underlying4 _), (trodAll_cons_mk (Below.trod laidOut (by kernel_rfl) (of_decide_eq_true (by kernel_rfl)) k0 bel lt0) (trodAll_cons_mk (Below.trod laidOut (by kernel_rfl) (of_decide_eq_true (by kernel_rfl)) k1 bel lt1) trodAll_mk0)), rfl, bel.frame _, fun h => by cases h⟩
theorem over : Rows.limbDivsRow.holds Tryd.pinned (OpenSpec.ofChange Rows.limbDivsSpec) :=
  OpenClaim.holds_of_wide 4 Tryd.f4 rfl rfl rfl rfl rfl rfl rfl ⟨rfl, rfl, rfl, rfl, rfl⟩ rfl rfl rfl rfl rfl (by kernel_rfl) Tryd.func4 (by kernel_rfl)
    (of_decide_eq_true (by kernel_rfl)) (by unfold Func.isWrapper; first | (rw [if_pos (by decide +kernel)]; kernel_rfl) | (rw [if_neg (by decide +kernel)]; exact ⟨rfl, rfl⟩))
    (fun os started H enc _ => lifted os started H enc)
/-- THE STATEMENT -/
theorem proved : Rows.LimbDivsCardSaid :=
  Claim7.holds_tied_plain_at .later [] [.data, .data, .data] true (true, "ea8df5c1a0e302ec682270425c9a8cf6ae00272b589ccfc6cc1f4d10a9599452") false
    over (fun _ h => by cases h) (by kernel_rfl) (fun _ h => by cases h) limbDivs_row_tie rfl ⟨rfl, rfl⟩ (by kernel_rfl) rfl
    (fun f fn hf hfn => by
      obtain rfl : f = 4 := Option.some.inj ((show Tryd.prog.funcNamed "distaff/distafflaw01.LimbDivs" = some 4 by kernel_rfl).symm.trans hf) |>.symm
      obtain rfl : fn = Tryd.f4 := (Option.some.inj (Tryd.func4.symm.trans hfn)).symm
      exact ⟨by kernel_rfl, fun j t ht => by
        rw [Tryd.params4] at ht
        have hm : t ∈ [22] := by have := Array.mem_of_getElem? ht; simp at this ⊢; omega
        have hall : ([22].all fun u => !Tryd.prog.wantsStandIn u) = true := by kernel_rfl
        exact (show Tryd.prog.wantsStandIn t = false by simpa using List.all_eq_true.1 hall t hm)⟩)
    (by kernel_rfl)
#print axioms proved
end Go.Proofs.YtladhmbidicncaaDoor.limbDivs
