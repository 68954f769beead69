/- LimbAdds: the sum and the difference of any two; they stay. No condition. The row lists three tables of Go's library, tied to the program's text by the card. -/
import Derived.Test.YtladhmbidicncaaDoorLawC
namespace Go.Proofs.YtladhmbidicncaaDoor.limbAdds
open Go.ChangeShapes Go.WideShapes Go.RowKit Go.Proofs.YtladhmbidicncaaDoor
set_option maxRecDepth 100000 in
set_option maxHeartbeats 4000000 in
theorem walk (a1 : Option Addr) (n1 c1 : Nat) (L : List Nat) (a2 : Option Addr) (n2 c2 : Nat) (M : List Nat) (W : World) (h1 : InA W a1 n1 c1 L) (h2 : InA W a2 n2 c2 M) (hT : Tab W) :
    Calls Tryd.prog 10 #[.slice a1 n1 c1, .slice a2 n2 c2] W fun e W' => e = .returned (.bool true) ∧ Below W.heap.size W W' := by
  have HT := Lib.hid hT
  have H1 := Lib.hid h1
  have H2 := Lib.hid h2
  clear hT h1 h2
  by_cases g1 : 200 < n1
  · go_enter Tryd.func10, Tryd.ntmps10
    go_wp2_with fail
    refine (limbAlive_c W HT.out).mono ?_
    rintro e w1 ⟨rfl, F1⟩
    have F1 := Lib.hid F1
    go_wp2
    go_ret
    exact ⟨rfl, F1.out.below⟩
  · by_cases g2 : 200 < n2
    · go_enter Tryd.func10, Tryd.ntmps10
      go_wp2_with fail
      refine (limbAlive_c W HT.out).mono ?_
      rintro e w1 ⟨rfl, F1⟩
      have F1 := Lib.hid F1
      go_wp2
      go_ret
      exact ⟨rfl, F1.out.below⟩
    · have A1 := Lib.hid (H1.out.in (by omega))
      have A2 := Lib.hid (H2.out.in (by omega))
      have e1 := H1.out.len
      have e2 := H2.out.len
      subst e1
      subst e2
      clear H1 H2
      obtain ⟨n, hn⟩ : ∃ n, n = val L := ⟨_, rfl⟩
      obtain ⟨m, hm⟩ : ∃ m, m = val M := ⟨_, rfl⟩
      have HN := Lib.hid hn
      have HM := Lib.hid hm
      clear hn hm
      go_enter Tryd.func10, Tryd.ntmps10
      go_wp2_with fail
      refine (limbAlive_c W HT.out).mono ?_
      rintro e w1 ⟨rfl, F1⟩
      have F1 := Lib.hid F1
      have hB1 := F1.out.size
      have X1 := Lib.hid (A1.out.keep F1.out)
      go_wp2_with (first | (at_builtin; refine wpList_copy (B := W.heap.size) (w0 := w1) (L := L) rfl _ _ rfl rfl hB1 rfl X1.out rfl ?_; intro a3 c3 w3 N3 F3; have G3 := Lib.hid (F1.out.same F3); have N3 := Lib.hid N3; have Y3 := Lib.hid (A2.out.keep G3.out); have hB3 := G3.out.size) | (at_builtin; refine wpList_copy (B := W.heap.size) (w0 := w3) (L := M) rfl _ _ rfl rfl hB3 rfl Y3.out rfl ?_; intro a4 c4 w4 N4 F4; have G4 := Lib.hid (G3.out.same F4); have X4 := Lib.hid (N3.out.keep F4).in; have Y4 := Lib.hid N4.in))
      have CA := Lib.hid (ladd_c w4 X4.out Y4.out)
      have CS := Lib.hid (fun W' (h : Fr [] w4 W') => lsub_c W' (X4.out.keep h) (Y4.out.keep h))
      have CX := Lib.hid (fun W' (h : Fr [] w4 W') => r1same_c W' (X4.out.keep h) (A1.out.keep (G4.out.same h)))
      have CY := Lib.hid (fun W' (h : Fr [] w4 W') => r1same_c W' (Y4.out.keep h) (A2.out.keep (G4.out.same h)))
      have BA := Lib.hid (fun W' (h : Fr [] w4 W') => r1big_c W' (A1.out.keep (G4.out.same h)))
      have BB := Lib.hid (fun W' (h : Fr [] w4 W') => r1big_c W' (A2.out.keep (G4.out.same h)))
      have TA := Lib.hid (fun W' (h : Fr [] w4 W') => r1trim_c W' (A1.out.keep (G4.out.same h)))
      have TB := Lib.hid (fun W' (h : Fr [] w4 W') => r1trim_c W' (A2.out.keep (G4.out.same h)))
      have CP := Lib.hid (fun W' (h : Fr [] w4 W') => r1plus_c W' (A1.out.keep (G4.out.same h)) (A2.out.keep (G4.out.same h)) (by omega) (by omega))
      have CC := Lib.hid (fun W' (h : Fr [] w4 W') => r1cmp_c W' (A1.out.keep (G4.out.same h)) (A2.out.keep (G4.out.same h)))
      have BLN : Hid ((lims n).length ≤ 200 ∧ (lims m).length ≤ 200) := Lib.hid ⟨by rw [HN.out]; exact Nat.le_trans (lims_len_val A1.out.lim) (by omega), by rw [HM.out]; exact Nat.le_trans (lims_len_val A2.out.lim) (by omega)⟩
      simp only [decide_true] at CX CY
      simp only [← HN.out, ← HM.out] at CA CS BA BB TA TB CP CC
      clear X1 Y3 N3 F1 G3
      by_cases hlt : n < m
      · cases hfn : fits n with
        | false =>
          have hfp : fits (n + m) = false := by
            cases h : fits (n + m) with
            | false => rfl
            | true => rw [fits_le (Nat.le_add_right n m) h] at hfn; cases hfn
          rw [hfp] at CA
          simp only [hfn] at BA
          clear hfn hfp
          have CS := Lib.hid (fun W' (h : Fr [] w4 W') => (CS.out W' h).mono (fun e w5 (hr : SubR W' n m e w5) => show e = .returned (.tuple #[.slice none 0 0, .bool false]) ∧ Fr [] W' w5 by unfold SubR at hr; rw [if_pos hlt] at hr; exact hr))
          have hcm : cmpN n m = -1 := by unfold cmpN; rw [if_pos hlt]
          simp only [hcm] at CC
          clear hlt hcm
          refine CA.out.mono ?_
          rintro e w5 ⟨rfl, F5⟩
          have F5 := Lib.hid F5
          go_wp2_with fail
          refine (CS.out w5 F5.out).mono ?_
          rintro e w6 ⟨rfl, F6⟩
          have K6 := Lib.hid F6
          have F6 := Lib.hid (F5.out.same F6)
          go_wp2_with fail
          refine (CP.out w6 F6.out).mono ?_
          rintro e w7 ⟨a7, c7, rfl, N7, F7⟩
          have P7 := Lib.hid N7.in
          have K7 := Lib.hid F7
          have F7 := Lib.hid (F6.out.same F7)
          clear N7
          go_wp2_with fail
          refine (BA.out w7 F7.out).mono ?_
          rintro e w8 ⟨rfl, F8⟩
          have K8 := Lib.hid F8
          have F8 := Lib.hid (F7.out.same F8)
          go_wp2_with fail
          refine (CC.out w8 F8.out).mono ?_
          rintro e w9 ⟨rfl, rfl⟩
          have D := Lib.hid (G4.out.same F8.out).below
          go_wp2
          go_ret
          exact ⟨rfl, D.out⟩
        | true =>
          simp only [hfn] at BA
          cases hfm : fits m with
          | false =>
            have hfp : fits (n + m) = false := by
              cases h : fits (n + m) with
              | false => rfl
              | true => rw [fits_le (Nat.le_add_left m n) h] at hfm; cases hfm
            rw [hfp] at CA
            simp only [hfm] at BB
            clear hfn hfm hfp
            have CS := Lib.hid (fun W' (h : Fr [] w4 W') => (CS.out W' h).mono (fun e w5 (hr : SubR W' n m e w5) => show e = .returned (.tuple #[.slice none 0 0, .bool false]) ∧ Fr [] W' w5 by unfold SubR at hr; rw [if_pos hlt] at hr; exact hr))
            have hcm : cmpN n m = -1 := by unfold cmpN; rw [if_pos hlt]
            simp only [hcm] at CC
            clear hlt hcm
            refine CA.out.mono ?_
            rintro e w5 ⟨rfl, F5⟩
            have F5 := Lib.hid F5
            go_wp2_with fail
            refine (CS.out w5 F5.out).mono ?_
            rintro e w6 ⟨rfl, F6⟩
            have K6 := Lib.hid F6
            have F6 := Lib.hid (F5.out.same F6)
            go_wp2_with fail
            refine (CP.out w6 F6.out).mono ?_
            rintro e w7 ⟨a7, c7, rfl, N7, F7⟩
            have P7 := Lib.hid N7.in
            have K7 := Lib.hid F7
            have F7 := Lib.hid (F6.out.same F7)
            clear N7
            go_wp2_with fail
            refine (BA.out w7 F7.out).mono ?_
            rintro e w8 ⟨rfl, F8⟩
            have K8 := Lib.hid F8
            have F8 := Lib.hid (F7.out.same F8)
            go_wp2_with fail
            refine (BB.out w8 F8.out).mono ?_
            rintro e w9 ⟨rfl, F9⟩
            have K9 := Lib.hid (K8.out.same F9)
            have F9 := Lib.hid (F8.out.same F9)
            go_wp2_with fail
            refine (CC.out w9 F9.out).mono ?_
            rintro e w10 ⟨rfl, rfl⟩
            have D := Lib.hid (G4.out.same F9.out).below
            go_wp2
            go_ret
            exact ⟨rfl, D.out⟩
          | true =>
            simp only [hfm] at BB
            cases hfp : fits (n + m) with
            | false =>
              rw [hfp] at CA
              have HFP := Lib.hid hfp
              clear hfn hfm hfp
              have CS := Lib.hid (fun W' (h : Fr [] w4 W') => (CS.out W' h).mono (fun e w5 (hr : SubR W' n m e w5) => show e = .returned (.tuple #[.slice none 0 0, .bool false]) ∧ Fr [] W' w5 by unfold SubR at hr; rw [if_pos hlt] at hr; exact hr))
              have hcm : cmpN n m = -1 := by unfold cmpN; rw [if_pos hlt]
              simp only [hcm] at CC
              clear hlt hcm
              refine CA.out.mono ?_
              rintro e w5 ⟨rfl, F5⟩
              have F5 := Lib.hid F5
              go_wp2_with fail
              refine (CS.out w5 F5.out).mono ?_
              rintro e w6 ⟨rfl, F6⟩
              have K6 := Lib.hid F6
              have F6 := Lib.hid (F5.out.same F6)
              go_wp2_with fail
              refine (CP.out w6 F6.out).mono ?_
              rintro e w7 ⟨a7, c7, rfl, N7, F7⟩
              have P7 := Lib.hid N7.in
              have K7 := Lib.hid F7
              have F7 := Lib.hid (F6.out.same F7)
              clear N7
              go_wp2_with fail
              refine (BA.out w7 F7.out).mono ?_
              rintro e w8 ⟨rfl, F8⟩
              have K8 := Lib.hid F8
              have F8 := Lib.hid (F7.out.same F8)
              go_wp2_with fail
              refine (BB.out w8 F8.out).mono ?_
              rintro e w9 ⟨rfl, F9⟩
              have K9 := Lib.hid (K8.out.same F9)
              have F9 := Lib.hid (F8.out.same F9)
              have BC := Lib.hid (r1big_c w9 (P7.out.keep K9.out))
              rw [val_lims, HFP.out] at BC
              go_wp2_with fail
              refine BC.out.mono ?_
              rintro e w10 ⟨rfl, F10⟩
              have K10 := Lib.hid (K9.out.same F10)
              have F10 := Lib.hid (F9.out.same F10)
              go_wp2_with fail
              refine (CC.out w10 F10.out).mono ?_
              rintro e w11 ⟨rfl, rfl⟩
              have D := Lib.hid (G4.out.same F10.out).below
              go_wp2
              go_ret
              exact ⟨rfl, D.out⟩
            | true =>
              rw [hfp] at CA
              have HFP := Lib.hid hfp
              clear hfn hfm hfp
              have CS := Lib.hid (fun W' (h : Fr [] w4 W') => (CS.out W' h).mono (fun e w5 (hr : SubR W' n m e w5) => show e = .returned (.tuple #[.slice none 0 0, .bool false]) ∧ Fr [] W' w5 by unfold SubR at hr; rw [if_pos hlt] at hr; exact hr))
              have hcm : cmpN n m = -1 := by unfold cmpN; rw [if_pos hlt]
              simp only [hcm] at CC
              clear hlt hcm
              refine CA.out.mono ?_
              rintro e w5 ⟨a5, c5, rfl, N5, F5⟩
              have F5 := Lib.hid F5
              have S5 := Lib.hid N5.in
              clear N5
              go_wp2_with fail
              refine (CS.out w5 F5.out).mono ?_
              rintro e w6 ⟨rfl, F6⟩
              have K6 := Lib.hid F6
              have F6 := Lib.hid (F5.out.same F6)
              go_wp2_with fail
              refine (CP.out w6 F6.out).mono ?_
              rintro e w7 ⟨a7, c7, rfl, N7, F7⟩
              have P7 := Lib.hid N7.in
              have K7 := Lib.hid F7
              have F7 := Lib.hid (F6.out.same F7)
              clear N7
              go_wp2_with fail
              refine (BA.out w7 F7.out).mono ?_
              rintro e w8 ⟨rfl, F8⟩
              have K8 := Lib.hid F8
              have F8 := Lib.hid (F7.out.same F8)
              go_wp2_with fail
              refine (BB.out w8 F8.out).mono ?_
              rintro e w9 ⟨rfl, F9⟩
              have K9 := Lib.hid (K8.out.same F9)
              have F9 := Lib.hid (F8.out.same F9)
              have BC := Lib.hid (r1big_c w9 (P7.out.keep K9.out))
              rw [val_lims, HFP.out] at BC
              go_wp2_with fail
              refine BC.out.mono ?_
              rintro e w10 ⟨rfl, F10⟩
              have K10 := Lib.hid (K9.out.same F10)
              have F10 := Lib.hid (F9.out.same F10)
              have CQ := Lib.hid (r1same_c w10 (S5.out.keep (K6.out.same (K7.out.same K10.out))) (P7.out.keep K10.out))
              simp only [decide_true] at CQ
              go_wp2_with fail
              refine CQ.out.mono ?_
              rintro e w11 ⟨rfl, F11⟩
              have K11 := Lib.hid (K10.out.same F11)
              have F11 := Lib.hid (F10.out.same F11)
              go_wp2_with fail
              refine (CC.out w11 F11.out).mono ?_
              rintro e w12 ⟨rfl, rfl⟩
              have D := Lib.hid (G4.out.same F11.out).below
              go_wp2
              go_ret
              exact ⟨rfl, D.out⟩
      · cases hfn : fits n with
        | false =>
          have hfp : fits (n + m) = false := by
            cases h : fits (n + m) with
            | false => rfl
            | true => rw [fits_le (Nat.le_add_right n m) h] at hfn; cases hfn
          rw [hfp] at CA
          simp only [hfn] at BA
          clear hfn hfp
          have CS := Lib.hid (fun W' (h : Fr [] w4 W') => (CS.out W' h).mono (fun e w5 (hr : SubR W' n m e w5) => show ∃ a cap, e = .returned (.tuple #[.slice a (lims (n - m)).length cap, .bool true]) ∧ In w5 a cap (lims (n - m)) ∧ Fr [] W' w5 by
            unfold SubR at hr; rw [if_neg hlt] at hr
            obtain ⟨a, c, h1, h2, h3⟩ := hr
            exact ⟨a, c, h1, h2.in, h3⟩))
          have HC : Hid (cmpN n m = 0 ∨ cmpN n m = 1) := Lib.hid (by unfold cmpN; rw [if_neg hlt]; split; exact .inr rfl; exact .inl rfl)
          have HLE : Hid (m ≤ n) := Lib.hid (by omega)
          clear hlt
          refine CA.out.mono ?_
          rintro e w5 ⟨rfl, F5⟩
          have F5 := Lib.hid F5
          go_wp2_with fail
          refine (CS.out w5 F5.out).mono ?_
          rintro e w6 ⟨a6, c6, rfl, Q6, F6⟩
          have D6 := Lib.hid Q6
          have K6 := Lib.hid F6
          have F6 := Lib.hid (F5.out.same F6)
          clear Q6
          go_wp2_with fail
          refine (CP.out w6 F6.out).mono ?_
          rintro e w7 ⟨a7, c7, rfl, N7, F7⟩
          have P7 := Lib.hid N7.in
          have K7 := Lib.hid F7
          have F7 := Lib.hid (F6.out.same F7)
          clear N7
          go_wp2_with fail
          refine (BA.out w7 F7.out).mono ?_
          rintro e w8 ⟨rfl, F8⟩
          have K8 := Lib.hid F8
          have F8 := Lib.hid (F7.out.same F8)
          go_wp2_with fail
          refine (CC.out w8 F8.out).mono ?_
          rintro e w9 ⟨rfl, rfl⟩
          rcases HC.out with hc | hc
          all_goals
            rw [hc]
            clear hc
            go_wp2_with fail
            refine (TA.out w8 F8.out).mono ?_
            rintro e w20 ⟨a20, c20, rfl, N20, F20⟩
            have T20 := Lib.hid N20.in
            have K20 := Lib.hid F20
            have F20 := Lib.hid (F8.out.same F20)
            clear N20
            go_wp2_with fail
            refine (TB.out w20 F20.out).mono ?_
            rintro e w21 ⟨a21, c21, rfl, N21, F21⟩
            have CM := Lib.hid (r1minus_c w21 (T20.out.keep F21) N21.in (by have := BLN.out.1; omega) (by rw [val_lims, val_lims]; exact HLE.out))
            rw [val_lims, val_lims] at CM
            have K21 := Lib.hid (K20.out.same F21)
            have F21 := Lib.hid (F20.out.same F21)
            clear N21
            go_wp2_with fail
            refine CM.out.mono ?_
            rintro e w22 ⟨a22, c22, rfl, N22, F22⟩
            have CD := Lib.hid (r1same_c w22 (D6.out.keep (K7.out.same (K8.out.same (K21.out.same F22)))) N22.in)
            simp only [decide_true] at CD
            have F22 := Lib.hid (F21.out.same F22)
            clear N22
            go_wp2_with fail
            refine CD.out.mono ?_
            rintro e w23 ⟨rfl, F23⟩
            have F23 := Lib.hid (F22.out.same F23)
            go_wp2_with fail
            refine (CX.out w23 F23.out).mono ?_
            rintro e w24 ⟨rfl, F24⟩
            have F24 := Lib.hid (F23.out.same F24)
            go_wp2_with fail
            refine (CY.out w24 F24.out).mono ?_
            rintro e w25 ⟨rfl, F25⟩
            have D := Lib.hid (G4.out.same (F24.out.same F25)).below
            clear F25
            go_wp2
            go_ret
            exact ⟨rfl, D.out⟩
        | true =>
          simp only [hfn] at BA
          cases hfm : fits m with
          | false =>
            have hfp : fits (n + m) = false := by
              cases h : fits (n + m) with
              | false => rfl
              | true => rw [fits_le (Nat.le_add_left m n) h] at hfm; cases hfm
            rw [hfp] at CA
            simp only [hfm] at BB
            clear hfn hfm hfp
            have CS := Lib.hid (fun W' (h : Fr [] w4 W') => (CS.out W' h).mono (fun e w5 (hr : SubR W' n m e w5) => show ∃ a cap, e = .returned (.tuple #[.slice a (lims (n - m)).length cap, .bool true]) ∧ In w5 a cap (lims (n - m)) ∧ Fr [] W' w5 by
              unfold SubR at hr; rw [if_neg hlt] at hr
              obtain ⟨a, c, h1, h2, h3⟩ := hr
              exact ⟨a, c, h1, h2.in, h3⟩))
            have HC : Hid (cmpN n m = 0 ∨ cmpN n m = 1) := Lib.hid (by unfold cmpN; rw [if_neg hlt]; split; exact .inr rfl; exact .inl rfl)
            have HLE : Hid (m ≤ n) := Lib.hid (by omega)
            clear hlt
            refine CA.out.mono ?_
            rintro e w5 ⟨rfl, F5⟩
            have F5 := Lib.hid F5
            go_wp2_with fail
            refine (CS.out w5 F5.out).mono ?_
            rintro e w6 ⟨a6, c6, rfl, Q6, F6⟩
            have D6 := Lib.hid Q6
            have K6 := Lib.hid F6
            have F6 := Lib.hid (F5.out.same F6)
            clear Q6
            go_wp2_with fail
            refine (CP.out w6 F6.out).mono ?_
            rintro e w7 ⟨a7, c7, rfl, N7, F7⟩
            have P7 := Lib.hid N7.in
            have K7 := Lib.hid F7
            have F7 := Lib.hid (F6.out.same F7)
            clear N7
            go_wp2_with fail
            refine (BA.out w7 F7.out).mono ?_
            rintro e w8 ⟨rfl, F8⟩
            have K8 := Lib.hid F8
            have F8 := Lib.hid (F7.out.same F8)
            go_wp2_with fail
            refine (BB.out w8 F8.out).mono ?_
            rintro e w9 ⟨rfl, F9⟩
            have K9 := Lib.hid (K8.out.same F9)
            have F9 := Lib.hid (F8.out.same F9)
            go_wp2_with fail
            refine (CC.out w9 F9.out).mono ?_
            rintro e w10 ⟨rfl, rfl⟩
            rcases HC.out with hc | hc
            all_goals
              rw [hc]
              clear hc
              go_wp2_with fail
              refine (TA.out w9 F9.out).mono ?_
              rintro e w20 ⟨a20, c20, rfl, N20, F20⟩
              have T20 := Lib.hid N20.in
              have K20 := Lib.hid F20
              have F20 := Lib.hid (F9.out.same F20)
              clear N20
              go_wp2_with fail
              refine (TB.out w20 F20.out).mono ?_
              rintro e w21 ⟨a21, c21, rfl, N21, F21⟩
              have CM := Lib.hid (r1minus_c w21 (T20.out.keep F21) N21.in (by have := BLN.out.1; omega) (by rw [val_lims, val_lims]; exact HLE.out))
              rw [val_lims, val_lims] at CM
              have K21 := Lib.hid (K20.out.same F21)
              have F21 := Lib.hid (F20.out.same F21)
              clear N21
              go_wp2_with fail
              refine CM.out.mono ?_
              rintro e w22 ⟨a22, c22, rfl, N22, F22⟩
              have CD := Lib.hid (r1same_c w22 (D6.out.keep (K7.out.same (K9.out.same (K21.out.same F22)))) N22.in)
              simp only [decide_true] at CD
              have F22 := Lib.hid (F21.out.same F22)
              clear N22
              go_wp2_with fail
              refine CD.out.mono ?_
              rintro e w23 ⟨rfl, F23⟩
              have F23 := Lib.hid (F22.out.same F23)
              go_wp2_with fail
              refine (CX.out w23 F23.out).mono ?_
              rintro e w24 ⟨rfl, F24⟩
              have F24 := Lib.hid (F23.out.same F24)
              go_wp2_with fail
              refine (CY.out w24 F24.out).mono ?_
              rintro e w25 ⟨rfl, F25⟩
              have D := Lib.hid (G4.out.same (F24.out.same F25)).below
              clear F25
              go_wp2
              go_ret
              exact ⟨rfl, D.out⟩
          | true =>
            simp only [hfm] at BB
            cases hfp : fits (n + m) with
            | false =>
              rw [hfp] at CA
              have HFP := Lib.hid hfp
              clear hfn hfm hfp
              have CS := Lib.hid (fun W' (h : Fr [] w4 W') => (CS.out W' h).mono (fun e w5 (hr : SubR W' n m e w5) => show ∃ a cap, e = .returned (.tuple #[.slice a (lims (n - m)).length cap, .bool true]) ∧ In w5 a cap (lims (n - m)) ∧ Fr [] W' w5 by
                unfold SubR at hr; rw [if_neg hlt] at hr
                obtain ⟨a, c, h1, h2, h3⟩ := hr
                exact ⟨a, c, h1, h2.in, h3⟩))
              have HC : Hid (cmpN n m = 0 ∨ cmpN n m = 1) := Lib.hid (by unfold cmpN; rw [if_neg hlt]; split; exact .inr rfl; exact .inl rfl)
              have HLE : Hid (m ≤ n) := Lib.hid (by omega)
              clear hlt
              refine CA.out.mono ?_
              rintro e w5 ⟨rfl, F5⟩
              have F5 := Lib.hid F5
              go_wp2_with fail
              refine (CS.out w5 F5.out).mono ?_
              rintro e w6 ⟨a6, c6, rfl, Q6, F6⟩
              have D6 := Lib.hid Q6
              have K6 := Lib.hid F6
              have F6 := Lib.hid (F5.out.same F6)
              clear Q6
              go_wp2_with fail
              refine (CP.out w6 F6.out).mono ?_
              rintro e w7 ⟨a7, c7, rfl, N7, F7⟩
              have P7 := Lib.hid N7.in
              have K7 := Lib.hid F7
              have F7 := Lib.hid (F6.out.same F7)
              clear N7
              go_wp2_with fail
              refine (BA.out w7 F7.out).mono ?_
              rintro e w8 ⟨rfl, F8⟩
              have K8 := Lib.hid F8
              have F8 := Lib.hid (F7.out.same F8)
              go_wp2_with fail
              refine (BB.out w8 F8.out).mono ?_
              rintro e w9 ⟨rfl, F9⟩
              have K9 := Lib.hid (K8.out.same F9)
              have F9 := Lib.hid (F8.out.same F9)
              have BC := Lib.hid (r1big_c w9 (P7.out.keep K9.out))
              rw [val_lims, HFP.out] at BC
              go_wp2_with fail
              refine BC.out.mono ?_
              rintro e w10 ⟨rfl, F10⟩
              have K10 := Lib.hid (K9.out.same F10)
              have F10 := Lib.hid (F9.out.same F10)
              go_wp2_with fail
              refine (CC.out w10 F10.out).mono ?_
              rintro e w11 ⟨rfl, rfl⟩
              rcases HC.out with hc | hc
              all_goals
                rw [hc]
                clear hc
                go_wp2_with fail
                refine (TA.out w10 F10.out).mono ?_
                rintro e w20 ⟨a20, c20, rfl, N20, F20⟩
                have T20 := Lib.hid N20.in
                have K20 := Lib.hid F20
                have F20 := Lib.hid (F10.out.same F20)
                clear N20
                go_wp2_with fail
                refine (TB.out w20 F20.out).mono ?_
                rintro e w21 ⟨a21, c21, rfl, N21, F21⟩
                have CM := Lib.hid (r1minus_c w21 (T20.out.keep F21) N21.in (by have := BLN.out.1; omega) (by rw [val_lims, val_lims]; exact HLE.out))
                rw [val_lims, val_lims] at CM
                have K21 := Lib.hid (K20.out.same F21)
                have F21 := Lib.hid (F20.out.same F21)
                clear N21
                go_wp2_with fail
                refine CM.out.mono ?_
                rintro e w22 ⟨a22, c22, rfl, N22, F22⟩
                have CD := Lib.hid (r1same_c w22 (D6.out.keep (K7.out.same (K10.out.same (K21.out.same F22)))) N22.in)
                simp only [decide_true] at CD
                have F22 := Lib.hid (F21.out.same F22)
                clear N22
                go_wp2_with fail
                refine CD.out.mono ?_
                rintro e w23 ⟨rfl, F23⟩
                have F23 := Lib.hid (F22.out.same F23)
                go_wp2_with fail
                refine (CX.out w23 F23.out).mono ?_
                rintro e w24 ⟨rfl, F24⟩
                have F24 := Lib.hid (F23.out.same F24)
                go_wp2_with fail
                refine (CY.out w24 F24.out).mono ?_
                rintro e w25 ⟨rfl, F25⟩
                have D := Lib.hid (G4.out.same (F24.out.same F25)).below
                clear F25
                go_wp2
                go_ret
                exact ⟨rfl, D.out⟩
            | true =>
              rw [hfp] at CA
              have HFP := Lib.hid hfp
              clear hfn hfm hfp
              have CS := Lib.hid (fun W' (h : Fr [] w4 W') => (CS.out W' h).mono (fun e w5 (hr : SubR W' n m e w5) => show ∃ a cap, e = .returned (.tuple #[.slice a (lims (n - m)).length cap, .bool true]) ∧ In w5 a cap (lims (n - m)) ∧ Fr [] W' w5 by
                unfold SubR at hr; rw [if_neg hlt] at hr
                obtain ⟨a, c, h1, h2, h3⟩ := hr
                exact ⟨a, c, h1, h2.in, h3⟩))
              have HC : Hid (cmpN n m = 0 ∨ cmpN n m = 1) := Lib.hid (by unfold cmpN; rw [if_neg hlt]; split; exact .inr rfl; exact .inl rfl)
              have HLE : Hid (m ≤ n) := Lib.hid (by omega)
              clear hlt
              refine CA.out.mono ?_
              rintro e w5 ⟨a5, c5, rfl, N5, F5⟩
              have F5 := Lib.hid F5
              have S5 := Lib.hid N5.in
              clear N5
              go_wp2_with fail
              refine (CS.out w5 F5.out).mono ?_
              rintro e w6 ⟨a6, c6, rfl, Q6, F6⟩
              have D6 := Lib.hid Q6
              have K6 := Lib.hid F6
              have F6 := Lib.hid (F5.out.same F6)
              clear Q6
              go_wp2_with fail
              refine (CP.out w6 F6.out).mono ?_
              rintro e w7 ⟨a7, c7, rfl, N7, F7⟩
              have P7 := Lib.hid N7.in
              have K7 := Lib.hid F7
              have F7 := Lib.hid (F6.out.same F7)
              clear N7
              go_wp2_with fail
              refine (BA.out w7 F7.out).mono ?_
              rintro e w8 ⟨rfl, F8⟩
              have K8 := Lib.hid F8
              have F8 := Lib.hid (F7.out.same F8)
              go_wp2_with fail
              refine (BB.out w8 F8.out).mono ?_
              rintro e w9 ⟨rfl, F9⟩
              have K9 := Lib.hid (K8.out.same F9)
              have F9 := Lib.hid (F8.out.same F9)
              have BC := Lib.hid (r1big_c w9 (P7.out.keep K9.out))
              rw [val_lims, HFP.out] at BC
              go_wp2_with fail
              refine BC.out.mono ?_
              rintro e w10 ⟨rfl, F10⟩
              have K10 := Lib.hid (K9.out.same F10)
              have F10 := Lib.hid (F9.out.same F10)
              have CQ := Lib.hid (r1same_c w10 (S5.out.keep (K6.out.same (K7.out.same K10.out))) (P7.out.keep K10.out))
              simp only [decide_true] at CQ
              go_wp2_with fail
              refine CQ.out.mono ?_
              rintro e w11 ⟨rfl, F11⟩
              have K11 := Lib.hid (K10.out.same F11)
              have F11 := Lib.hid (F10.out.same F11)
              go_wp2_with fail
              refine (CC.out w11 F11.out).mono ?_
              rintro e w12 ⟨rfl, rfl⟩
              rcases HC.out with hc | hc
              all_goals
                rw [hc]
                clear hc
                go_wp2_with fail
                refine (TA.out w11 F11.out).mono ?_
                rintro e w20 ⟨a20, c20, rfl, N20, F20⟩
                have T20 := Lib.hid N20.in
                have K20 := Lib.hid F20
                have F20 := Lib.hid (F11.out.same F20)
                clear N20
                go_wp2_with fail
                refine (TB.out w20 F20.out).mono ?_
                rintro e w21 ⟨a21, c21, rfl, N21, F21⟩
                have CM := Lib.hid (r1minus_c w21 (T20.out.keep F21) N21.in (by have := BLN.out.1; omega) (by rw [val_lims, val_lims]; exact HLE.out))
                rw [val_lims, val_lims] at CM
                have K21 := Lib.hid (K20.out.same F21)
                have F21 := Lib.hid (F20.out.same F21)
                clear N21
                go_wp2_with fail
                refine CM.out.mono ?_
                rintro e w22 ⟨a22, c22, rfl, N22, F22⟩
                have CD := Lib.hid (r1same_c w22 (D6.out.keep (K7.out.same (K11.out.same (K21.out.same F22)))) N22.in)
                simp only [decide_true] at CD
                have F22 := Lib.hid (F21.out.same F22)
                clear N22
                go_wp2_with fail
                refine CD.out.mono ?_
                rintro e w23 ⟨rfl, F23⟩
                have F23 := Lib.hid (F22.out.same F23)
                go_wp2_with fail
                refine (CX.out w23 F23.out).mono ?_
                rintro e w24 ⟨rfl, F24⟩
                have F24 := Lib.hid (F23.out.same F24)
                go_wp2_with fail
                refine (CY.out w24 F24.out).mono ?_
                rintro e w25 ⟨rfl, F25⟩
                have D := Lib.hid (G4.out.same (F24.out.same F25)).below
                clear F25
                go_wp2
                go_ret
                exact ⟨rfl, D.out⟩
set_option maxRecDepth 100000 in
theorem lifted (os : Os) (started : os.Started) (H : Type) (enc : TypeId × Value → H) :
    ReturnsInHanded {} Tryd.checked os 10 .any (fun w args => (Rows.limbAddsSpec.pre enc Tryd.prog Tryd.f10 [] false w args ∧ laidMetH Tryd.prog listed w) ∧ sizedMet enc Tryd.prog Tryd.f10 (OpenSpec.ofChange Rows.limbAddsSpec) false w args) (Rows.limbAddsSpec.post enc Tryd.prog Tryd.f10 false true false false) := by
  refine returnsInHanded_of_change_and (C := Tryd.checked) (X := fun w _ => laidMetH Tryd.prog listed w) (fun _ _ _ hh h => h.of_heap hh) own started (by kernel_rfl) Tryd.func10
    (ChangeSpec.witness_shaped (enc := enc) (C := Tryd.checked) (os := os) (X := fun w _ => laidMetH Tryd.prog listed w) false (World.doorLaid Tryd.prog 24 os) #[.slice none 0 0, .slice none 0 0] 8 rfl (World.shaped_of_RefB (by kernel_rfl) (by kernel_rfl)) (by kernel_rfl) (by kernel_rfl) (by kernel_rfl) (door_met os _)) ?_
  intro W base args ds gs before hval0 hW _ _ hL _
  have hT := tab_of_laid hL
  have hval : ∀ (j : Nat) t v, Tryd.f10.params[j]? = some t → args[j]? = some v → Value.okWide Tryd.prog W .any base t v := hval0
  have hW' := hW
  obtain ⟨p, q, hA0, hV, rfl, hfz, hnd⟩ := hW
  have hA : DataW.TrodAll enc Tryd.prog W 0 (fun _ => true) true Tryd.f10.params.toList args.toList ds p := hA0
  rw [Tryd.params10] at hA hval
  obtain ⟨v0, vs0, d0, ds0, p0, q0, hargs, rfl, rfl, h0, r0⟩ := trodAll_cons hA
  obtain ⟨v1, vs1, d1, ds1, p1, q1, rfl, rfl, rfl, h1, r1⟩ := trodAll_cons r0
  obtain ⟨rfl, rfl, rfl⟩ := trodAll_nil r1
  obtain rfl : args = #[v0, v1] := by cases args; simp_all
  obtain ⟨rfl, rfl⟩ := trodVars_none hV
  obtain ⟨a0, len0, cap0, rfl⟩ := okWide_slice Tryd.underlying22 (hval 0 22 v0 rfl rfl)
  have k0 := h0
  have lt0 : ∀ x ∈ p0, x.block < W.heap.size := by obtain ⟨m, hm⟩ := k0; exact DataW.trod_lt m _ _ _ hm
  obtain ⟨z0, w0⟩ := open_u32s h0
  obtain ⟨a1, len1, cap1, rfl⟩ := okWide_slice Tryd.underlying22 (hval 1 22 v1 rfl rfl)
  have k1 := h1
  have lt1 : ∀ x ∈ p1, x.block < W.heap.size := by obtain ⟨m, hm⟩ := k1; exact DataW.trod_lt m _ _ _ hm
  obtain ⟨z1, w1⟩ := open_u32s h1
  clear hA0 hval0
  refine (walk a0 len0 cap0 z0 a1 len1 cap1 z1 W w0 w1 hT).mono fun e W' ⟨he, bel⟩ => ?_
  subst he
  exact ⟨_, rfl, _, _, _, [], _, [], hW', trodAll_mk1 (shut_bool Tryd.underlying4 _), (trodAll_cons_mk (Below.trod laidOut (by kernel_rfl) (of_decide_eq_true (by kernel_rfl)) k0 bel lt0) (trodAll_cons_mk (Below.trod laidOut (by kernel_rfl) (of_decide_eq_true (by kernel_rfl)) k1 bel lt1) trodAll_mk0)), rfl, bel.frame _, fun h => by cases h⟩
theorem over : Rows.limbAddsRow.holds Tryd.pinned (OpenSpec.ofChange Rows.limbAddsSpec) :=
  OpenClaim.holds_of_wide 10 Tryd.f10 rfl rfl rfl rfl rfl rfl rfl ⟨rfl, rfl, rfl, rfl, rfl⟩ rfl rfl rfl rfl rfl (by kernel_rfl) Tryd.func10 (by kernel_rfl)
    (of_decide_eq_true (by kernel_rfl)) (by unfold Func.isWrapper; first | (rw [if_pos (by decide +kernel)]; kernel_rfl) | (rw [if_neg (by decide +kernel)]; exact ⟨rfl, rfl⟩))
    (fun os started H enc _ => lifted os started H enc)
/-- THE STATEMENT -/
theorem proved : Rows.LimbAddsCardSaid :=
  Claim7.holds_tied_plain_at .later [] [.data, .data, .data] true (true, "ea8df5c1a0e302ec682270425c9a8cf6ae00272b589ccfc6cc1f4d10a9599452") false
    over (fun _ h => by cases h) (by kernel_rfl) (fun _ h => by cases h) limbAdds_row_tie rfl ⟨rfl, rfl⟩ (by kernel_rfl) rfl
    (fun f fn hf hfn => by
      obtain rfl : f = 10 := Option.some.inj ((show Tryd.prog.funcNamed "distaff/distafflaw01.LimbAdds" = some 10 by kernel_rfl).symm.trans hf) |>.symm
      obtain rfl : fn = Tryd.f10 := (Option.some.inj (Tryd.func10.symm.trans hfn)).symm
      exact ⟨by kernel_rfl, fun j t ht => by
        rw [Tryd.params10] at ht
        have hm : t ∈ [22] := by have := Array.mem_of_getElem? ht; simp at this ⊢; omega
        have hall : ([22].all fun u => !Tryd.prog.wantsStandIn u) = true := by kernel_rfl
        exact (show Tryd.prog.wantsStandIn t = false by simpa using List.all_eq_true.1 hall t hm)⟩)
    (by kernel_rfl)
#print axioms proved
end Go.Proofs.YtladhmbidicncaaDoor.limbAdds
