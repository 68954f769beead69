/- LimbRing: sums and products may be turned round; a product of a sum is the sum of the products; what was added may be taken away. No condition. The row lists three tables of Go's library, tied to the program's text by the card. -/
import Derived.Test.YtladhmbidicncaaDoorLawC
namespace Go.Proofs.YtladhmbidicncaaDoor.limbRing
open Go.ChangeShapes Go.WideShapes Go.RowKit Go.Proofs.YtladhmbidicncaaDoor
theorem ring_fits {n m k : Nat} (hn : n < 4294967296 ^ 30) (hm : m < 4294967296 ^ 30) (hk : k < 4294967296 ^ 30) : fits n = true ∧ fits m = true ∧ fits k = true ∧ fits (n + m) = true ∧ fits ((n + m) * k) = true := by
  have p1 : (4294967296 : Nat) ^ 31 = 4294967296 * 4294967296 ^ 30 := by rw [Nat.pow_succ, Nat.mul_comm]
  have p2 : (4294967296 : Nat) ^ 64 = 4294967296 ^ 31 * 4294967296 ^ 30 * 4294967296 ^ 3 := by rw [← Nat.pow_add, ← Nat.pow_add]
  have h1 : n + m < 4294967296 ^ 31 := by omega
  have h2 : (n + m) * k < 4294967296 ^ 31 * 4294967296 ^ 30 := Nat.mul_lt_mul'' h1 hk
  have h3 : (4294967296 : Nat) ^ 31 * 4294967296 ^ 30 ≤ 4294967296 ^ 64 := by rw [p2]; exact Nat.le_mul_of_pos_right _ (by decide)
  have h4 : (4294967296 : Nat) ^ 31 ≤ 4294967296 ^ 64 := Nat.pow_le_pow_right (by decide) (by decide)
  have h5 : (4294967296 : Nat) ^ 30 ≤ 4294967296 ^ 64 := Nat.pow_le_pow_right (by decide) (by decide)
  unfold fits
  simp only [decide_eq_true_eq]
  exact ⟨Nat.lt_of_lt_of_le hn h5, Nat.lt_of_lt_of_le hm h5, Nat.lt_of_lt_of_le hk h5, Nat.lt_of_lt_of_le h1 h4, Nat.lt_of_lt_of_le h2 h3⟩
set_option maxRecDepth 100000 in
set_option maxHeartbeats 4000000 in
theorem walk (a1 : Option Addr) (n1 c1 : Nat) (L : List Nat) (a2 : Option Addr) (n2 c2 : Nat) (M : List Nat) (a0 : Option Addr) (n0 c0 : Nat) (K : List Nat) (W : World) (h1 : InA W a1 n1 c1 L) (h2 : InA W a2 n2 c2 M) (h3 : InA W a0 n0 c0 K) (hT : Tab W) :
    Calls Tryd.prog 11 #[.slice a1 n1 c1, .slice a2 n2 c2, .slice a0 n0 c0] W fun e W' => e = .returned (.bool true) ∧ Below W.heap.size W W' := by
  have HT := Lib.hid hT
  have H1 := Lib.hid h1
  have H2 := Lib.hid h2
  have H3 := Lib.hid h3
  clear hT h1 h2 h3
  by_cases g1 : 30 < n1
  · go_enter Tryd.func11, Tryd.ntmps11
    go_wp2_with fail
    refine (limbAlive_c W HT.out).mono ?_
    rintro e w1 ⟨rfl, F1⟩
    have F1 := Lib.hid F1
    go_wp2
    go_ret
    exact ⟨rfl, F1.out.below⟩
  · by_cases g2 : 30 < n2
    · go_enter Tryd.func11, Tryd.ntmps11
      go_wp2_with fail
      refine (limbAlive_c W HT.out).mono ?_
      rintro e w1 ⟨rfl, F1⟩
      have F1 := Lib.hid F1
      go_wp2
      go_ret
      exact ⟨rfl, F1.out.below⟩
    · by_cases g3 : 30 < n0
      · go_enter Tryd.func11, Tryd.ntmps11
        go_wp2_with fail
        refine (limbAlive_c W HT.out).mono ?_
        rintro e w1 ⟨rfl, F1⟩
        have F1 := Lib.hid F1
        go_wp2
        go_ret
        exact ⟨rfl, F1.out.below⟩
      · have A1 := Lib.hid (H1.out.in (by omega))
        have A2 := Lib.hid (H2.out.in (by omega))
        have A3 := Lib.hid (H3.out.in (by omega))
        have e1 := H1.out.len
        have e2 := H2.out.len
        have e3 := H3.out.len
        subst e1
        subst e2
        subst e3
        clear H1 H2 H3
        obtain ⟨n, hn⟩ : ∃ n, n = val L := ⟨_, rfl⟩
        obtain ⟨m, hm⟩ : ∃ m, m = val M := ⟨_, rfl⟩
        obtain ⟨k, hk⟩ : ∃ k, k = val K := ⟨_, rfl⟩
        have HN := Lib.hid hn
        have HM := Lib.hid hm
        have HK := Lib.hid hk
        have FT := Lib.hid (ring_fits (n := n) (m := m) (k := k) (by rw [hn]; exact Nat.lt_of_lt_of_le (val_lt A1.out.lim) (Nat.pow_le_pow_right (by decide) (by omega))) (by rw [hm]; exact Nat.lt_of_lt_of_le (val_lt A2.out.lim) (Nat.pow_le_pow_right (by decide) (by omega))) (by rw [hk]; exact Nat.lt_of_lt_of_le (val_lt A3.out.lim) (Nat.pow_le_pow_right (by decide) (by omega))))
        have f1 := FT.out.2.2.2.2
        have E1 : Hid (n * k + k * m = (n + m) * k) := Lib.hid (by rw [Nat.add_mul, Nat.mul_comm k m])
        have fnk : Hid (fits (n * k) = true) := Lib.hid (fits_le (Nat.mul_le_mul_right _ (Nat.le_add_right n m)) f1)
        have fkm : Hid (fits (k * m) = true) := Lib.hid (fits_le (by rw [Nat.mul_comm k m]; exact Nat.mul_le_mul_right _ (Nat.le_add_left m n)) f1)
        have E2 : Hid (cmpN n n = 0) := Lib.hid (by unfold cmpN; rw [if_neg (by omega), if_neg (by omega)])
        have E3 : Hid (¬ n + m < m) := Lib.hid (by omega)
        clear hn hm hk f1
        go_enter Tryd.func11, Tryd.ntmps11
        go_wp2_with fail
        refine (limbAlive_c W HT.out).mono ?_
        rintro e w1 ⟨rfl, F1⟩
        have F1 := Lib.hid F1
        have CA := Lib.hid (ladd_c w1 (A1.out.keep F1.out) (A2.out.keep F1.out))
        rw [← HN.out, ← HM.out, FT.out.2.2.2.1] at CA
        go_wp2_with fail
        refine CA.out.mono ?_
        rintro e w2 ⟨b2, d2, rfl, N2, F2⟩
        have P2 := Lib.hid N2.in
        have G2 := Lib.hid (F1.out.same F2)
        have CB := Lib.hid (ladd_c w2 (A2.out.keep G2.out) (A1.out.keep G2.out))
        rw [← HN.out, ← HM.out, Nat.add_comm m n, FT.out.2.2.2.1] at CB
        clear N2 CA F1
        go_wp2_with fail
        refine CB.out.mono ?_
        rintro e w3 ⟨b3, d3, rfl, N3, F3⟩
        have Q3 := Lib.hid N3.in
        have P3 := Lib.hid (P2.out.keep F3)
        have G3 := Lib.hid (G2.out.same F3)
        have CC := Lib.hid (lmul_c w3 P3.out (A3.out.keep G3.out))
        rw [val_lims, ← HK.out, FT.out.2.2.2.1, FT.out.2.2.1, FT.out.2.2.2.2] at CC
        clear N3 CB G2 P2
        go_wp2_with fail
        refine CC.out.mono ?_
        rintro e w4 ⟨b4, d4, rfl, N4, F4⟩
        have L4 := Lib.hid N4.in
        have P4 := Lib.hid (P3.out.keep F4)
        have Q4 := Lib.hid (Q3.out.keep F4)
        have G4 := Lib.hid (G3.out.same F4)
        have CD := Lib.hid (lmul_c w4 (A1.out.keep G4.out) (A3.out.keep G4.out))
        rw [← HN.out, ← HK.out, FT.out.1, FT.out.2.2.1, fnk.out] at CD
        clear N4 CC G3 P3 Q3
        go_wp2_with fail
        refine CD.out.mono ?_
        rintro e w5 ⟨b5, d5, rfl, N5, F5⟩
        have R5 := Lib.hid N5.in
        have L5 := Lib.hid (L4.out.keep F5)
        have P5 := Lib.hid (P4.out.keep F5)
        have Q5 := Lib.hid (Q4.out.keep F5)
        have G5 := Lib.hid (G4.out.same F5)
        have CE := Lib.hid (lmul_c w5 (A3.out.keep G5.out) (A2.out.keep G5.out))
        rw [← HM.out, ← HK.out, FT.out.2.2.1, FT.out.2.1, fkm.out] at CE
        clear N5 CD G4 P4 Q4 L4
        go_wp2_with fail
        refine CE.out.mono ?_
        rintro e w6 ⟨b6, d6, rfl, N6, F6⟩
        have R6 := Lib.hid (R5.out.keep F6)
        have L6 := Lib.hid (L5.out.keep F6)
        have P6 := Lib.hid (P5.out.keep F6)
        have Q6 := Lib.hid (Q5.out.keep F6)
        have G6 := Lib.hid (G5.out.same F6)
        have CF := Lib.hid (ladd_c w6 R6.out N6.in)
        rw [val_lims, val_lims, E1.out, FT.out.2.2.2.2] at CF
        clear N6 CE G5 P5 Q5 L5 R5
        go_wp2_with fail
        refine CF.out.mono ?_
        rintro e w7 ⟨b7, d7, rfl, N7, F7⟩
        have R7 := Lib.hid N7.in
        have L7 := Lib.hid (L6.out.keep F7)
        have P7 := Lib.hid (P6.out.keep F7)
        have Q7 := Lib.hid (Q6.out.keep F7)
        have G7 := Lib.hid (G6.out.same F7)
        have CG := Lib.hid (lsub_c w7 P7.out (A2.out.keep G7.out))
        rw [val_lims, ← HM.out] at CG
        have CG := Lib.hid (CG.out.mono (fun e w5 (hr : SubR w7 (n + m) m e w5) => show ∃ a cap, e = .returned (.tuple #[.slice a (lims n).length cap, .bool true]) ∧ In w5 a cap (lims n) ∧ Fr [] w7 w5 by
          unfold SubR at hr; rw [if_neg E3.out, Nat.add_sub_cancel] at hr
          obtain ⟨a, c, h1, h2, h3⟩ := hr
          exact ⟨a, c, h1, h2.in, h3⟩))
        clear N7 CF G6 P6 Q6 L6 R6
        go_wp2_with fail
        refine CG.out.mono ?_
        rintro e w8 ⟨b8, d8, rfl, N8, F8⟩
        have D8 := Lib.hid N8
        have G8 := Lib.hid (G7.out.same F8)
        have CH := Lib.hid (r1same_c w8 (P7.out.keep F8) (Q7.out.keep F8))
        have CI := Lib.hid (fun W' (h : Fr [] w8 W') => r1same_c W' (L7.out.keep (Fr.same F8 h)) (R7.out.keep (Fr.same F8 h)))
        have CJ := Lib.hid (fun W' (h : Fr [] w8 W') => lcmp_c W' (D8.out.keep h) (A1.out.keep (G8.out.same h)))
        simp only [decide_true] at CH CI
        simp only [val_lims, ← HN.out, E2.out] at CJ
        clear N8 CG
        go_wp2_with fail
        refine CH.out.mono ?_
        rintro e w9 ⟨rfl, F9⟩
        have F9 := Lib.hid F9
        go_wp2_with fail
        refine (CI.out w9 F9.out).mono ?_
        rintro e w10 ⟨rfl, F10⟩
        have F10 := Lib.hid (F9.out.same F10)
        go_wp2_with fail
        refine (CJ.out w10 F10.out).mono ?_
        rintro e w11 ⟨rfl, F11⟩
        have D := Lib.hid (G8.out.same (F10.out.same F11)).below
        clear F11
        go_wp2
        go_ret
        exact ⟨rfl, D.out⟩
set_option maxRecDepth 100000 in
theorem lifted (os : Os) (started : os.Started) (H : Type) (enc : TypeId × Value → H) :
    ReturnsInHanded {} Tryd.checked os 11 .any (fun w args => (Rows.limbRingSpec.pre enc Tryd.prog Tryd.f11 [] false w args ∧ laidMetH Tryd.prog listed w) ∧ sizedMet enc Tryd.prog Tryd.f11 (OpenSpec.ofChange Rows.limbRingSpec) false w args) (Rows.limbRingSpec.post enc Tryd.prog Tryd.f11 false true false false) := by
  refine returnsInHanded_of_change_and (C := Tryd.checked) (X := fun w _ => laidMetH Tryd.prog listed w) (fun _ _ _ hh h => h.of_heap hh) own started (by kernel_rfl) Tryd.func11
    (ChangeSpec.witness_shaped (enc := enc) (C := Tryd.checked) (os := os) (X := fun w _ => laidMetH Tryd.prog listed w) false (World.doorLaid Tryd.prog 24 os) #[.slice none 0 0, .slice none 0 0, .slice none 0 0] 8 rfl (World.shaped_of_RefB (by kernel_rfl) (by kernel_rfl)) (by kernel_rfl) (by kernel_rfl) (by kernel_rfl) (door_met os _)) ?_
  intro W base args ds gs before hval0 hW _ _ hL _
  have hT := tab_of_laid hL
  have hval : ∀ (j : Nat) t v, Tryd.f11.params[j]? = some t → args[j]? = some v → Value.okWide Tryd.prog W .any base t v := hval0
  have hW' := hW
  obtain ⟨p, q, hA0, hV, rfl, hfz, hnd⟩ := hW
  have hA : DataW.TrodAll enc Tryd.prog W 0 (fun _ => true) true Tryd.f11.params.toList args.toList ds p := hA0
  rw [Tryd.params11] at hA hval
  obtain ⟨v0, vs0, d0, ds0, p0, q0, hargs, rfl, rfl, h0, r0⟩ := trodAll_cons hA
  obtain ⟨v1, vs1, d1, ds1, p1, q1, rfl, rfl, rfl, h1, r1⟩ := trodAll_cons r0
  obtain ⟨v2, vs2, d2, ds2, p2, q2, rfl, rfl, rfl, h2, r2⟩ := trodAll_cons r1
  obtain ⟨rfl, rfl, rfl⟩ := trodAll_nil r2
  obtain rfl : args = #[v0, v1, v2] := by cases args; simp_all
  obtain ⟨rfl, rfl⟩ := trodVars_none hV
  obtain ⟨a0, len0, cap0, rfl⟩ := okWide_slice Tryd.underlying22 (hval 0 22 v0 rfl rfl)
  have k0 := h0
  have lt0 : ∀ x ∈ p0, x.block < W.heap.size := by obtain ⟨m, hm⟩ := k0; exact DataW.trod_lt m _ _ _ hm
  obtain ⟨z0, w0⟩ := open_u32s h0
  obtain ⟨a1, len1, cap1, rfl⟩ := okWide_slice Tryd.underlying22 (hval 1 22 v1 rfl rfl)
  have k1 := h1
  have lt1 : ∀ x ∈ p1, x.block < W.heap.size := by obtain ⟨m, hm⟩ := k1; exact DataW.trod_lt m _ _ _ hm
  obtain ⟨z1, w1⟩ := open_u32s h1
  obtain ⟨a2, len2, cap2, rfl⟩ := okWide_slice Tryd.underlying22 (hval 2 22 v2 rfl rfl)
  have k2 := h2
  have lt2 : ∀ x ∈ p2, x.block < W.heap.size := by obtain ⟨m, hm⟩ := k2; exact DataW.trod_lt m _ _ _ hm
  obtain ⟨z2, w2⟩ := open_u32s h2
  clear hA0 hval0
  refine (walk a0 len0 cap0 z0 a1 len1 cap1 z1 a2 len2 cap2 z2 W w0 w1 w2 hT).mono fun e W' ⟨he, bel⟩ => ?_
  subst he
  exact ⟨_, rfl, _, _, _, [], _, [], hW', trodAll_mk1 (shut_bool Tryd.underlying4 _), (trodAll_cons_mk (Below.trod laidOut (by kernel_rfl) (of_decide_eq_true (by kernel_rfl)) k0 bel lt0) (trodAll_cons_mk (Below.trod laidOut (by kernel_rfl) (of_decide_eq_true (by kernel_rfl)) k1 bel lt1) (trodAll_cons_mk (Below.trod laidOut (by kernel_rfl) (of_decide_eq_true (by kernel_rfl)) k2 bel lt2) trodAll_mk0))), rfl, bel.frame _, fun h => by cases h⟩
theorem over : Rows.limbRingRow.holds Tryd.pinned (OpenSpec.ofChange Rows.limbRingSpec) :=
  OpenClaim.holds_of_wide 11 Tryd.f11 rfl rfl rfl rfl rfl rfl rfl ⟨rfl, rfl, rfl, rfl, rfl⟩ rfl rfl rfl rfl rfl (by kernel_rfl) Tryd.func11 (by kernel_rfl)
    (of_decide_eq_true (by kernel_rfl)) (by unfold Func.isWrapper; first | (rw [if_pos (by decide +kernel)]; kernel_rfl) | (rw [if_neg (by decide +kernel)]; exact ⟨rfl, rfl⟩))
    (fun os started H enc _ => lifted os started H enc)
/-- THE STATEMENT -/
theorem proved : Rows.LimbRingCardSaid :=
  Claim7.holds_tied_plain_at .later [] [.data, .data, .data] true (true, "ea8df5c1a0e302ec682270425c9a8cf6ae00272b589ccfc6cc1f4d10a9599452") false
    over (fun _ h => by cases h) (by kernel_rfl) (fun _ h => by cases h) limbRing_row_tie rfl ⟨rfl, rfl⟩ (by kernel_rfl) rfl
    (fun f fn hf hfn => by
      obtain rfl : f = 11 := Option.some.inj ((show Tryd.prog.funcNamed "distaff/distafflaw01.LimbRing" = some 11 by kernel_rfl).symm.trans hf) |>.symm
      obtain rfl : fn = Tryd.f11 := (Option.some.inj (Tryd.func11.symm.trans hfn)).symm
      exact ⟨by kernel_rfl, fun j t ht => by
        rw [Tryd.params11] at ht
        have hm : t ∈ [22] := by have := Array.mem_of_getElem? ht; simp at this ⊢; omega
        have hall : ([22].all fun u => !Tryd.prog.wantsStandIn u) = true := by kernel_rfl
        exact (show Tryd.prog.wantsStandIn t = false by simpa using List.all_eq_true.1 hall t hm)⟩)
    (by kernel_rfl)
#print axioms proved
end Go.Proofs.YtladhmbidicncaaDoor.limbRing
