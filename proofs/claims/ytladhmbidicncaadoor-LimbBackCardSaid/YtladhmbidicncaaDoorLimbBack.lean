/- LimbBack: divided and multiplied. No condition. The row lists three tables of Go's library, tied to the program's text by the card. -/
import Derived.Test.YtladhmbidicncaaDoorLawC
namespace Go.Proofs.YtladhmbidicncaaDoor.limbBack
open Go.ChangeShapes Go.WideShapes Go.RowKit Go.Proofs.YtladhmbidicncaaDoor
set_option maxRecDepth 100000 in
set_option maxHeartbeats 4000000 in
theorem walk (a1 : Option Addr) (n1 c1 : Nat) (L : List Nat) (a2 : Option Addr) (n2 c2 : Nat) (M : List Nat) (W : World) (h1 : InA W a1 n1 c1 L) (h2 : InA W a2 n2 c2 M) (hT : Tab W) :
    Calls Tryd.prog 6 #[.slice a1 n1 c1, .slice a2 n2 c2] W fun e W' => e = .returned (.bool true) ∧ Below W.heap.size W W' := by
  have HT := Lib.hid hT
  have H1 := Lib.hid h1
  have H2 := Lib.hid h2
  clear hT h1 h2
  by_cases g1 : 64 < n1
  · go_enter Tryd.func6, Tryd.ntmps6
    go_wp2_with fail
    refine (limbAlive_c W HT.out).mono ?_
    rintro e w1 ⟨rfl, F1⟩
    have F1 := Lib.hid F1
    go_wp2
    go_ret
    exact ⟨rfl, F1.out.below⟩
  · by_cases g2 : 64 < n2
    · go_enter Tryd.func6, Tryd.ntmps6
      go_wp2_with fail
      refine (limbAlive_c W HT.out).mono ?_
      rintro e w1 ⟨rfl, F1⟩
      have F1 := Lib.hid F1
      go_wp2
      go_ret
      exact ⟨rfl, F1.out.below⟩
    · have A1 := Lib.hid (H1.out.in (by omega))
      have A2 := Lib.hid (H2.out.in (by omega))
      have e1 := H1.out.len
      have e2 := H2.out.len
      subst e1
      subst e2
      clear H1 H2
      obtain ⟨n, hn⟩ : ∃ n, n = val L := ⟨_, rfl⟩
      obtain ⟨m, hm⟩ : ∃ m, m = val M := ⟨_, rfl⟩
      have HN := Lib.hid hn
      have HM := Lib.hid hm
      clear hn hm
      go_enter Tryd.func6, Tryd.ntmps6
      go_wp2_with fail
      refine (limbAlive_c W HT.out).mono ?_
      rintro e w1 ⟨rfl, F1⟩
      have F1 := Lib.hid F1
      have hB1 := F1.out.size
      have X1 := Lib.hid (A1.out.keep F1.out)
      have Y1 := Lib.hid (A2.out.keep F1.out)
      have hfn : fits n = true := by
        rw [fits_len, decide_eq_true_eq, HN.out]; exact Nat.le_trans (lims_len_val A1.out.lim) (by omega)
      have hfm : fits m = true := by
        rw [fits_len, decide_eq_true_eq, HM.out]; exact Nat.le_trans (lims_len_val A2.out.lim) (by omega)
      have CD := Lib.hid (ldiv_c w1 X1.out Y1.out)
      rw [← HN.out, ← HM.out] at CD
      by_cases hm0 : m = 0
      · have RES : ∀ e w5, DivR w1 n m e w5 → e = .returned (.tuple #[.slice none 0 0, .slice none 0 0, .int .i64 12]) ∧ Fr [] w1 w5 := fun e w5 h => by
          unfold DivR at h; rw [hfn, hfm, if_neg (by simp), if_pos hm0] at h; exact h
        have RES := Lib.hid RES
        have CZ := Lib.hid (fun W' (h : Fr [] w1 W') => lcmp_c W' (Y1.out.keep h) (Nw.nil W' 0).in)
        have hz : cmpN (val M) (val []) = 0 := by rw [← HM.out, hm0]; rfl
        simp only [hz, List.length_nil] at CZ
        clear hfn hfm hm0 hz
        go_wp2_with fail
        refine CD.out.mono ?_
        intro e w5 hR
        obtain ⟨rfl, F5⟩ := RES.out e w5 hR
        have F5 := Lib.hid F5
        clear hR RES
        go_wp2_with fail
        refine (CZ.out w5 F5.out).mono ?_
        rintro e w6 ⟨rfl, F6⟩
        have D := Lib.hid (F1.out.same (F5.out.same F6)).below
        clear F6
        go_wp2
        go_ret
        exact ⟨rfl, D.out⟩
      · have RES : ∀ e w5, DivR w1 n m e w5 → ∃ a1 c1 a2 c2, e = .returned (.tuple #[.slice a1 (lims (n / m)).length c1, .slice a2 (lims (n % m)).length c2, .int .i64 0]) ∧ In w5 a1 c1 (lims (n / m)) ∧ In w5 a2 c2 (lims (n % m)) ∧ Fr [] w1 w5 := fun e w5 h => by
          unfold DivR at h; rw [hfn, hfm, if_neg (by simp), if_neg hm0] at h
          obtain ⟨a1, c1, a2, c2, h1, h2, h3, h4⟩ := h
          exact ⟨a1, c1, a2, c2, h1, h2.in, h3.in, h4⟩
        have RES := Lib.hid RES
        have hq : fits (n / m) = true := fits_le (Nat.div_le_self _ _) hfn
        have hp : fits (n / m * m) = true := fits_le (Nat.div_mul_le_self _ _) hfn
        have hs : n / m * m + n % m = n := by rw [Nat.mul_comm]; exact Nat.div_add_mod _ _
        have hmp : n % m < m := Nat.mod_lt _ (Nat.pos_of_ne_zero hm0)
        have k1 : cmpN n n = 0 := by unfold cmpN; rw [if_neg (by omega), if_neg (by omega)]
        have k2 : cmpN (n % m) m = -1 := by unfold cmpN; rw [if_pos hmp]
        have HQ := Lib.hid hq
        have HP := Lib.hid hp
        have HS := Lib.hid hs
        have K1 := Lib.hid k1
        have K2 := Lib.hid k2
        have HFM := Lib.hid hfm
        have HFN := Lib.hid hfn
        clear hfn hfm hm0 hq hp hs hmp k1 k2
        go_wp2_with fail
        refine CD.out.mono ?_
        intro e w5 hR
        obtain ⟨a5, c5, a6, c6, rfl, Q5, R5, F5⟩ := RES.out e w5 hR
        have F5 := Lib.hid F5
        have R5 := Lib.hid R5
        have CM := Lib.hid (lmul_c w5 Q5 (Y1.out.keep F5.out))
        rw [val_lims, ← HM.out, HQ.out, HFM.out, HP.out] at CM
        clear hR RES Q5
        go_wp2_with fail
        refine CM.out.mono ?_
        rintro e w6 ⟨a7, c7, rfl, N7, F6⟩
        have R6 := Lib.hid (R5.out.keep F6)
        have CA := Lib.hid (ladd_c w6 N7.in R6.out)
        rw [val_lims, val_lims, HS.out, HFN.out] at CA
        have F6 := Lib.hid (F5.out.same F6)
        clear N7 CM
        go_wp2_with fail
        refine CA.out.mono ?_
        rintro e w7 ⟨a8, c8, rfl, N8, F7⟩
        have R7 := Lib.hid (R6.out.keep F7)
        have F7 := Lib.hid (F6.out.same F7)
        have C1 := Lib.hid (lcmp_c w7 N8.in (X1.out.keep F7.out))
        rw [val_lims, ← HN.out, K1.out] at C1
        have C2 := Lib.hid (fun W' (h : Fr [] w7 W') => lcmp_c W' (R7.out.keep h) (Y1.out.keep (F7.out.same h)))
        simp only [val_lims, ← HM.out, K2.out] at C2
        clear N8 CA
        go_wp2_with fail
        refine C1.out.mono ?_
        rintro e w8 ⟨rfl, F8⟩
        have F8 := Lib.hid F8
        go_wp2_with fail
        refine (C2.out w8 F8.out).mono ?_
        rintro e w9 ⟨rfl, F9⟩
        have D := Lib.hid (F1.out.same (F7.out.same (F8.out.same F9))).below
        clear F9
        go_wp2
        go_ret
        exact ⟨rfl, D.out⟩
set_option maxRecDepth 100000 in
theorem lifted (os : Os) (started : os.Started) (H : Type) (enc : TypeId × Value → H) :
    ReturnsInHanded {} Tryd.checked os 6 .any (fun w args => (Rows.limbBackSpec.pre enc Tryd.prog Tryd.f6 [] false w args ∧ laidMetH Tryd.prog listed w) ∧ sizedMet enc Tryd.prog Tryd.f6 (OpenSpec.ofChange Rows.limbBackSpec) false w args) (Rows.limbBackSpec.post enc Tryd.prog Tryd.f6 false true false false) := by
  refine returnsInHanded_of_change_and (C := Tryd.checked) (X := fun w _ => laidMetH Tryd.prog listed w) (fun _ _ _ hh h => h.of_heap hh) own started (by kernel_rfl) Tryd.func6
    (ChangeSpec.witness_shaped (enc := enc) (C := Tryd.checked) (os := os) (X := fun w _ => laidMetH Tryd.prog listed w) false (World.doorLaid Tryd.prog 24 os) #[.slice none 0 0, .slice none 0 0] 8 rfl (World.shaped_of_RefB (by kernel_rfl) (by kernel_rfl)) (by kernel_rfl) (by kernel_rfl) (by kernel_rfl) (door_met os _)) ?_
  intro W base args ds gs before hval0 hW _ _ hL _
  have hT := tab_of_laid hL
  have hval : ∀ (j : Nat) t v, Tryd.f6.params[j]? = some t → args[j]? = some v → Value.okWide Tryd.prog W .any base t v := hval0
  have hW' := hW
  obtain ⟨p, q, hA0, hV, rfl, hfz, hnd⟩ := hW
  have hA : DataW.TrodAll enc Tryd.prog W 0 (fun _ => true) true Tryd.f6.params.toList args.toList ds p := hA0
  rw [Tryd.params6] at hA hval
  obtain ⟨v0, vs0, d0, ds0, p0, q0, hargs, rfl, rfl, h0, r0⟩ := trodAll_cons hA
  obtain ⟨v1, vs1, d1, ds1, p1, q1, rfl, rfl, rfl, h1, r1⟩ := trodAll_cons r0
  obtain ⟨rfl, rfl, rfl⟩ := trodAll_nil r1
  obtain rfl : args = #[v0, v1] := by cases args; simp_all
  obtain ⟨rfl, rfl⟩ := trodVars_none hV
  obtain ⟨a0, len0, cap0, rfl⟩ := okWide_slice Tryd.underlying22 (hval 0 22 v0 rfl rfl)
  have k0 := h0
  have lt0 : ∀ x ∈ p0, x.block < W.heap.size := by obtain ⟨m, hm⟩ := k0; exact DataW.trod_lt m _ _ _ hm
  obtain ⟨z0, w0⟩ := open_u32s h0
  obtain ⟨a1, len1, cap1, rfl⟩ := okWide_slice Tryd.underlying22 (hval 1 22 v1 rfl rfl)
  have k1 := h1
  have lt1 : ∀ x ∈ p1, x.block < W.heap.size := by obtain ⟨m, hm⟩ := k1; exact DataW.trod_lt m _ _ _ hm
  obtain ⟨z1, w1⟩ := open_u32s h1
  clear hA0 hval0
  refine (walk a0 len0 cap0 z0 a1 len1 cap1 z1 W w0 w1 hT).mono fun e W' ⟨he, bel⟩ => ?_
  subst he
  exact ⟨_, rfl, _, _, _, [], _, [], hW', trodAll_mk1 (shut_bool Tryd.underlying4 _), (trodAll_cons_mk (Below.trod laidOut (by kernel_rfl) (of_decide_eq_true (by kernel_rfl)) k0 bel lt0) (trodAll_cons_mk (Below.trod laidOut (by kernel_rfl) (of_decide_eq_true (by kernel_rfl)) k1 bel lt1) trodAll_mk0)), rfl, bel.frame _, fun h => by cases h⟩
theorem over : Rows.limbBackRow.holds Tryd.pinned (OpenSpec.ofChange Rows.limbBackSpec) :=
  OpenClaim.holds_of_wide 6 Tryd.f6 rfl rfl rfl rfl rfl rfl rfl ⟨rfl, rfl, rfl, rfl, rfl⟩ rfl rfl rfl rfl rfl (by kernel_rfl) Tryd.func6 (by kernel_rfl)
    (of_decide_eq_true (by kernel_rfl)) (by unfold Func.isWrapper; first | (rw [if_pos (by decide +kernel)]; kernel_rfl) | (rw [if_neg (by decide +kernel)]; exact ⟨rfl, rfl⟩))
    (fun os started H enc _ => lifted os started H enc)
/-- THE STATEMENT -/
theorem proved : Rows.LimbBackCardSaid :=
  Claim7.holds_tied_plain_at .later [] [.data, .data, .data] true (true, "ea8df5c1a0e302ec682270425c9a8cf6ae00272b589ccfc6cc1f4d10a9599452") false
    over (fun _ h => by cases h) (by kernel_rfl) (fun _ h => by cases h) limbBack_row_tie rfl ⟨rfl, rfl⟩ (by kernel_rfl) rfl
    (fun f fn hf hfn => by
      obtain rfl : f = 6 := Option.some.inj ((show Tryd.prog.funcNamed "distaff/distafflaw01.LimbBack" = some 6 by kernel_rfl).symm.trans hf) |>.symm
      obtain rfl : fn = Tryd.f6 := (Option.some.inj (Tryd.func6.symm.trans hfn)).symm
      exact ⟨by kernel_rfl, fun j t ht => by
        rw [Tryd.params6] at ht
        have hm : t ∈ [22] := by have := Array.mem_of_getElem? ht; simp at this ⊢; omega
        have hall : ([22].all fun u => !Tryd.prog.wantsStandIn u) = true := by kernel_rfl
        exact (show Tryd.prog.wantsStandIn t = false by simpa using List.all_eq_true.1 hall t hm)⟩)
    (by kernel_rfl)
#print axioms proved
end Go.Proofs.YtladhmbidicncaaDoor.limbBack
