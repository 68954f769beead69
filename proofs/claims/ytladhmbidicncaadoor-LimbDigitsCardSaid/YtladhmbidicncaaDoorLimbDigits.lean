/- LimbDigits: the digits of a number are read as it; with zeros ahead, too; they are as many as its size asks. No condition. The row lists three tables of Go's library, tied to the program's text by the card. -/
import Derived.Test.YtladhmbidicncaaDoorLawC
namespace Go.Proofs.YtladhmbidicncaaDoor.limbDigits
open Go.ChangeShapes Go.WideShapes Go.RowKit Go.Proofs.YtladhmbidicncaaDoor
theorem allDig_zeros (k : Nat) (n : Nat) : allDig (List.replicate k 48 ++ Lib.decDigits n) = true := by
  unfold allDig
  rw [List.all_append, Bool.and_eq_true, List.all_eq_true, List.all_eq_true]
  exact ⟨fun c hc => by rw [List.eq_of_mem_replicate hc]; rfl, fun c hc => dec_dig n c hc⟩
theorem parseE_zeros (k n : Nat) (hk : k ≤ 50) (hf : fits n = true) : parseE (List.replicate k 48 ++ Lib.decDigits n) = 0 ∧ numOf (List.replicate k 48 ++ Lib.decDigits n) = n := by
  have h1 := fits_dec hf
  have h2 := dec_ne n
  have h3 : numOf (List.replicate k 48 ++ Lib.decDigits n) = n := by rw [numOf_zeros, numOf_dec]
  refine ⟨?_, h3⟩
  unfold parseE
  rw [if_neg, h3, hf]
  · rfl
  · rintro (h | h | h)
    · rw [List.length_append] at h; omega
    · rw [List.length_append, List.length_replicate] at h; omega
    · rw [allDig_zeros] at h; cases h
set_option maxRecDepth 100000 in
set_option maxHeartbeats 4000000 in
theorem walk (a1 : Option Addr) (n1 c1 : Nat) (L : List Nat) (z : Int) (W : World) (h1 : InA W a1 n1 c1 L) (_ : (Lit.int .i64 z).wf = true) (hT : Tab W) :
    Calls Tryd.prog 9 #[.slice a1 n1 c1, .int .i64 z] W fun e W' => e = .returned (.bool true) ∧ Below W.heap.size W W' := by
  have HT := Lib.hid hT
  have H1 := Lib.hid h1
  clear hT h1
  by_cases g1 : 64 < n1
  · go_enter Tryd.func9, Tryd.ntmps9
    go_wp2_with fail
    refine (limbAlive_c W HT.out).mono ?_
    rintro e w1 ⟨rfl, F1⟩
    have F1 := Lib.hid F1
    go_wp2
    go_ret
    exact ⟨rfl, F1.out.below⟩
  · by_cases g2 : z < 0
    · go_enter Tryd.func9, Tryd.ntmps9
      go_wp2_with fail
      refine (limbAlive_c W HT.out).mono ?_
      rintro e w1 ⟨rfl, F1⟩
      have F1 := Lib.hid F1
      go_wp2
      go_ret
      exact ⟨rfl, F1.out.below⟩
    · by_cases g3 : 50 < z
      · go_enter Tryd.func9, Tryd.ntmps9
        go_wp2_with fail
        refine (limbAlive_c W HT.out).mono ?_
        rintro e w1 ⟨rfl, F1⟩
        have F1 := Lib.hid F1
        go_wp2
        go_ret
        exact ⟨rfl, F1.out.below⟩
      · have A1 := Lib.hid (H1.out.in (by omega))
        have e1 := H1.out.len
        subst e1
        clear H1
        obtain ⟨kz, rfl⟩ : ∃ kz : Nat, z = kz := ⟨z.toNat, by omega⟩
        have hkz : kz ≤ 50 := by omega
        obtain ⟨n, hn⟩ : ∃ n, n = val L := ⟨_, rfl⟩
        have HN := Lib.hid hn
        have hfn : fits n = true := by
          rw [fits_len, decide_eq_true_eq, HN.out]; exact Nat.le_trans (lims_len_val A1.out.lim) (by omega)
        have HTX : Hid (textOf n = Lib.decDigits n) := Lib.hid (by unfold textOf; rw [if_pos hfn])
        have hdl := fits_dec hfn
        have hdn := dec_ne n
        have PZ := Lib.hid (fun k (hk : k ≤ 50) => parseE_zeros k n hk hfn)
        have RES : Hid (∀ k, k ≤ 50 → ∀ W', Calls Tryd.prog 36 #[.string ⟨(List.replicate k 48 ++ Lib.decDigits n).toArray⟩] W' fun e w' => ∃ a c, e = .returned (.tuple #[.slice a (lims n).length c, .int .i64 0]) ∧ In w' a c (lims n) ∧ Fr [] W' w') := Lib.hid (fun k hk W' => (lparse_c W' _ (by simp; omega)).mono (fun e w' h => by
          unfold ParseR at h
          rw [if_pos (PZ.out k hk).1, (PZ.out k hk).2] at h
          obtain ⟨a, c, h1, h2, h3⟩ := h
          exact ⟨a, c, h1, h2.in, h3⟩))
        have HD : Hid ((n = 0 ∧ Lib.decDigits n = [48]) ∨ ((Lib.decDigits n)[0]?.getD 0).toNat ≠ 48) := Lib.hid (by
          by_cases h0 : n = 0
          · left; subst h0; exact ⟨rfl, dec_small (by decide)⟩
          · right
            have h := dec_head h0
            rw [List.getElem?_eq_getElem hdn] at h ⊢
            intro he
            apply h
            simp only [Option.getD_some] at he
            congr 1
            exact UInt8.toNat_inj.1 he)
        have CK : Hid (cmpN n n = 0) := Lib.hid (by unfold cmpN; rw [if_neg (by omega), if_neg (by omega)])
        clear hn hfn PZ
        obtain ⟨ds, hds⟩ : ∃ ds, ds = Lib.decDigits n := ⟨_, rfl⟩
        rw [← hds] at HTX hdl hdn RES HD
        have S0 : ∀ W : World, (Instr.index 9 (.string ⟨ds.toArray⟩) (.int .i64 0)).run Tryd.prog W = .ok (.int .u8 ((ds[0]?.getD 0).toNat : Int)) W := fun W => run_str_at ds 0 hdn W
        clear hds
        go_enter Tryd.func9, Tryd.ntmps9
        go_wp2_with fail
        refine (limbAlive_c W HT.out).mono ?_
        rintro e w1 ⟨rfl, F1⟩
        have F1 := Lib.hid F1
        have CT := Lib.hid (ltext_c w1 (A1.out.keep F1.out) (HT.out.fr F1.out))
        rw [← HN.out, HTX.out] at CT
        go_wp2_with fail
        refine CT.out.mono ?_
        rintro e w2 ⟨rfl, F2⟩
        have G2 := Lib.hid (F1.out.same F2)
        have CP := Lib.hid (RES.out 0 (by omega) w2)
        rw [List.replicate_zero, List.nil_append] at CP
        clear F1 CT
        go_wp2_with fail
        refine CP.out.mono ?_
        rintro e w3 ⟨b3, d3, rfl, P3, F3⟩
        have P3 := Lib.hid P3
        have G3 := Lib.hid (G2.out.same F3)
        clear G2 CP
        go_wp2_with fail
        go_loopw [8, 9] (fun s8 s9 wr => ∃ k : Nat, k ≤ kz ∧ s9 = .int .i64 (k : Int) ∧ s8 = .string ⟨(List.replicate k 48 ++ ds).toArray⟩ ∧ wr = w3) (fun _ x _ => kz - (intOf x).toNat)
        case atStart => exact ⟨0, by omega, rfl, by simp, rfl⟩
        case round =>
          obtain ⟨k, hk, rfl, rfl, rfl⟩ := hrel
          by_cases hlt : k < kz
          · have hsz : (ByteArray.mk (List.replicate k 48 ++ ds).toArray).size = k + ds.length := by simp [ByteArray.size]
            have hcat : ∀ W : World, (Op.stringOp .add ⟨#[48]⟩ ⟨(List.replicate k 48 ++ ds).toArray⟩).run Tryd.prog W = .ok (.string ⟨(List.replicate (k + 1) 48 ++ ds).toArray⟩) W := fun W => by
              have := run_string_add_sum (P := Tryd.prog) W ⟨[48].toArray⟩ ⟨(List.replicate k 48 ++ ds).toArray⟩ (by rw [hsz]; simp [ByteArray.size]; omega)
              rw [ByteArray.mk_append_mk] at this
              rw [List.replicate_succ]
              exact this
            obtain ⟨s1, hs1⟩ : ∃ s1 : ByteArray, s1 = ⟨(List.replicate k 48 ++ ds).toArray⟩ := ⟨_, rfl⟩
            obtain ⟨s2, hs2⟩ : ∃ s2 : ByteArray, s2 = ⟨(List.replicate (k + 1) 48 ++ ds).toArray⟩ := ⟨_, rfl⟩
            have HS2 := Lib.hid hs2
            rw [← hs1, ← hs2] at hcat
            rw [← hs1]
            rw [← hs1] at hsz
            have hs3 : s1.size ≤ 1000 := by omega
            clear hs1 hs2 hsz
            go_wp2
            go_roundw
            case rel => exact ⟨k + 1, by omega, by go_num, by rw [HS2.out], by first | rfl | trivial⟩
            case measure => simp [intOf]; omega
          · have hkl : k = kz := by omega
            subst hkl
            have CQ := Lib.hid (RES.out k hkz wr)
            go_wp2_with fail
            refine CQ.out.mono ?_
            rintro e w4 ⟨b4, d4, rfl, P4, F4⟩
            have Q4 := Lib.hid P4
            have P4 := Lib.hid (P3.out.keep F4)
            have G4 := Lib.hid (G3.out.same F4)
            have CC := Lib.hid (lcmp_c w4 P4.out (A1.out.keep G4.out))
            rw [val_lims, ← HN.out, CK.out] at CC
            have CS := Lib.hid (fun W' (h : Fr [] w4 W') => r1same_c W' (P4.out.keep h) (Q4.out.keep h))
            simp only [decide_true] at CS
            clear CQ
            go_wp2_with fail
            refine CC.out.mono ?_
            rintro e w5 ⟨rfl, F5⟩
            have F5 := Lib.hid F5
            go_wp2_with fail
            refine (CS.out w5 F5.out).mono ?_
            rintro e w6 ⟨rfl, F6⟩
            have D := Lib.hid (G4.out.same (F5.out.same F6)).below
            clear F6 CC CS P4 Q4
            rcases HD.out with ⟨_, hd1⟩ | hd1
            · subst hd1
              go_wp2
              go_ret
              exact ⟨rfl, D.out⟩
            · generalize ((ds)[0]?.getD 0).toNat = c0 at *
              have hc0 : ((c0 : Int) != 48) = true := by rw [bne_iff_ne]; omega
              go_wp2
              go_ret
              exact ⟨rfl, D.out⟩
set_option maxRecDepth 100000 in
theorem lifted (os : Os) (started : os.Started) (H : Type) (enc : TypeId × Value → H) :
    ReturnsInHanded {} Tryd.checked os 9 .any (fun w args => (Rows.limbDigitsSpec.pre enc Tryd.prog Tryd.f9 [] false w args ∧ laidMetH Tryd.prog listed w) ∧ sizedMet enc Tryd.prog Tryd.f9 (OpenSpec.ofChange Rows.limbDigitsSpec) false w args) (Rows.limbDigitsSpec.post enc Tryd.prog Tryd.f9 false true false false) := by
  refine returnsInHanded_of_change_and (C := Tryd.checked) (X := fun w _ => laidMetH Tryd.prog listed w) (fun _ _ _ hh h => h.of_heap hh) own started (by kernel_rfl) Tryd.func9
    (ChangeSpec.witness_shaped (enc := enc) (C := Tryd.checked) (os := os) (X := fun w _ => laidMetH Tryd.prog listed w) false (World.doorLaid Tryd.prog 24 os) #[.slice none 0 0, .int .i64 0] 8 rfl (World.shaped_of_RefB (by kernel_rfl) (by kernel_rfl)) (by kernel_rfl) (by kernel_rfl) (by kernel_rfl) (door_met os _)) ?_
  intro W base args ds gs before hval0 hW _ _ hL _
  have hT := tab_of_laid hL
  have hval : ∀ (j : Nat) t v, Tryd.f9.params[j]? = some t → args[j]? = some v → Value.okWide Tryd.prog W .any base t v := hval0
  have hW' := hW
  obtain ⟨p, q, hA0, hV, rfl, hfz, hnd⟩ := hW
  have hA : DataW.TrodAll enc Tryd.prog W 0 (fun _ => true) true Tryd.f9.params.toList args.toList ds p := hA0
  rw [Tryd.params9] at hA hval
  obtain ⟨v0, vs0, d0, ds0, p0, q0, hargs, rfl, rfl, h0, r0⟩ := trodAll_cons hA
  obtain ⟨v1, vs1, d1, ds1, p1, q1, rfl, rfl, rfl, h1, r1⟩ := trodAll_cons r0
  obtain ⟨rfl, rfl, rfl⟩ := trodAll_nil r1
  obtain rfl : args = #[v0, v1] := by cases args; simp_all
  obtain ⟨rfl, rfl⟩ := trodVars_none hV
  obtain ⟨a0, len0, cap0, rfl⟩ := okWide_slice Tryd.underlying22 (hval 0 22 v0 rfl rfl)
  have k0 := h0
  have lt0 : ∀ x ∈ p0, x.block < W.heap.size := by obtain ⟨m, hm⟩ := k0; exact DataW.trod_lt m _ _ _ hm
  obtain ⟨z0, w0⟩ := open_u32s h0
  obtain ⟨a1, rfl, rfl, rfl, w1⟩ := open_int Tryd.underlying3 (hval 1 3 v1 rfl rfl) h1
  clear hA0 hval0
  refine (walk a0 len0 cap0 z0 a1 W w0 w1 hT).mono fun e W' ⟨he, bel⟩ => ?_
  subst he
  exact ⟨_, rfl, _, _, _, [], _, [], hW', trodAll_mk1 (shut_bool Tryd.underlying4 _), (trodAll_cons_mk (Below.trod laidOut (by kernel_rfl) (of_decide_eq_true (by kernel_rfl)) k0 bel lt0) (trodAll_cons_mk (shut_int Tryd.underlying3 w1) trodAll_mk0)), rfl, bel.frame _, fun h => by cases h⟩
theorem over : Rows.limbDigitsRow.holds Tryd.pinned (OpenSpec.ofChange Rows.limbDigitsSpec) :=
  OpenClaim.holds_of_wide 9 Tryd.f9 rfl rfl rfl rfl rfl rfl rfl ⟨rfl, rfl, rfl, rfl, rfl⟩ rfl rfl rfl rfl rfl (by kernel_rfl) Tryd.func9 (by kernel_rfl)
    (of_decide_eq_true (by kernel_rfl)) (by unfold Func.isWrapper; first | (rw [if_pos (by decide +kernel)]; kernel_rfl) | (rw [if_neg (by decide +kernel)]; exact ⟨rfl, rfl⟩))
    (fun os started H enc _ => lifted os started H enc)
/-- THE STATEMENT -/
theorem proved : Rows.LimbDigitsCardSaid :=
  Claim7.holds_tied_plain_at .later [] [.data, .data, .data] true (true, "ea8df5c1a0e302ec682270425c9a8cf6ae00272b589ccfc6cc1f4d10a9599452") false
    over (fun _ h => by cases h) (by kernel_rfl) (fun _ h => by cases h) limbDigits_row_tie rfl ⟨rfl, rfl⟩ (by kernel_rfl) rfl
    (fun f fn hf hfn => by
      obtain rfl : f = 9 := Option.some.inj ((show Tryd.prog.funcNamed "distaff/distafflaw01.LimbDigits" = some 9 by kernel_rfl).symm.trans hf) |>.symm
      obtain rfl : fn = Tryd.f9 := (Option.some.inj (Tryd.func9.symm.trans hfn)).symm
      exact ⟨by kernel_rfl, fun j t ht => by
        rw [Tryd.params9] at ht
        have hm : t ∈ [22, 3] := by simpa using Array.mem_of_getElem? ht
        have hall : ([22, 3].all fun u => !Tryd.prog.wantsStandIn u) = true := by kernel_rfl
        exact (show Tryd.prog.wantsStandIn t = false by simpa using List.all_eq_true.1 hall t hm)⟩)
    (by kernel_rfl)
#print axioms proved
end Go.Proofs.YtladhmbidicncaaDoor.limbDigits
