/- Limbs: a division by two limbs or more. -/
import Derived.Test.YtjdanblijcdllaaGreatDoorLimbI
import Derived.Test.YtjdanblijcdllaaGreatDoorShelf
set_option linter.all false
namespace Go.Proofs.YtjdanblijcdllaaGreatDoor
open Go.ChangeShapes Go.WideShapes Go.RowKit
variable {w w' w2 wr : World} {a b : Option Addr} {cap cap2 : Nat} {L M : List Nat} {B : Nat}
theorem lz_c (x : Nat) (w : World) (h0 : x ≠ 0) (h : x < 4294967296) : Calls Tryz.prog 173 #[.int .u32 (x : Int)] w fun e w' => (∃ s : Nat, e = .returned (.int .i64 (s : Int)) ∧ s < 32 ∧ 2147483648 ≤ x * 2 ^ s ∧ x * 2 ^ s < 4294967296) ∧ w = w' := by
  refine (Tryz.bits_LeadingZeros32 (x : Int) w (by omega) (by omega)).mono ?_
  rintro e w' ⟨rfl, rfl⟩
  obtain ⟨s, hs, h1, h2, h3⟩ := lz_bounds x h0 h
  rw [Int.toNat_natCast]
  exact ⟨⟨s, ret_int hs, h1, h2, h3⟩, rfl⟩
theorem Nw.up {g : Nat} (h : Nw w B (some ⟨g, 0, none⟩) cap L) : Nw w g (some ⟨g, 0, none⟩) cap L := by
  obtain ⟨cur, hb, _, h1, h2, h3, h4, _⟩ := own_blk h.own
  exact ⟨own_mk hb (Nat.le_refl _) h1 h2 h3 h4, h.lim, h.sm⟩
def LongR (w : World) (n m : Nat) (e : Ending) (w' : World) : Prop := ∃ a1 c1 O a2 c2 R, e = .returned (.tuple #[.slice a1 O.length c1, .slice a2 R.length c2]) ∧ val O = n / m ∧ val R = n % m ∧ In w' a1 c1 O ∧ In w' a2 c2 R ∧ Fr [] w w'
set_option maxHeartbeats 4000000 in
set_option maxRecDepth 100000 in
theorem llong_c (w : World) (n m l : Nat) (ha : In w a cap (lims n)) (hb : In w b cap2 (lims m)) (hlb : (lims m).length = l + 2) (hla : (lims m).length ≤ (lims n).length) (h64 : (lims n).length ≤ 64) :
    Calls Tryz.prog 143 #[.slice a (lims n).length cap, .slice b (lims m).length cap2] w (LongR w n m) := by
  have hbl : l + 1 < (lims m).length := by omega
  obtain ⟨bb, bo, rfl, bl, bc⟩ := hb.at hbl
  have htop := top_lims m (l + 1) (by omega)
  have hxb := lim_get (lim_lims m) (l + 1)
  have hm0 : m ≠ 0 := by rintro rfl; simp [lims_zero] at hlb
  have LZ := Lib.hid (fun W => lz_c _ W htop hxb)
  obtain ⟨x, hx⟩ : ∃ x, x = (lims m)[l + 1]?.getD 0 := ⟨_, rfl⟩
  rw [← hx] at LZ bc hxb htop
  have HXE := Lib.hid hx
  have HA := Lib.hid ha
  have HB := Lib.hid hb
  obtain ⟨la, hlae⟩ : ∃ la, la = (lims n).length := ⟨_, rfl⟩
  have HLA := Lib.hid hlae
  have HLB := Lib.hid hlb
  rw [hlb]
  rw [← hlae] at hla h64 ⊢
  rw [hlb] at hla
  have ll1 : ((l : Int) + 2 - 1) = (l : Int) + 1 := by omega
  clear hx ha hb hlae hlb hbl
  go_enter Tryz.func143, Tryz.ntmps143
  go_wp2_with fail
  refine (LZ.out _).mono ?_
  rintro e w' ⟨⟨s, rfl, hs1, hs2, hs3⟩, rfl⟩
  have SA := Lib.hid (fun W (hW : Fr [] w W) => lshift_c W (HA.out.keep hW) (by rw [← HLA.out]; omega) s hs1)
  have SB := Lib.hid (fun W (hW : Fr [] w W) => lshift_c W (HB.out.keep hW) (by rw [HLB.out]; omega) s hs1)
  rw [← HLA.out, val_lims] at SA
  rw [HLB.out, val_lims] at SB
  have HS2 := Lib.hid hs2
  have HS3 := Lib.hid hs3
  have f0 : Fr [] w w.drew := (Fr.refl _ _).drew
  have hl2I : (0 : Int) ≤ (l : Int) + 2 := by omega
  have tok : True := trivial
  clear hs2 hs3 LZ
  go_wp2_with fail
  go_region_held3 (fun _ => True) (trivial) (first | (go_at_call 174; have t_ := tok; refine (SA.out _ f0).mono ?_; clear tok t_; rintro e w1 ⟨au, cu, U, rfl, hUl, hUv, hUn, hUF⟩; obtain ⟨gu, rfl, hgu1, hgu2⟩ := hUn.at (i := 0) (by omega); rw [hUl]; have UN := Lib.hid hUn; have UF := Lib.hid (f0.same hUF); have UL := Lib.hid hUl; have UV := Lib.hid hUv; clear hUn hUF hUl hUv) | (go_at_call 174; refine (SB.out _ UF.out).mono ?_; rintro e w2 ⟨av, cv, V0, rfl, hVl, hVv, hVn, hVF⟩; obtain ⟨gv, rfl, hgv1, hgv2⟩ := hVn.at (i := 0) (by omega); rw [hVl]; have hcv : l + 2 ≤ cv := (by have := hVn.le.1; omega); have hcvI : (l : Int) + 2 ≤ (cv : Int) := (by omega); have UN2 := Lib.hid (UN.out.keep hVF); have VN := Lib.hid hVn; have VF := Lib.hid (UF.out.same hVF); have VL := Lib.hid hVl; have VV := Lib.hid hVv; clear hVn hVF hVl hVv))
  have MK : ∀ W : World, (Instr.makeSlice 23 (.int .i64 ((la : Int) - ((l : Int) + 2) + 1)) (.int .i64 ((la : Int) - ((l : Int) + 2) + 1))).run Tryz.prog W = .ok (.slice (some ⟨W.heap.size, 0, none⟩) (la - (l + 2) + 1) (la - (l + 2) + 1)) (W.alloc (.cells (lc (nils (la - (l + 2) + 1))).toArray 108)) := fun W => by
    have := run_u32s W (la - (l + 2) + 1) (la - (l + 2) + 1) (Nat.le_refl _) (by omega)
    rw [show ((la : Int) - ((l : Int) + 2) + 1) = ((la - (l + 2) + 1 : Nat) : Int) by omega]
    exact this
  have hp0 : 0 < 2 ^ s := Nat.pow_pos (by decide)
  have ST := Lib.hid (shift_top HLB.out HXE.out hs1 HS2.out HS3.out)
  obtain ⟨p, hp⟩ : ∃ p, p = 2 ^ s := ⟨_, rfl⟩
  rw [← hp] at UV VV ST hp0
  have HP := Lib.hid hp
  clear hp HS2 HS3
  obtain ⟨V, hV⟩ : ∃ V, V = V0.take (l + 2) := ⟨_, rfl⟩
  have VLEN : Hid (V.length = l + 2) := Lib.hid (by rw [hV, List.length_take, VL.out]; omega)
  have VVAL : Hid (val V = m * p) := Lib.hid (by rw [hV]; exact val_cut VV.out ST.out.2)
  have VN2 : Hid (Nw w2 w.heap.size (some ⟨gv, 0, none⟩) cv V) := Lib.hid (by rw [hV]; exact ((VN.out.take (l + 2) (by rw [VL.out]; omega)).base (by have := UF.out.size; omega)))
  have VTOP : Hid (2147483648 ≤ V[l + 1]?.getD 0) := Lib.hid (top_ge VN2.out.lim VLEN.out (by rw [VVAL.out]; exact ST.out.1))
  have L0 : Hid (LongInv (n * p) (m * p) (nils (la - (l + 2) + 1)) U (la - (l + 2) + 1)) := Lib.hid (by rw [HLA.out]; exact LongInv.start (by rw [← HLA.out]; exact hla) HLB.out hp0 UV.out)
  have UN3 : Hid (Nw w2 w.heap.size (some ⟨gu, 0, none⟩) cu U) := UN2
  have hmp : Hid (0 < m * p) := Lib.hid (Nat.mul_pos (by omega) hp0)
  have hgu3 : w.heap.size ≤ gu := hgu1
  have hw12 : w.heap.size ≤ w1.heap.size := UF.out.size
  clear hV VV UV UN VN UN2 hgu1 VL UF
  obtain ⟨K, hK⟩ : ∃ K, K = la - (l + 2) + 1 := ⟨_, rfl⟩
  rw [← hK] at MK L0
  have HK := Lib.hid hK
  have hK1 : K + l + 1 = la := by omega
  have N0 : Hid (Nw (w2.alloc (.cells (lc (nils K)).toArray 108)) w.heap.size (some ⟨w2.heap.size, 0, none⟩) K (nils K)) := Lib.hid (Nw.made w2 _ _ (by omega) (Nat.le_refl _) (by omega))
  have F0 : Hid (Fr [] w (w2.alloc (.cells (lc (nils K)).toArray 108))) := Lib.hid (VF.out.alloc _)
  have N1 := Lib.hid (UN3.out.keep ((Fr.refl [] _).alloc (.cells (lc (nils K)).toArray 108)))
  have N2 := Lib.hid (VN2.out.keep ((Fr.refl [] _).alloc (.cells (lc (nils K)).toArray 108)))
  have eK : (K : Int) - 1 = (la : Int) - ((l : Int) + 2) := by omega
  clear hK
  go_wp2_with fail
  go_loopw [10, 11] (fun s10 _ wr => ∃ (C O : List Nat) (k : Nat), k ≤ K ∧ s10 = .int .i64 ((k : Int) - 1) ∧ LongInv (n * p) (m * p) O C k ∧ Hid (C.length = la + 1) ∧ Hid (O.length = K) ∧ Hid (Nw wr w.heap.size (some ⟨gu, 0, none⟩) cu C) ∧ Hid (Nw wr w.heap.size (some ⟨gv, 0, none⟩) cv V) ∧ Hid (Nw wr w.heap.size (some ⟨w2.heap.size, 0, none⟩) K O) ∧ Hid (Fr [] w wr)) (fun x _ _ => (intOf x + 1).toNat)
  case atStart => exact ⟨U, nils K, K, Nat.le_refl _, congrArg _ eK.symm, L0.out, UL, Lib.hid (len_nils K), N1, N2, N0, F0⟩
  case round =>
    obtain ⟨C, O, k, hk, rfl, hL, hCl, hOl, hC, hV, hO, hF⟩ := hrel
    cases k with
    | zero =>
      rw [show (((0 : Nat) : Int) - 1) = -1 from rfl]
      have HD := Lib.hid (hL.done hp0)
      have CUT : Hid (val (C.take (l + 2)) = val C) := Lib.hid (val_cut rfl (by have := HD.out.2.2; have := ST.out.2; omega))
      have hcu := hC.out.le.1
      rw [hCl.out] at hcu
      have hcu2 : (l : Int) + 2 ≤ (cu : Int) := by omega
      have TL : Hid ((C.take (l + 2)).length = l + 2) := Lib.hid (by rw [List.length_take, hCl.out]; omega)
      have CB := Lib.hid (lback_c wr gu (hC.out.take (l + 2) (by rw [hCl.out]; omega)).up s hs1)
      rw [TL.out, ← HP.out] at CB
      have DD : Hid (∀ W, Nw W gu (some ⟨gu, 0, none⟩) cu (shrL p (C.take (l + 2))) → Fr [gu] wr W → LongR w n m (.returned (.tuple #[.slice (some ⟨w2.heap.size, 0, none⟩) K K, .slice (some ⟨gu, 0, none⟩) (l + 2) cu])) W) := Lib.hid (fun W h1 h2 => by
        refine ⟨_, _, O, _, _, shrL p (C.take (l + 2)), by rw [hOl.out, len_shrL, TL.out], HD.out.1, ?_, (hO.out.frg h2 (by simp; omega)).in, h1.in, hF.out.trans h2 (by simp; omega)⟩
        rw [val_shrL p (2 ^ (32 - s)) hp0 (by rw [HP.out, ← Nat.pow_add, show s + (32 - s) = 32 by omega]) _ (lim_take hC.out.lim _), CUT.out]
        exact HD.out.2.1)
      clear hL HD CUT hC hV hO hF
      go_wp2_with fail
      refine CB.out.mono ?_
      rintro e W ⟨rfl, h1, h2⟩
      rw [TL.out]
      have D := Lib.hid (DD.out W h1 h2)
      clear h1 h2 DD CB
      go_wp2
      go_ret2
      exact D.out
    | succ j =>
      rw [show (((j + 1 : Nat) : Int) - 1) = (j : Int) from by omega]
      obtain ⟨x1, x2, x3⟩ := hL.window hC.out.lim ST.out.2
      have W2 := Lib.hid x2
      have NX := Lib.hid (fun D (h1 : D.take j = C.take j) (h2 : ∀ k, l + 2 + 1 + j ≤ k → D[k]? = C[k]?) (h3 : win D j (l + 2 + 1) = win C j (l + 2 + 1) % (m * p)) => hL.next (D := D) hC.out.lim ST.out.2 hmp.out (by rw [hOl.out]; omega) h1 h2 h3)
      have c0 := hC.out.cell (i := l + 2 + j) (by rw [hCl.out]; omega)
      have c1 := hC.out.cell (i := l + 1 + j) (by rw [hCl.out]; omega)
      have c2 := hC.out.cell (i := l + j) (by rw [hCl.out]; omega)
      have d1 := hV.out.cell (i := l + 1) (by rw [VLEN.out]; omega)
      have d2 := hV.out.cell (i := l) (by rw [VLEN.out]; omega)
      have h01 : C[l + 2 + j]?.getD 0 ≤ V[l + 1]?.getD 0 := top_le hV.out.lim VLEN.out (by rw [VVAL.out]; exact x2)
      have hv1 : 0 < V[l + 1]?.getD 0 := by have := VTOP.out; omega
      have GS := Lib.hid (fun q => guess_serves (q := q) hV.out.lim hC.out.lim VLEN.out (by rw [VVAL.out]; exact x2) hv1 (by rw [hCl.out]; omega))
      have CG := Lib.hid (lguess_w wr gu gv (la + 1) cu cv (l + 2) j (l + 2 + j) (l + 1 + j) (l + j) (l + 1) l _ _ _ _ _ c0 c1 c2 d1 d2 (by omega) (by omega) (by omega) (by omega) (by omega) (by omega) (by omega) (by omega) (lim_get hC.out.lim _) (lim_get hC.out.lim _) (lim_get hC.out.lim _) (lim_get hV.out.lim _) (lim_get hV.out.lim _) hv1 h01 hC.out.lt.1 hV.out.lt.1)
      clear x1 x2 x3 c0 c1 c2 d1 d2 h01 hv1 hL
      go_wp2_with fail
      refine CG.out.mono ?_
      rintro e W1 ⟨q, rfl, hG, hF1⟩
      have GQ := Lib.hid (GS.out q hG)
      have hqB := hG.lt
      have C1 := Lib.hid (hC.out.keep hF1)
      have V1 := Lib.hid (hV.out.keep hF1)
      have O1 := Lib.hid (hO.out.keep hF1)
      have FF1 := Lib.hid (hF.out.same hF1)
      have CT := Lib.hid (ltake_c W1 gu gv cu cv C V C1.out V1.out (by omega) j q hqB (by rw [VLEN.out, hCl.out]; omega))
      rw [VLEN.out, hCl.out] at CT
      clear CG GS hG hF1 hC hV hO hF
      go_wp2_with fail
      refine CT.out.mono ?_
      rintro e W2' ⟨C', bo, rfl, hWn, hWv, hC', hF2⟩
      rw [VLEN.out] at hWn hWv
      rw [VVAL.out] at hWv
      rw [VVAL.out] at GQ
      have C2 := Lib.hid hC'
      have V2 := Lib.hid (V1.out.frg hF2 (by simp; omega))
      have O2 := Lib.hid (O1.out.frg hF2 (by simp; omega))
      have FF2 : Hid (Fr [] w W2') := Lib.hid (FF1.out.trans hF2 (by simp; omega))
      have C2l : Hid (C'.length = la + 1) := Lib.hid (by rw [hWn.len, hCl.out])
      have BL : Hid (win C' j (l + 2 + 1) < 4294967296 ^ (l + 2 + 1)) := Lib.hid (win_lt C2.out.lim (by rw [C2l.out]; omega))
      have DG := Lib.hid (digit_ok hWv BL.out hmp.out GQ.out.1 GQ.out.2)
      have WN := Lib.hid hWn
      have oc := O2.out.cell (i := j) (by rw [hOl.out]; omega)
      have of_ := O2.out.free j
      have ol := O2.out.lt.1
      generalize O[j]?.getD 0 = oz at *
      clear CT hWn hWv hC' hF2 C1 V1 O1 FF1 W2 GQ
      rcases DG.out with ⟨hb0, hq, hw⟩ | ⟨hb0, hq, hw⟩
      · have L1 := NX.out C' WN.out.lo WN.out.hi hw
        rw [← hq] at L1
        have hbb : decide (bo ≠ 0) = false := by simpa using hb0
        rw [hbb]
        have O3 := Lib.hid (O2.out.set j q hqB)
        have C3 := Lib.hid (C2.out.frg ((Fr.refl [w2.heap.size] W2').setCell (b := w2.heap.size) (i := j) (by simp) (.int .u32 (q : Int))) (by simp; omega))
        have V3 := Lib.hid (V2.out.frg ((Fr.refl [w2.heap.size] W2').setCell (b := w2.heap.size) (i := j) (by simp) (.int .u32 (q : Int))) (by simp; omega))
        have FF3 : Hid (Fr [] w (W2'.setCell ⟨w2.heap.size, j, none⟩ (.int .u32 (q : Int)))) := Lib.hid (FF2.out.setCell (.inr (by omega)) _)
        have O3l : Hid ((O.set j q).length = K) := Lib.hid (by rw [List.length_set, hOl.out])
        clear NX DG WN hq hw hbb hb0 BL C2 V2 O2 FF2
        go_wp2
        go_roundw
        case rel => exact ⟨C', O.set j q, j, by omega, rfl, L1, C2l, O3l, C3, V3, O3, FF3⟩
        case measure => simp [intOf]
      · have hbb : decide (bo ≠ 0) = true := by simpa using hb0
        rw [hbb]
        obtain ⟨Q, hQ⟩ : ∃ Q, Q = win C j (l + 2 + 1) / (m * p) := ⟨_, rfl⟩
        rw [← hQ] at hq NX
        subst hq
        have hQB : Q < 4294967296 := by omega
        have CV := Lib.hid (lgive_c W2' gu gv cu cv C' V C2.out V2.out (by omega) j (by rw [VLEN.out, C2l.out]; omega))
        rw [VLEN.out, C2l.out] at CV
        have eq1 : (((Q + 1 : Nat) : Int) - 1) = (Q : Int) := by omega
        clear hbb hb0 hQ
        go_wp2_with fail
        refine CV.out.mono ?_
        rintro e W3 ⟨C'', b2, rfl, gWn, gWv, gC, gF⟩
        rw [VLEN.out] at gWn gWv
        rw [VVAL.out] at gWv
        have C3l : Hid (C''.length = la + 1) := Lib.hid (by rw [gWn.len, C2l.out])
        have L1 := NX.out C'' (by rw [gWn.lo, WN.out.lo]) (fun k hk => by rw [gWn.hi k hk, WN.out.hi k hk]) (given_back hw gWv (win_lt gC.lim (by rw [C3l.out]; omega)) hmp.out (by
          have h1 := ST.out.2
          rw [show l + 2 + 1 = (l + 2) + 1 from rfl, Nat.pow_succ]
          omega))
        have O3 := Lib.hid ((O2.out.frg gF (by simp; omega)))
        have oc3 := O3.out.cell (i := j) (by rw [hOl.out]; omega)
        have of3 := O3.out.free j
        have ol3 := O3.out.lt.1
        generalize O[j]?.getD 0 = oz3 at *
        have O4 := Lib.hid (O3.out.set j Q hQB)
        have C4 := Lib.hid (gC.frg ((Fr.refl [w2.heap.size] W3).setCell (b := w2.heap.size) (i := j) (by simp) (.int .u32 (Q : Int))) (by simp; omega))
        have V4 := Lib.hid ((V2.out.frg gF (by simp; omega)).frg ((Fr.refl [w2.heap.size] W3).setCell (b := w2.heap.size) (i := j) (by simp) (.int .u32 (Q : Int))) (by simp; omega))
        have FF4 : Hid (Fr [] w (W3.setCell ⟨w2.heap.size, j, none⟩ (.int .u32 (Q : Int)))) := Lib.hid ((FF2.out.trans gF (by simp; omega)).setCell (.inr (by omega)) _)
        have O4l : Hid ((O.set j Q).length = K) := Lib.hid (by rw [List.length_set, hOl.out])
        clear NX DG WN hw BL C2 V2 O2 FF2 oc of_ ol gWn gWv gC gF CV
        go_wp2
        go_roundw
        case rel => exact ⟨C'', O.set j Q, j, by omega, rfl, L1, C3l, O4l, C4, V4, O4, FF4⟩
        case measure => simp [intOf]
end Go.Proofs.YtjdanblijcdllaaGreatDoor
