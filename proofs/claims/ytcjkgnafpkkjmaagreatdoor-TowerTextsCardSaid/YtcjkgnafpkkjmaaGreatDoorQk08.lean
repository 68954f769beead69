/- The texts and numbers of numbers: a part of the walk. No condition. -/
import Derived.Test.YtcjkgnafpkkjmaaGreatDoorQk05
import Derived.Test.YtcjkgnafpkkjmaaGreatDoorQk07
set_option linter.all false
namespace Go.Proofs.YtcjkgnafpkkjmaaGreatDoor
section
open Go.ChangeShapes Go.WideShapes Go.RowKit
variable {w w' w2 wr : World} {a b : Option Addr} {cap cap2 : Nat} {L M : List Nat} {B : Nat}
theorem lz_c (x : Nat) (w : World) (h0 : x ≠ 0) (h : x < 4294967296) : Calls Tryz.prog 127 #[.int .u32 (x : Int)] w fun e w' => (∃ s : Nat, e = .returned (.int .i64 (s : Int)) ∧ s < 32 ∧ 2147483648 ≤ x * 2 ^ s ∧ x * 2 ^ s < 4294967296) ∧ w = w' := by
  refine (Tryz.bits_LeadingZeros32 (x : Int) w (by omega) (by omega)).mono ?_
  rintro e w' ⟨rfl, rfl⟩
  obtain ⟨s, hs, h1, h2, h3⟩ := lz_bounds x h0 h
  rw [Int.toNat_natCast]
  exact ⟨⟨s, ret_int hs, h1, h2, h3⟩, rfl⟩
theorem Nw.up {g : Nat} (h : Nw w B (some ⟨g, 0, none⟩) cap L) : Nw w g (some ⟨g, 0, none⟩) cap L := by
  obtain ⟨cur, hb, _, h1, h2, h3, h4, _⟩ := own_blk h.own
  exact ⟨own_mk hb (Nat.le_refl _) h1 h2 h3 h4, h.lim, h.sm⟩
def LongR (w : World) (n m : Nat) (e : Ending) (w' : World) : Prop := ∃ a1 c1 O a2 c2 R, e = .returned (.tuple #[.slice a1 O.length c1, .slice a2 R.length c2]) ∧ val O = n / m ∧ val R = n % m ∧ In w' a1 c1 O ∧ In w' a2 c2 R ∧ Fr [] w w'
set_option maxHeartbeats 4000000 in
set_option maxRecDepth 100000 in
theorem llong_c (w : World) (n m l : Nat) (ha : In w a cap (lims n)) (hb : In w b cap2 (lims m)) (hlb : (lims m).length = l + 2) (hla : (lims m).length ≤ (lims n).length) (h64 : (lims n).length ≤ 64) :
    Calls Tryz.prog 96 #[.slice a (lims n).length cap, .slice b (lims m).length cap2] w (LongR w n m) := by
  have hbl : l + 1 < (lims m).length := by omega
  obtain ⟨bb, bo, rfl, bl, bc⟩ := hb.at hbl
  have htop := top_lims m (l + 1) (by omega)
  have hxb := lim_get (lim_lims m) (l + 1)
  have hm0 : m ≠ 0 := by rintro rfl; simp [lims_zero] at hlb
  have LZ := Lib.hid (fun W => lz_c _ W htop hxb)
  obtain ⟨x, hx⟩ : ∃ x, x = (lims m)[l + 1]?.getD 0 := ⟨_, rfl⟩
  rw [← hx] at LZ bc hxb htop
  have HXE := Lib.hid hx
  have HA := Lib.hid ha
  have HB := Lib.hid hb
  obtain ⟨la, hlae⟩ : ∃ la, la = (lims n).length := ⟨_, rfl⟩
  have HLA := Lib.hid hlae
  have HLB := Lib.hid hlb
  rw [hlb]
  rw [← hlae] at hla h64 ⊢
  rw [hlb] at hla
  have ll1 : ((l : Int) + 2 - 1) = (l : Int) + 1 := by omega
  clear hx ha hb hlae hlb hbl
  go_enter Tryz.func96, Tryz.ntmps96
  go_wp2_with fail
  refine (LZ.out _).mono ?_
  rintro e w' ⟨⟨s, rfl, hs1, hs2, hs3⟩, rfl⟩
  have SA := Lib.hid (fun W (hW : Fr [] w W) => lshift_c W (HA.out.keep hW) (by rw [← HLA.out]; omega) s hs1)
  have SB := Lib.hid (fun W (hW : Fr [] w W) => lshift_c W (HB.out.keep hW) (by rw [HLB.out]; omega) s hs1)
  rw [← HLA.out, val_lims] at SA
  rw [HLB.out, val_lims] at SB
  have HS2 := Lib.hid hs2
  have HS3 := Lib.hid hs3
  have f0 : Fr [] w w.drew := (Fr.refl _ _).drew
  have hl2I : (0 : Int) ≤ (l : Int) + 2 := by omega
  have tok : True := trivial
  clear hs2 hs3 LZ
  go_wp2_with fail
  go_region_held3 (fun _ => True) (trivial) (first | (go_at_call 128; have t_ := tok; refine (SA.out _ f0).mono ?_; clear tok t_; rintro e w1 ⟨au, cu, U, rfl, hUl, hUv, hUn, hUF⟩; obtain ⟨gu, rfl, hgu1, hgu2⟩ := hUn.at (i := 0) (by omega); rw [hUl]; have UN := Lib.hid hUn; have UF := Lib.hid (f0.same hUF); have UL := Lib.hid hUl; have UV := Lib.hid hUv; clear hUn hUF hUl hUv) | (go_at_call 128; refine (SB.out _ UF.out).mono ?_; rintro e w2 ⟨av, cv, V0, rfl, hVl, hVv, hVn, hVF⟩; obtain ⟨gv, rfl, hgv1, hgv2⟩ := hVn.at (i := 0) (by omega); rw [hVl]; have hcv : l + 2 ≤ cv := (by have := hVn.le.1; omega); have hcvI : (l : Int) + 2 ≤ (cv : Int) := (by omega); have UN2 := Lib.hid (UN.out.keep hVF); have VN := Lib.hid hVn; have VF := Lib.hid (UF.out.same hVF); have VL := Lib.hid hVl; have VV := Lib.hid hVv; clear hVn hVF hVl hVv))
  have MK : ∀ W : World, (Instr.makeSlice 34 (.int .i64 ((la : Int) - ((l : Int) + 2) + 1)) (.int .i64 ((la : Int) - ((l : Int) + 2) + 1))).run Tryz.prog W = .ok (.slice (some ⟨W.heap.size, 0, none⟩) (la - (l + 2) + 1) (la - (l + 2) + 1)) (W.alloc (.cells (lc (nils (la - (l + 2) + 1))).toArray 84)) := fun W => by
    have := run_u32s W (la - (l + 2) + 1) (la - (l + 2) + 1) (Nat.le_refl _) (by omega)
    rw [show ((la : Int) - ((l : Int) + 2) + 1) = ((la - (l + 2) + 1 : Nat) : Int) by omega]
    exact this
  have hp0 : 0 < 2 ^ s := Nat.pow_pos (by decide)
  have ST := Lib.hid (shift_top HLB.out HXE.out hs1 HS2.out HS3.out)
  obtain ⟨p, hp⟩ : ∃ p, p = 2 ^ s := ⟨_, rfl⟩
  rw [← hp] at UV VV ST hp0
  have HP := Lib.hid hp
  clear hp HS2 HS3
  obtain ⟨V, hV⟩ : ∃ V, V = V0.take (l + 2) := ⟨_, rfl⟩
  have VLEN : Hid (V.length = l + 2) := Lib.hid (by rw [hV, List.length_take, VL.out]; omega)
  have VVAL : Hid (val V = m * p) := Lib.hid (by rw [hV]; exact val_cut VV.out ST.out.2)
  have VN2 : Hid (Nw w2 w.heap.size (some ⟨gv, 0, none⟩) cv V) := Lib.hid (by rw [hV]; exact ((VN.out.take (l + 2) (by rw [VL.out]; omega)).base (by have := UF.out.size; omega)))
  have VTOP : Hid (2147483648 ≤ V[l + 1]?.getD 0) := Lib.hid (top_ge VN2.out.lim VLEN.out (by rw [VVAL.out]; exact ST.out.1))
  have L0 : Hid (LongInv (n * p) (m * p) (nils (la - (l + 2) + 1)) U (la - (l + 2) + 1)) := Lib.hid (by rw [HLA.out]; exact LongInv.start (by rw [← HLA.out]; exact hla) HLB.out hp0 UV.out)
  have UN3 : Hid (Nw w2 w.heap.size (some ⟨gu, 0, none⟩) cu U) := UN2
  have hmp : Hid (0 < m * p) := Lib.hid (Nat.mul_pos (by omega) hp0)
  have hgu3 : w.heap.size ≤ gu := hgu1
  have hw12 : w.heap.size ≤ w1.heap.size := UF.out.size
  clear hV VV UV UN VN UN2 hgu1 VL UF
  obtain ⟨K, hK⟩ : ∃ K, K = la - (l + 2) + 1 := ⟨_, rfl⟩
  rw [← hK] at MK L0
  have HK := Lib.hid hK
  have hK1 : K + l + 1 = la := by omega
  have N0 : Hid (Nw (w2.alloc (.cells (lc (nils K)).toArray 84)) w.heap.size (some ⟨w2.heap.size, 0, none⟩) K (nils K)) := Lib.hid (Nw.made w2 _ _ (by omega) (Nat.le_refl _) (by omega))
  have F0 : Hid (Fr [] w (w2.alloc (.cells (lc (nils K)).toArray 84))) := Lib.hid (VF.out.alloc _)
  have N1 := Lib.hid (UN3.out.keep ((Fr.refl [] _).alloc (.cells (lc (nils K)).toArray 84)))
  have N2 := Lib.hid (VN2.out.keep ((Fr.refl [] _).alloc (.cells (lc (nils K)).toArray 84)))
  have eK : (K : Int) - 1 = (la : Int) - ((l : Int) + 2) := by omega
  clear hK
  go_wp2_with fail
  go_loopw [10, 11] (fun s10 _ wr => ∃ (C O : List Nat) (k : Nat), k ≤ K ∧ s10 = .int .i64 ((k : Int) - 1) ∧ LongInv (n * p) (m * p) O C k ∧ Hid (C.length = la + 1) ∧ Hid (O.length = K) ∧ Hid (Nw wr w.heap.size (some ⟨gu, 0, none⟩) cu C) ∧ Hid (Nw wr w.heap.size (some ⟨gv, 0, none⟩) cv V) ∧ Hid (Nw wr w.heap.size (some ⟨w2.heap.size, 0, none⟩) K O) ∧ Hid (Fr [] w wr)) (fun x _ _ => (intOf x + 1).toNat)
  case atStart => exact ⟨U, nils K, K, Nat.le_refl _, congrArg _ eK.symm, L0.out, UL, Lib.hid (len_nils K), N1, N2, N0, F0⟩
  case round =>
    obtain ⟨C, O, k, hk, rfl, hL, hCl, hOl, hC, hV, hO, hF⟩ := hrel
    cases k with
    | zero =>
      rw [show (((0 : Nat) : Int) - 1) = -1 from rfl]
      have HD := Lib.hid (hL.done hp0)
      have CUT : Hid (val (C.take (l + 2)) = val C) := Lib.hid (val_cut rfl (by have := HD.out.2.2; have := ST.out.2; omega))
      have hcu := hC.out.le.1
      rw [hCl.out] at hcu
      have hcu2 : (l : Int) + 2 ≤ (cu : Int) := by omega
      have TL : Hid ((C.take (l + 2)).length = l + 2) := Lib.hid (by rw [List.length_take, hCl.out]; omega)
      have CB := Lib.hid (lback_c wr gu (hC.out.take (l + 2) (by rw [hCl.out]; omega)).up s hs1)
      rw [TL.out, ← HP.out] at CB
      have DD : Hid (∀ W, Nw W gu (some ⟨gu, 0, none⟩) cu (shrL p (C.take (l + 2))) → Fr [gu] wr W → LongR w n m (.returned (.tuple #[.slice (some ⟨w2.heap.size, 0, none⟩) K K, .slice (some ⟨gu, 0, none⟩) (l + 2) cu])) W) := Lib.hid (fun W h1 h2 => by
        refine ⟨_, _, O, _, _, shrL p (C.take (l + 2)), by rw [hOl.out, len_shrL, TL.out], HD.out.1, ?_, (hO.out.frg h2 (by simp; omega)).in, h1.in, hF.out.trans h2 (by simp; omega)⟩
        rw [val_shrL p (2 ^ (32 - s)) hp0 (by rw [HP.out, ← Nat.pow_add, show s + (32 - s) = 32 by omega]) _ (lim_take hC.out.lim _), CUT.out]
        exact HD.out.2.1)
      clear hL HD CUT hC hV hO hF
      go_wp2_with fail
      refine CB.out.mono ?_
      rintro e W ⟨rfl, h1, h2⟩
      rw [TL.out]
      have D := Lib.hid (DD.out W h1 h2)
      clear h1 h2 DD CB
      go_wp2
      go_ret2
      exact D.out
    | succ j =>
      rw [show (((j + 1 : Nat) : Int) - 1) = (j : Int) from by omega]
      obtain ⟨x1, x2, x3⟩ := hL.window hC.out.lim ST.out.2
      have W2 := Lib.hid x2
      have NX := Lib.hid (fun D (h1 : D.take j = C.take j) (h2 : ∀ k, l + 2 + 1 + j ≤ k → D[k]? = C[k]?) (h3 : win D j (l + 2 + 1) = win C j (l + 2 + 1) % (m * p)) => hL.next (D := D) hC.out.lim ST.out.2 hmp.out (by rw [hOl.out]; omega) h1 h2 h3)
      have c0 := hC.out.cell (i := l + 2 + j) (by rw [hCl.out]; omega)
      have c1 := hC.out.cell (i := l + 1 + j) (by rw [hCl.out]; omega)
      have c2 := hC.out.cell (i := l + j) (by rw [hCl.out]; omega)
      have d1 := hV.out.cell (i := l + 1) (by rw [VLEN.out]; omega)
      have d2 := hV.out.cell (i := l) (by rw [VLEN.out]; omega)
      have h01 : C[l + 2 + j]?.getD 0 ≤ V[l + 1]?.getD 0 := top_le hV.out.lim VLEN.out (by rw [VVAL.out]; exact x2)
      have hv1 : 0 < V[l + 1]?.getD 0 := by have := VTOP.out; omega
      have GS := Lib.hid (fun q => guess_serves (q := q) hV.out.lim hC.out.lim VLEN.out (by rw [VVAL.out]; exact x2) hv1 (by rw [hCl.out]; omega))
      have CG := Lib.hid (lguess_w wr gu gv (la + 1) cu cv (l + 2) j (l + 2 + j) (l + 1 + j) (l + j) (l + 1) l _ _ _ _ _ c0 c1 c2 d1 d2 (by omega) (by omega) (by omega) (by omega) (by omega) (by omega) (by omega) (by omega) (lim_get hC.out.lim _) (lim_get hC.out.lim _) (lim_get hC.out.lim _) (lim_get hV.out.lim _) (lim_get hV.out.lim _) hv1 h01 hC.out.lt.1 hV.out.lt.1)
      clear x1 x2 x3 c0 c1 c2 d1 d2 h01 hv1 hL
      go_wp2_with fail
      refine CG.out.mono ?_
      rintro e W1 ⟨q, rfl, hG, hF1⟩
      have GQ := Lib.hid (GS.out q hG)
      have hqB := hG.lt
      have C1 := Lib.hid (hC.out.keep hF1)
      have V1 := Lib.hid (hV.out.keep hF1)
      have O1 := Lib.hid (hO.out.keep hF1)
      have FF1 := Lib.hid (hF.out.same hF1)
      have CT := Lib.hid (ltake_c W1 gu gv cu cv C V C1.out V1.out (by omega) j q hqB (by rw [VLEN.out, hCl.out]; omega))
      rw [VLEN.out, hCl.out] at CT
      clear CG GS hG hF1 hC hV hO hF
      go_wp2_with fail
      refine CT.out.mono ?_
      rintro e W2' ⟨C', bo, rfl, hWn, hWv, hC', hF2⟩
      rw [VLEN.out] at hWn hWv
      rw [VVAL.out] at hWv
      rw [VVAL.out] at GQ
      have C2 := Lib.hid hC'
      have V2 := Lib.hid (V1.out.frg hF2 (by simp; omega))
      have O2 := Lib.hid (O1.out.frg hF2 (by simp; omega))
      have FF2 : Hid (Fr [] w W2') := Lib.hid (FF1.out.trans hF2 (by simp; omega))
      have C2l : Hid (C'.length = la + 1) := Lib.hid (by rw [hWn.len, hCl.out])
      have BL : Hid (win C' j (l + 2 + 1) < 4294967296 ^ (l + 2 + 1)) := Lib.hid (win_lt C2.out.lim (by rw [C2l.out]; omega))
      have DG := Lib.hid (digit_ok hWv BL.out hmp.out GQ.out.1 GQ.out.2)
      have WN := Lib.hid hWn
      have oc := O2.out.cell (i := j) (by rw [hOl.out]; omega)
      have of_ := O2.out.free j
      have ol := O2.out.lt.1
      generalize O[j]?.getD 0 = oz at *
      clear CT hWn hWv hC' hF2 C1 V1 O1 FF1 W2 GQ
      rcases DG.out with ⟨hb0, hq, hw⟩ | ⟨hb0, hq, hw⟩
      · have L1 := NX.out C' WN.out.lo WN.out.hi hw
        rw [← hq] at L1
        have hbb : decide (bo ≠ 0) = false := by simpa using hb0
        rw [hbb]
        have O3 := Lib.hid (O2.out.set j q hqB)
        have C3 := Lib.hid (C2.out.frg ((Fr.refl [w2.heap.size] W2').setCell (b := w2.heap.size) (i := j) (by simp) (.int .u32 (q : Int))) (by simp; omega))
        have V3 := Lib.hid (V2.out.frg ((Fr.refl [w2.heap.size] W2').setCell (b := w2.heap.size) (i := j) (by simp) (.int .u32 (q : Int))) (by simp; omega))
        have FF3 : Hid (Fr [] w (W2'.setCell ⟨w2.heap.size, j, none⟩ (.int .u32 (q : Int)))) := Lib.hid (FF2.out.setCell (.inr (by omega)) _)
        have O3l : Hid ((O.set j q).length = K) := Lib.hid (by rw [List.length_set, hOl.out])
        clear NX DG WN hq hw hbb hb0 BL C2 V2 O2 FF2
        go_wp2
        go_roundw
        case rel => exact ⟨C', O.set j q, j, by omega, rfl, L1, C2l, O3l, C3, V3, O3, FF3⟩
        case measure => simp [intOf]
      · have hbb : decide (bo ≠ 0) = true := by simpa using hb0
        rw [hbb]
        obtain ⟨Q, hQ⟩ : ∃ Q, Q = win C j (l + 2 + 1) / (m * p) := ⟨_, rfl⟩
        rw [← hQ] at hq NX
        subst hq
        have hQB : Q < 4294967296 := by omega
        have CV := Lib.hid (lgive_c W2' gu gv cu cv C' V C2.out V2.out (by omega) j (by rw [VLEN.out, C2l.out]; omega))
        rw [VLEN.out, C2l.out] at CV
        have eq1 : (((Q + 1 : Nat) : Int) - 1) = (Q : Int) := by omega
        clear hbb hb0 hQ
        go_wp2_with fail
        refine CV.out.mono ?_
        rintro e W3 ⟨C'', b2, rfl, gWn, gWv, gC, gF⟩
        rw [VLEN.out] at gWn gWv
        rw [VVAL.out] at gWv
        have C3l : Hid (C''.length = la + 1) := Lib.hid (by rw [gWn.len, C2l.out])
        have L1 := NX.out C'' (by rw [gWn.lo, WN.out.lo]) (fun k hk => by rw [gWn.hi k hk, WN.out.hi k hk]) (given_back hw gWv (win_lt gC.lim (by rw [C3l.out]; omega)) hmp.out (by
          have h1 := ST.out.2
          rw [show l + 2 + 1 = (l + 2) + 1 from rfl, Nat.pow_succ]
          omega))
        have O3 := Lib.hid ((O2.out.frg gF (by simp; omega)))
        have oc3 := O3.out.cell (i := j) (by rw [hOl.out]; omega)
        have of3 := O3.out.free j
        have ol3 := O3.out.lt.1
        generalize O[j]?.getD 0 = oz3 at *
        have O4 := Lib.hid (O3.out.set j Q hQB)
        have C4 := Lib.hid (gC.frg ((Fr.refl [w2.heap.size] W3).setCell (b := w2.heap.size) (i := j) (by simp) (.int .u32 (Q : Int))) (by simp; omega))
        have V4 := Lib.hid ((V2.out.frg gF (by simp; omega)).frg ((Fr.refl [w2.heap.size] W3).setCell (b := w2.heap.size) (i := j) (by simp) (.int .u32 (Q : Int))) (by simp; omega))
        have FF4 : Hid (Fr [] w (W3.setCell ⟨w2.heap.size, j, none⟩ (.int .u32 (Q : Int)))) := Lib.hid ((FF2.out.trans gF (by simp; omega)).setCell (.inr (by omega)) _)
        have O4l : Hid ((O.set j Q).length = K) := Lib.hid (by rw [List.length_set, hOl.out])
        clear NX DG WN hw BL C2 V2 O2 FF2 oc of_ ol gWn gWv gC gF CV
        go_wp2
        go_roundw
        case rel => exact ⟨C'', O.set j Q, j, by omega, rfl, L1, C3l, O4l, C4, V4, O4, FF4⟩
        case measure => simp [intOf]
theorem val_two (n : Nat) : val [n % 4294967296, n / 4294967296] = n := by simp only [val]; omega
theorem lof_c (w : World) (n : Nat) (hn : n < 18446744073709551616) : Calls Tryz.prog 51 #[.int .u64 (n : Int)] w (Gives w (lims n)) := by
  have q1 : ((n : Int) % 4294967296) = ((n % 4294967296 : Nat) : Int) := by omega
  have q2 : ((n : Int) / 4294967296) = ((n / 4294967296 : Nat) : Int) := by omega
  have h1 : n % 4294967296 < 4294967296 := Nat.mod_lt _ (by decide)
  have h2 : n / 4294967296 < 4294967296 := by omega
  have HV := Lib.hid (val_two n)
  have hn2 : n ≤ 18446744073709551615 := by omega
  clear hn
  generalize n % 4294967296 = x at *
  generalize n / 4294967296 = y at *
  have N0 : Hid (Nw (w.alloc (.cells #[.int .u32 (x : Int), .int .u32 (y : Int)] 84)) w.heap.size (some ⟨w.heap.size, 0, none⟩) 2 [x, y]) := Lib.hid (Nw.new w [x, y] 2 _ (Nat.le_refl _) (lim_cons.2 ⟨h1, lim_cons.2 ⟨h2, lim_nil⟩⟩) (by simp) (by simp) (by unfold maxLen; omega) rfl rfl)
  have CT := Lib.hid (ltrim_c _ N0.out.in)
  rw [HV.out] at CT
  clear h1 h2
  go_enter Tryz.func51, Tryz.ntmps51
  go_wp2_with fail
  refine CT.out.mono ?_
  rintro e w3 ⟨a', cap', rfl, hN, hF⟩
  have D := Lib.hid (gives_mk (w := w) (hN.base (by simp)) (((Fr.refl [] w).alloc _).same hF))
  clear hN hF
  go_wp2
  go_ret
  exact D.out
theorem one_of_len {L : List Nat} (h : L.length = 1) : L[0]?.getD 0 = val L := by
  match L, h with
  | [x], _ => simp [val]
def QR (n m q r : Nat) : Prop := n / m = q ∧ n % m = r
def DivR (w : World) (n m : Nat) (e : Ending) (w' : World) : Prop :=
  if (fits n && fits m) = false then e = .returned (.tuple #[.slice none 0 0, .slice none 0 0, .int .i64 11]) ∧ Fr [] w w'
  else if m = 0 then e = .returned (.tuple #[.slice none 0 0, .slice none 0 0, .int .i64 12]) ∧ Fr [] w w'
  else ∃ a1 c1 a2 c2, e = .returned (.tuple #[.slice a1 (lims (n / m)).length c1, .slice a2 (lims (n % m)).length c2, .int .i64 0]) ∧ Nw w' w.heap.size a1 c1 (lims (n / m)) ∧ Nw w' w.heap.size a2 c2 (lims (n % m)) ∧ Fr [] w w'
theorem r1trim_c (w : World) (h : In w a cap L) : Calls Tryz.prog 81 #[.slice a L.length cap] w (Gives w (lims (val L))) := by
  have hsm := h.sm
  cases a with
  | none =>
    have h0 : L = [] := by
      rcases h.rd with h0 | ⟨b, o, h1, _⟩
      · exact h0
      · simp at h1
    subst h0
    clear h
    obtain ⟨L, hLe⟩ : ∃ L : List Nat, L = [] := ⟨_, rfl⟩
    have HL : Hid (Lim L) := Lib.hid (by rw [hLe]; exact lim_nil)
    have N0 : Hid (Nw (w.alloc (.cells #[] 84)) w.heap.size (some ⟨w.heap.size, 0, none⟩) 0 (L.take L.length)) := Lib.hid (by rw [hLe]; exact Nw.made w 0 0 (Nat.le_refl _) (by omega) (by omega))
    have F0 : Hid (Fr [] w (w.alloc (.cells #[] 84))) := Lib.hid ((Fr.refl [] w).alloc _)
    rw [← hLe]
    rw [show L.length = 0 by rw [hLe]; rfl]
    go_enter Tryz.func81, Tryz.ntmps81
    go_wp2
    go_loopw [3] (fun x wr => ∃ (k : Nat) (a3 : Option Addr) (c3 : Nat), k ≤ L.length ∧ x = .slice a3 k c3 ∧ Hid (∀ i, k ≤ i → i < L.length → L[i]?.getD 0 = 0) ∧ Hid (Nw wr w.heap.size a3 c3 (L.take k)) ∧ Hid (Fr [] w wr)) (fun x _ => (match x with | .slice _ n _ => n | _ => 0))
    case atStart => exact ⟨L.length, _, _, Nat.le_refl _, by first | rfl | simp [hLe], Lib.hid (fun i h1 h2 => by omega), N0, F0⟩
    case round =>
      obtain ⟨k, a3, c3, hk, rfl, hz, hN, hF⟩ := hrel
      have DONE : Hid ((k = 0 ∨ L[k - 1]?.getD 0 ≠ 0) → Gives w (lims (val L)) (.returned (.slice a3 k c3)) wr) := Lib.hid (fun ht => by
        have e := trim_done HL.out k hk hz.out ht
        have h3 := hN.out
        rw [e] at h3
        have := gives_mk h3 hF.out
        rw [← e, List.length_take, Nat.min_eq_left hk, e] at this
        exact this)
      cases k with
      | zero =>
        have D := Lib.hid (DONE.out (.inl rfl))
        clear DONE hN hz hF
        go_wp2
        go_ret
        exact D.out
      | succ j =>
        have hlen : (L.take (j + 1)).length = j + 1 := by rw [List.length_take]; omega
        obtain ⟨g, rfl, hg1, hg2⟩ := hN.out.at (i := j) (by rw [hlen]; omega)
        have hgc := hN.out.cell (i := j) (by rw [hlen]; omega)
        rw [List.getElem?_take_of_lt (Nat.lt_succ_self j)] at hgc
        have hcap := hN.out.le.1
        rw [hlen] at hcap
        have hjI : (j : Int) ≤ 100000 := by (have : L.length ≤ 100000 := (by first | exact hsm | simp [hLe])); omega
        have hcapI : (j : Int) + 1 ≤ (c3 : Int) := by omega
        have N1 : Hid (Nw wr w.heap.size (some ⟨g, 0, none⟩) c3 (L.take j)) := Lib.hid (by
          have := hN.out.take j (by rw [hlen]; omega)
          rwa [List.take_take, Nat.min_eq_left (Nat.le_succ j)] at this)
        clear hlen
        by_cases hz1 : L[j]?.getD 0 = 0
        · have hz2 : Hid (∀ i, j ≤ i → i < L.length → L[i]?.getD 0 = 0) := Lib.hid (fun i h1 h2 => by
            by_cases hij : i = j
            · rw [hij]; exact hz1
            · exact hz.out i (by omega) h2)
          rw [hz1] at hgc
          clear DONE hz hz1 hN
          go_wp2
          go_roundw
          case rel => exact ⟨j, _, _, by omega, rfl, hz2, N1, hF⟩
          case measure => simp
        · have D := Lib.hid (DONE.out (.inr (by simpa using hz1)))
          generalize L[j]?.getD 0 = z at *
          have hzb : ((z : Int) == 0) = false := by simpa using hz1
          clear DONE hN hz hz1 N1
          go_wp2
          go_ret
          exact D.out
  | some ad =>
    obtain ⟨b, o, sp⟩ := ad
    obtain ⟨i0, hi, hz0, hz1, hz2⟩ := info_parts info_u32
    have HI := Lib.hid hi
    have Z0 := Lib.hid hz0
    have Z1 := Lib.hid hz1
    have Z2 := Lib.hid hz2
    clear hi hz0 hz1 hz2
    have HC : Hid (∀ j u, (lc L)[j]? = some u → (w.alloc (.cells #[] 84)).cell? ((⟨b, o, sp⟩ : Addr).add j) = some u) := Lib.hid (fun j u hu => by
      have hj : j < L.length := by
        rcases Nat.lt_or_ge j L.length with hh | hh
        · exact hh
        · rw [List.getElem?_eq_none (by rw [len_lc]; exact hh)] at hu; simp at hu
      have h2 := h.keep ((Fr.refl [] w).alloc (.cells #[] 84))
      obtain ⟨b', o', h1, hb, hc⟩ := h2.at hj
      simp only [Option.some.injEq, Addr.mk.injEq] at h1
      obtain ⟨rfl, rfl, rfl⟩ := h1
      rw [lc_get L j hj] at hu
      rw [← hu, ← hc]
      unfold Addr.add
      split
      · subst j; rfl
      · rfl)
    have HL := Lib.hid h.lim
    clear h
    go_enter Tryz.func81, Tryz.ntmps81
    go_wp2_with (at_builtin; refine wpList_append_own _ rfl _ _ 34 rfl w.heap.size 84 i0 (.int .u32 0) 1 4 Tryz.underlying34 HI.out Z0.out Z1.out Z2.out rfl (by decide) (.slice (some ⟨w.heap.size, 0, none⟩) 0 0) 0 [] rfl (World.ownsRow_made w #[] 0 (Nat.le_refl _) (Nat.zero_le _) rfl) ⟨b, o, sp⟩ L.length cap (lc L) rfl (by rw [len_lc, Nat.mul_one]) HC.out (lc_one L) (by unfold maxLen; omega) (by omega) (by simp) ?_; intro v' w1 hown hgrow _)
    have hLe : True := trivial
    rw [Nat.zero_add, List.nil_append] at hown
    obtain ⟨a', cap', rfl⟩ := own_slice hown
    have N0 : Hid (Nw w1 w.heap.size a' cap' (L.take L.length)) := Lib.hid (by rw [List.take_length]; exact Nw.of_own hown HL.out hsm)
    have F0 : Hid (Fr [] w w1) := Lib.hid (((Fr.refl [] w).alloc _).trans ((grown_fr hgrow).mono (T := [w.heap.size]) (by intro x hx; simp [Value.ownBlock] at hx; simp [hx])) (by simp))
    clear hown hgrow HC HI Z0 Z1 Z2
    go_loopw [3] (fun x wr => ∃ (k : Nat) (a3 : Option Addr) (c3 : Nat), k ≤ L.length ∧ x = .slice a3 k c3 ∧ Hid (∀ i, k ≤ i → i < L.length → L[i]?.getD 0 = 0) ∧ Hid (Nw wr w.heap.size a3 c3 (L.take k)) ∧ Hid (Fr [] w wr)) (fun x _ => (match x with | .slice _ n _ => n | _ => 0))
    case atStart => exact ⟨L.length, _, _, Nat.le_refl _, by first | rfl | simp [hLe], Lib.hid (fun i h1 h2 => by omega), N0, F0⟩
    case round =>
      obtain ⟨k, a3, c3, hk, rfl, hz, hN, hF⟩ := hrel
      have DONE : Hid ((k = 0 ∨ L[k - 1]?.getD 0 ≠ 0) → Gives w (lims (val L)) (.returned (.slice a3 k c3)) wr) := Lib.hid (fun ht => by
        have e := trim_done HL.out k hk hz.out ht
        have h3 := hN.out
        rw [e] at h3
        have := gives_mk h3 hF.out
        rw [← e, List.length_take, Nat.min_eq_left hk, e] at this
        exact this)
      cases k with
      | zero =>
        have D := Lib.hid (DONE.out (.inl rfl))
        clear DONE hN hz hF
        go_wp2
        go_ret
        exact D.out
      | succ j =>
        have hlen : (L.take (j + 1)).length = j + 1 := by rw [List.length_take]; omega
        obtain ⟨g, rfl, hg1, hg2⟩ := hN.out.at (i := j) (by rw [hlen]; omega)
        have hgc := hN.out.cell (i := j) (by rw [hlen]; omega)
        rw [List.getElem?_take_of_lt (Nat.lt_succ_self j)] at hgc
        have hcap := hN.out.le.1
        rw [hlen] at hcap
        have hjI : (j : Int) ≤ 100000 := by (have : L.length ≤ 100000 := (by first | exact hsm | simp [hLe])); omega
        have hcapI : (j : Int) + 1 ≤ (c3 : Int) := by omega
        have N1 : Hid (Nw wr w.heap.size (some ⟨g, 0, none⟩) c3 (L.take j)) := Lib.hid (by
          have := hN.out.take j (by rw [hlen]; omega)
          rwa [List.take_take, Nat.min_eq_left (Nat.le_succ j)] at this)
        clear hlen
        by_cases hz1 : L[j]?.getD 0 = 0
        · have hz2 : Hid (∀ i, j ≤ i → i < L.length → L[i]?.getD 0 = 0) := Lib.hid (fun i h1 h2 => by
            by_cases hij : i = j
            · rw [hij]; exact hz1
            · exact hz.out i (by omega) h2)
          rw [hz1] at hgc
          clear DONE hz hz1 hN
          go_wp2
          go_roundw
          case rel => exact ⟨j, _, _, by omega, rfl, hz2, N1, hF⟩
          case measure => simp
        · have D := Lib.hid (DONE.out (.inr (by simpa using hz1)))
          generalize L[j]?.getD 0 = z at *
          have hzb : ((z : Int) == 0) = false := by simpa using hz1
          clear DONE hN hz hz1 N1
          go_wp2
          go_ret
          exact D.out
theorem r1at_c (w : World) (h : In w a cap L) (i : Nat) : Calls Tryz.prog 163 #[.slice a L.length cap, .int .i64 (i : Int)] w fun e w' => e = .returned (.int .u64 ((L[i]?.getD 0 : Nat) : Int)) ∧ w = w' := by
  by_cases hi : i < L.length
  · obtain ⟨b, o, rfl, hb, hc⟩ := h.at hi
    have hz := lim_get h.lim i
    generalize L[i]?.getD 0 = z at *
    have hi' : (i : Int) < (L.length : Int) := by omega
    clear h
    go_enter Tryz.func163, Tryz.ntmps163
    go_wp2
    go_ret
    exact ⟨rfl, rfl⟩
  · rw [List.getElem?_eq_none (by omega)]
    clear h
    go_enter Tryz.func163, Tryz.ntmps163
    go_wp2
    go_ret
    exact ⟨rfl, rfl⟩
theorem r1big_c (w : World) (h : In w a cap L) : Calls Tryz.prog 100 #[.slice a L.length cap] w fun e w' => e = .returned (.bool (!fits (val L))) ∧ Fr [] w w' := by
  have D : Hid (fits (val L) = decide ((lims (val L)).length ≤ 64)) := Lib.hid (fits_len _)
  have H := Lib.hid h
  clear h
  go_enter Tryz.func100, Tryz.ntmps100
  go_wp2_with fail
  refine (r1trim_c w H.out).mono ?_
  rintro e w1 ⟨a1, c1, rfl, N1, F1⟩
  have F1 := Lib.hid F1
  clear N1 H
  go_wp2
  go_ret
  refine ⟨ret_bool ?_, F1.out⟩
  rw [D.out, ← decide_not, decide_eq_decide]; omega
def PlusInv (L M : List Nat) (out : List Nat) (cy : Nat) : Prop := val out + 4294967296 ^ out.length * cy = val (L.take out.length) + val (M.take out.length)
theorem PlusInv.start (L M : List Nat) : PlusInv L M [] 0 := by simp [PlusInv, val]
theorem PlusInv.step {cy : Nat} {out : List Nat} (h : PlusInv L M out cy) :
    PlusInv L M (out ++ [(L[out.length]?.getD 0 + M[out.length]?.getD 0 + cy) % 4294967296]) ((L[out.length]?.getD 0 + M[out.length]?.getD 0 + cy) / 4294967296) := by
  unfold PlusInv at h ⊢
  rw [List.length_append, List.length_singleton, val_snoc, val_take_succ L out.length, val_take_succ M out.length, Nat.pow_succ]
  exact add_step h
theorem PlusInv.done {out : List Nat} (h : PlusInv L M out 0) (h1 : L.length ≤ out.length) (h2 : M.length ≤ out.length) : val out = val L + val M := by
  unfold PlusInv at h
  rw [List.take_of_length_le h1, List.take_of_length_le h2] at h
  simpa using h
set_option maxRecDepth 100000 in
theorem r1plus_c (w : World) (ha : In w a cap L) (hb : In w b cap2 M) (hla : L.length ≤ 90000) (hlb : M.length ≤ 90000) : Calls Tryz.prog 118 #[.slice a L.length cap, .slice b M.length cap2] w (Gives w (lims (val L + val M))) := by
  have HA := Lib.hid ha
  have HB := Lib.hid hb
  clear ha hb
  obtain ⟨i0, hi, hz0, hz1, hz2⟩ := info_parts info_u32
  have HI := Lib.hid hi
  have Z0 := Lib.hid hz0
  have Z1 := Lib.hid hz1
  have Z2 := Lib.hid hz2
  clear hi hz0 hz1 hz2
  obtain ⟨K, hK1, hK2, hK3⟩ : ∃ K, L.length ≤ K ∧ M.length ≤ K ∧ K ≤ 90000 := ⟨max L.length M.length, by omega, by omega, by omega⟩
  have N0 : Hid (Nw (w.alloc (.cells #[] 84)) w.heap.size (some ⟨w.heap.size, 0, none⟩) 0 []) := Lib.hid (Nw.made w 0 0 (Nat.le_refl _) (by omega) (by omega))
  have F0 : Hid (Fr [] w (w.alloc (.cells #[] 84))) := Lib.hid ((Fr.refl [] w).alloc _)
  go_enter Tryz.func118, Tryz.ntmps118
  go_wp2
  go_loopw [5, 6, 7, 8] (fun s5 s6 s7 _ wr => ∃ (out : List Nat) (ao : Option Addr) (co cy : Nat), out.length ≤ K + 1 ∧ (out.length = K + 1 → cy = 0) ∧ s7 = .int .i64 (out.length : Int) ∧ s5 = .slice ao out.length co ∧ s6 = .int .u64 (cy : Int) ∧ cy ≤ 1 ∧ PlusInv L M out cy ∧ Hid (Nw wr w.heap.size ao co out) ∧ Hid (Fr [] w wr)) (fun _ _ x _ _ => K + 1 - (intOf x).toNat)
  case atStart => exact ⟨[], _, _, 0, by simp, by simp, rfl, rfl, rfl, by omega, PlusInv.start L M, N0, F0⟩
  case round =>
    obtain ⟨out, ao, co, cy, ho, hoz, rfl, rfl, rfl, hcy, hV, hN, hF⟩ := hrel
    have SPLIT : out.length < L.length ∨ (¬ out.length < L.length ∧ out.length < M.length) ∨ (¬ out.length < L.length ∧ ¬ out.length < M.length ∧ 0 < cy) ∨ (¬ out.length < L.length ∧ ¬ out.length < M.length ∧ cy = 0) := by omega
    rcases SPLIT with t1 | ⟨t1, t2⟩ | ⟨t1, t2, t3⟩ | ⟨t1, t2, rfl⟩
    case inr.inr.inr =>
      have CT := Lib.hid (r1trim_c wr hN.out.in)
      have e := hV.done (by omega) (by omega)
      rw [e] at CT
      clear hV e
      go_wp2_with fail
      refine CT.out.mono ?_
      rintro e w3 ⟨a3, c3, rfl, h3, f3⟩
      have D := Lib.hid (gives_mk (h3.base hF.out.size) (hF.out.same f3))
      clear h3 f3
      go_wp2
      go_ret
      exact D.out
    all_goals
      have hlen : out.length ≤ K := by
        rcases Nat.lt_or_ge K out.length with hh | hh
        · have := hoz (by omega); omega
        · exact hh
      have X1 := Lib.hid (HA.out.keep (hF.out))
      have Y1 := Lib.hid (HB.out.keep (hF.out))
      have bx := lim_get HA.out.lim out.length
      have by_ := lim_get HB.out.lim out.length
      have CX := Lib.hid (r1at_c wr X1.out out.length)
      have CY := Lib.hid (r1at_c wr Y1.out out.length)
      have VS := Lib.hid hV.step
      have hC : out.length = K → L[out.length]?.getD 0 = 0 ∧ M[out.length]?.getD 0 = 0 := fun h => by
        rw [List.getElem?_eq_none (by omega), List.getElem?_eq_none (by omega)]; exact ⟨rfl, rfl⟩
      generalize L[out.length]?.getD 0 = x at *
      generalize M[out.length]?.getD 0 = y at *
      go_wp2_with fail
      refine CX.out.mono ?_
      rintro e w' ⟨rfl, rfl⟩
      go_wp2_with fail
      refine CY.out.mono ?_
      rintro e w' ⟨rfl, rfl⟩
      clear CX CY X1 Y1 hV
      have hz : (x + y + cy) % 4294967296 < 4294967296 := Nat.mod_lt _ (by decide)
      have hc2 : (x + y + cy) / 4294967296 ≤ 1 := by omega
      have hcz : out.length + 1 = K + 1 → (x + y + cy) / 4294967296 = 0 := fun h => by have := hC (by omega); omega
      have e1 : ((x : Int) + y + cy) % 4294967296 = (((x + y + cy) % 4294967296 : Nat) : Int) := by omega
      have e2 : ((x : Int) + y + cy) / 4294967296 = (((x + y + cy) / 4294967296 : Nat) : Int) := by omega
      generalize (x + y + cy) % 4294967296 = z at *
      generalize (x + y + cy) / 4294967296 = c2 at *
      have V1 := VS.out
      have OW := Lib.hid (nw_alloc hN.out (.cells #[.int .u32 (z : Int)] 84))
      have NW := Lib.hid (heap_alloc_new wr (.cells #[.int .u32 (z : Int)] 84))
      have hBs : w.heap.size ≤ (wr.alloc (.cells #[.int .u32 (z : Int)] 84)).heap.size := by have := hF.out.size; rw [size_alloc]; omega
      clear VS hC
      go_wp2_with (at_builtin; refine wpList_append_lies _ rfl _ _ 34 rfl w.heap.size 84 i0 (.int .u32 0) 1 4 Tryz.underlying34 HI.out Z0.out Z1.out Z2.out rfl (by omega) (.slice ao out.length co) out.length (lc out) rfl OW.out ⟨wr.heap.size, 0, none⟩ 1 1 [.int .u32 (z : Int)] rfl rfl (World.news_of_block NW.out) (by simp [Value.oneCell']) (by omega) (by unfold maxLen; omega) (by omega) hBs _ rfl ?_; intro g5 cap5 w5 own5 gr5 at5 lt5; have Q := Lib.hid (app_step hN.out hF.out (Nat.le_refl _) hz (by omega) own5 gr5); clear own5 gr5 at5)
      go_roundw
      case rel => exact ⟨out ++ [z], _, _, c2, by simp; omega, by simp; omega, by simp, by simp, congrArg _ e2, hc2, V1, Lib.hid Q.out.1, Lib.hid Q.out.2⟩
      case measure => simp [intOf]; omega
end
section
theorem val_take_lt {L : List Nat} (h : Lim L) (k : Nat) : val (L.take k) < 4294967296 ^ k := by
  have h1 := val_lt (lim_take h k)
  have h2 : (L.take k).length ≤ k := by simp; omega
  have h3 : 4294967296 ^ (L.take k).length ≤ 4294967296 ^ k := Nat.pow_le_pow_right (by decide) h2
  omega
theorem val_div_pow {L : List Nat} (h : Lim L) (k : Nat) : val L / 4294967296 ^ k = val (L.drop k) := by
  rw [val_take_drop L k, Nat.add_mul_div_left _ _ (pow_pos' k), Nat.div_eq_of_lt (val_take_lt h k), Nat.zero_add]
theorem bit_of {L : List Nat} (h : Lim L) (k r : Nat) (hr : r < 32) : val L / 2 ^ (32 * k + r) % 2 = L[k]?.getD 0 / 2 ^ r % 2 := by
  have e1 : (2 : Nat) ^ (32 * k + r) = 4294967296 ^ k * 2 ^ r := by rw [Nat.pow_add, Nat.pow_mul]
  rw [e1, ← Nat.div_div_eq_div_mul, val_div_pow h, val_drop]
  generalize val (L.drop (k + 1)) = R
  generalize L[k]?.getD 0 = x
  have e2 : (4294967296 : Nat) = 2 ^ r * (2 * 2 ^ (31 - r)) := by
    rw [← Nat.pow_succ', ← Nat.pow_add, show r + (31 - r + 1) = 32 by omega]
  rw [e2, Nat.mul_assoc, Nat.add_mul_div_left _ _ (Nat.pow_pos (by decide)), Nat.mul_assoc]
  omega
theorem bit_of' {L : List Nat} (h : Lim L) (n : Nat) : val L / 2 ^ n % 2 = L[n / 32]?.getD 0 / 2 ^ (n % 32) % 2 := by
  have := bit_of h (n / 32) (n % 32) (Nat.mod_lt _ (by decide))
  rwa [Nat.div_add_mod] at this
theorem half_step (N j : Nat) : N / 2 ^ j = 2 * (N / 2 ^ (j + 1)) + N / 2 ^ j % 2 := by
  rw [Nat.pow_succ, ← Nat.div_div_eq_div_mul]; omega
theorem all_bits {L : List Nat} (h : Lim L) : val L / 2 ^ (32 * L.length) = 0 := by
  have := val_lt h
  rw [Nat.div_eq_of_lt]
  rw [Nat.pow_mul]; exact this
theorem times_step {A M j b : Nat} (hb : M / 2 ^ j % 2 = b) : A * (M / 2 ^ (j + 1)) + A * (M / 2 ^ (j + 1)) + A * b = A * (M / 2 ^ j) := by
  have := half_step M j
  rw [hb] at this
  rw [this, Nat.mul_add, Nat.two_mul, Nat.mul_add]
theorem lims_one (x : Nat) : val [x] = x := by simp [val]
end
end Go.Proofs.YtcjkgnafpkkjmaaGreatDoor
