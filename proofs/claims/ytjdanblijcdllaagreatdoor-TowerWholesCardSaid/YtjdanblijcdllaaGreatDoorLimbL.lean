/- Limbs: Div, the short divisor. -/
import Derived.Test.YtjdanblijcdllaaGreatDoorLimbK
set_option linter.all false
namespace Go.Proofs.YtjdanblijcdllaaGreatDoor
open Go.ChangeShapes Go.WideShapes Go.RowKit
variable {w w' w2 wr : World} {a b : Option Addr} {cap cap2 : Nat} {L M : List Nat} {B : Nat}
/-- One limb: a plain definition, that no rewriting sees. -/
def Len1 (m : Nat) : Prop := (lims m).length = 1
set_option maxHeartbeats 4000000 in
set_option maxRecDepth 100000 in
theorem ldiv_one (w : World) (ha : In w a cap L) (hb : In w b cap2 M) {n m : Nat} (hn : val L = n) (hm : val M = m) (hx : (lims n).length ≤ 64) (hy : (lims m).length ≤ 64) (hff : (fits n && fits m) = true) (hm0 : m ≠ 0) (hlt : ¬ n < m) (h1' : Len1 m) : Calls Tryz.prog 95 #[.slice a L.length cap, .slice b M.length cap2] w (DivR w n m) := by
  have HA := Lib.hid ha
  have HB := Lib.hid hb
  have HN := Lib.hid hn
  have HM := Lib.hid hm
  have D : Hid (∀ W a1 c1 a2 c2, Nw W w.heap.size a1 c1 (lims (n / m)) → Nw W w.heap.size a2 c2 (lims (n % m)) → Fr [] w W → DivR w n m (.returned (.tuple #[.slice a1 (lims (n / m)).length c1, .slice a2 (lims (n % m)).length c2, .int .i64 0])) W) := Lib.hid (fun W a1 c1 a2 c2 h1 h2 hW => by
    unfold DivR; rw [hff, if_neg (by simp), if_neg hm0]; exact ⟨a1, c1, a2, c2, rfl, h1, h2, hW⟩)
  obtain ⟨q, r, hqr⟩ : ∃ q r, QR n m q r := ⟨_, _, rfl, rfl⟩
  rw [hqr.1, hqr.2] at D
  have HM0 := Lib.hid hm0
  have hlm : 0 < (lims m).length := lims_len_pos.2 hm0
  have hlz : ((((lims m).length : Nat) : Int) == 0) = false := by rw [beq_eq_false_iff_ne]; omega
  have bx : decide (64 < (lims n).length) = false := by simpa using hx
  have by_ : decide (64 < (lims m).length) = false := by simpa using hy
  have BX := Lib.hid bx
  have BY := Lib.hid by_
  clear ha hb hn hm hff hm0 bx by_
  have HC : Hid (cmpN n m = 0 ∨ cmpN n m = 1) := Lib.hid (by unfold cmpN; rw [if_neg hlt]; split; exact .inr rfl; exact .inl rfl)
  have hle := lims_len_le (show m ≤ n by omega)
  go_enter Tryz.func95, Tryz.ntmps95
  go_wp2_with fail
  refine (ltrim_c w HA.out).mono ?_
  rintro e w1 ⟨a1, c1, rfl, N1, F1⟩
  rw [HN.out] at N1 ⊢
  have HB1 := Lib.hid (HB.out.keep F1)
  have N1 := Lib.hid N1
  have F1 := Lib.hid F1
  go_wp2_with fail
  refine (ltrim_c w1 HB1.out).mono ?_
  rintro e w2 ⟨a2, c2, rfl, N2, F2⟩
  rw [HM.out] at N2 ⊢
  have X := Lib.hid (N1.out.keep F2).in
  have Y := Lib.hid N2.in
  have FF := Lib.hid (F1.out.same F2)
  clear N2 F2 F1 N1 HB1 HA HB
  go_wp2_with fail
  refine (lbig_c _ _ _ _).mono ?_
  rintro e w' ⟨rfl, rfl⟩
  rw [BX.out]
  go_wp2_with fail
  refine (lbig_c _ _ _ _).mono ?_
  rintro e w' ⟨rfl, rfl⟩
  rw [BY.out]
  go_wp2_with fail
  refine (order_c w2 _ _ X.out Y.out).mono ?_
  rintro e w3 ⟨rfl, F3⟩
  have X := Lib.hid (X.out.keep F3)
  have Y := Lib.hid (Y.out.keep F3)
  have FF := Lib.hid (FF.out.same F3)
  clear F3
  have h1 : (lims m).length = 1 := h1'
  obtain ⟨bb, bo, rfl, bl, bc⟩ := Y.out.at (i := 0) (by omega)
  have HMV := Lib.hid (one_of_len h1)
  rw [HMV.out, val_lims, Nat.add_zero] at bc
  have hm32 : m < 4294967296 := by have := (len_lims (n := m) (k := 1)).1 (by omega); omega
  have hlm0 : 0 < m := Nat.pos_of_ne_zero HM0.out
  have H1 := Lib.hid h1
  rw [h1]
  clear h1 hlz hlm hle hy
  rcases HC.out with hc | hc
  all_goals
    rw [hc]
    have CS := Lib.hid (lshort_c w3 X.out m hlm0 hm32)
    rw [val_lims] at CS
    have hr : r < 4294967296 := by have := Nat.mod_lt n hlm0; rw [hqr.2] at this; omega
    have LR := Lib.hid (fun W => lof_c W r (by omega))
    go_wp2_with fail
    refine CS.out.mono ?_
    rintro e w4 ⟨a4, c4, O, rfl, hOl, hOv, hON, hOF⟩
    rw [hqr.2]
    have CT := Lib.hid (ltrim_c w4 hON.in)
    rw [hOv, hqr.1] at CT
    have FF := Lib.hid (FF.out.same hOF)
    clear hOl hOv hON hOF CS
    go_wp2_with fail
    refine CT.out.mono ?_
    rintro e w5 ⟨a5, c5, rfl, N5, F5⟩
    have N5 := Lib.hid N5
    have F5 := Lib.hid F5
    go_wp2_with fail
    refine (LR.out w5).mono ?_
    rintro e w6 ⟨a6, c6, rfl, N6, F6⟩
    have E := Lib.hid (D.out w6 a5 c5 a6 c6 ((N5.out.keep F6).base FF.out.size) (N6.base (Nat.le_trans FF.out.size F5.out.size)) (FF.out.same (F5.out.same F6)))
    clear N6 F6 D N5 F5
    go_wp2
    go_ret3
    exact E.out
end Go.Proofs.YtjdanblijcdllaaGreatDoor
