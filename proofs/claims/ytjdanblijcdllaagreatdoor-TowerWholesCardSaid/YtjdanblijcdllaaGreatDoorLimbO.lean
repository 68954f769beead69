/- Limbs: Div, the any divisor. -/
import Derived.Test.YtjdanblijcdllaaGreatDoorLimbL
import Derived.Test.YtjdanblijcdllaaGreatDoorLimbN
set_option linter.all false
namespace Go.Proofs.YtjdanblijcdllaaGreatDoor
open Go.ChangeShapes Go.WideShapes Go.RowKit
variable {w w' w2 wr : World} {a b : Option Addr} {cap cap2 : Nat} {L M : List Nat} {B : Nat}
set_option maxHeartbeats 4000000 in
set_option maxRecDepth 100000 in
theorem ldiv_c (w : World) (ha : In w a cap L) (hb : In w b cap2 M) : Calls Tryz.prog 95 #[.slice a L.length cap, .slice b M.length cap2] w (DivR w (val L) (val M)) := by
  have HA := Lib.hid ha
  have HB := Lib.hid hb
  clear ha hb
  generalize hn : val L = n at *
  generalize hm : val M = m at *
  have HN := Lib.hid hn
  have HM := Lib.hid hm
  clear hn hm
  by_cases hx : (lims n).length ≤ 64
  · by_cases hy : (lims m).length ≤ 64
    · have hff : (fits n && fits m) = true := by rw [fits_len n, fits_len m, decide_eq_true hx, decide_eq_true hy]; rfl
      have bx : decide (64 < (lims n).length) = false := by simpa using hx
      have by_ : decide (64 < (lims m).length) = false := by simpa using hy
      have BX := Lib.hid bx
      have BY := Lib.hid by_
      clear bx by_
      by_cases hm0 : m = 0
      · have D : Hid (∀ W, Fr [] w W → DivR w n m (.returned (.tuple #[.slice none 0 0, .slice none 0 0, .int .i64 12])) W) := Lib.hid (fun W hW => by
          unfold DivR; rw [hff, if_neg (by simp), if_pos hm0]; exact ⟨rfl, hW⟩)
        have hl0 : (lims m).length = 0 := by rw [hm0]; rfl
        have HL0 := Lib.hid hl0
        clear hff hm0 hl0 hx hy
        go_enter Tryz.func95, Tryz.ntmps95
        go_wp2_with fail
        refine (ltrim_c w HA.out).mono ?_
        rintro e w1 ⟨a1, c1, rfl, N1, F1⟩
        rw [HN.out] at N1 ⊢
        have HB1 := Lib.hid (HB.out.keep F1)
        have F1 := Lib.hid F1
        clear N1
        go_wp2_with fail
        refine (ltrim_c w1 HB1.out).mono ?_
        rintro e w2 ⟨a2, c2, rfl, N2, F2⟩
        rw [HM.out] at N2 ⊢
        have E := Lib.hid (D.out w2 (F1.out.same F2))
        clear N2 F2 F1 HB1 HA HB D
        go_wp2_with fail
        refine (lbig_c _ _ _ _).mono ?_
        rintro e w' ⟨rfl, rfl⟩
        rw [BX.out]
        go_wp2_with fail
        refine (lbig_c _ _ _ _).mono ?_
        rintro e w' ⟨rfl, rfl⟩
        rw [BY.out, HL0.out]
        go_wp2
        go_ret3
        exact E.out
      · have hlm : 0 < (lims m).length := lims_len_pos.2 hm0
        have hlz : ((((lims m).length : Nat) : Int) == 0) = false := by rw [beq_eq_false_iff_ne]; omega
        have D : Hid (∀ W a1 c1 a2 c2, Nw W w.heap.size a1 c1 (lims (n / m)) → Nw W w.heap.size a2 c2 (lims (n % m)) → Fr [] w W → DivR w n m (.returned (.tuple #[.slice a1 (lims (n / m)).length c1, .slice a2 (lims (n % m)).length c2, .int .i64 0])) W) := Lib.hid (fun W a1 c1 a2 c2 h1 h2 hW => by
          unfold DivR; rw [hff, if_neg (by simp), if_neg hm0]; exact ⟨a1, c1, a2, c2, rfl, h1, h2, hW⟩)
        have HM0 := Lib.hid hm0
        have HFF := Lib.hid hff
        clear hff hm0
        by_cases hlt : n < m
        · have HC : Hid (cmpN n m = -1) := Lib.hid (by unfold cmpN; rw [if_pos hlt])
          have HQ : Hid (n / m = 0 ∧ n % m = n) := Lib.hid ⟨Nat.div_eq_of_lt hlt, Nat.mod_eq_of_lt hlt⟩
          rw [HQ.out.1, HQ.out.2] at D
          clear hlt hx hy
          go_enter Tryz.func95, Tryz.ntmps95
          go_wp2_with fail
          refine (ltrim_c w HA.out).mono ?_
          rintro e w1 ⟨a1, c1, rfl, N1, F1⟩
          rw [HN.out] at N1 ⊢
          have HB1 := Lib.hid (HB.out.keep F1)
          have N1 := Lib.hid N1
          have F1 := Lib.hid F1
          go_wp2_with fail
          refine (ltrim_c w1 HB1.out).mono ?_
          rintro e w2 ⟨a2, c2, rfl, N2, F2⟩
          rw [HM.out] at N2 ⊢
          have X := Lib.hid (N1.out.keep F2)
          have Y := Lib.hid N2.in
          have FF := Lib.hid (F1.out.same F2)
          clear N2 F2 F1 N1 HB1 HA HB
          go_wp2_with fail
          refine (lbig_c _ _ _ _).mono ?_
          rintro e w' ⟨rfl, rfl⟩
          rw [BX.out]
          go_wp2_with fail
          refine (lbig_c _ _ _ _).mono ?_
          rintro e w' ⟨rfl, rfl⟩
          rw [BY.out]
          go_wp2_with fail
          refine (order_c w2 _ _ X.out.in Y.out).mono ?_
          rintro e w3 ⟨rfl, F3⟩
          rw [HC.out]
          have E := Lib.hid (D.out w3 none 0 a1 c1 (Nw.nil _ _) (X.out.keep F3) (FF.out.same F3))
          clear F3 D
          go_wp2
          go_ret3
          exact E.out
        · by_cases h1 : (lims m).length = 1
          · exact ldiv_one w HA.out HB.out HN.out HM.out hx hy HFF.out HM0.out hlt h1
          · exact ldiv_long w HA.out HB.out HN.out HM.out hx hy HFF.out HM0.out hlt h1
    · have hff : (fits n && fits m) = false := by rw [fits_len n, fits_len m, decide_eq_true hx, decide_eq_false hy]; rfl
      have D : Hid (∀ W, Fr [] w W → DivR w n m (.returned (.tuple #[.slice none 0 0, .slice none 0 0, .int .i64 11])) W) := Lib.hid (fun W hW => by
        unfold DivR; rw [if_pos hff]; exact ⟨rfl, hW⟩)
      have bx : decide (64 < (lims n).length) = false := by simpa using hx
      have by_ : decide (64 < (lims m).length) = true := by simp; omega
      have BX := Lib.hid bx
      have BY := Lib.hid by_
      clear bx by_ hx hy hff
      go_enter Tryz.func95, Tryz.ntmps95
      go_wp2_with fail
      refine (ltrim_c w HA.out).mono ?_
      rintro e w1 ⟨a1, c1, rfl, N1, F1⟩
      rw [HN.out] at N1 ⊢
      have HB1 := Lib.hid (HB.out.keep F1)
      have F1 := Lib.hid F1
      clear N1
      go_wp2_with fail
      refine (ltrim_c w1 HB1.out).mono ?_
      rintro e w2 ⟨a2, c2, rfl, N2, F2⟩
      rw [HM.out] at N2 ⊢
      have E := Lib.hid (D.out w2 (F1.out.same F2))
      clear N2 F2 F1 HB1 HA HB D
      go_wp2_with fail
      refine (lbig_c _ _ _ _).mono ?_
      rintro e w' ⟨rfl, rfl⟩
      rw [BX.out]
      go_wp2_with fail
      refine (lbig_c _ _ _ _).mono ?_
      rintro e w' ⟨rfl, rfl⟩
      rw [BY.out]
      go_wp2
      go_ret3
      exact E.out
  · have hff : (fits n && fits m) = false := by rw [fits_len n, decide_eq_false hx]; rfl
    have D : Hid (∀ W, Fr [] w W → DivR w n m (.returned (.tuple #[.slice none 0 0, .slice none 0 0, .int .i64 11])) W) := Lib.hid (fun W hW => by
      unfold DivR; rw [if_pos hff]; exact ⟨rfl, hW⟩)
    have bx : decide (64 < (lims n).length) = true := by simp; omega
    have BX := Lib.hid bx
    clear bx hx hff
    go_enter Tryz.func95, Tryz.ntmps95
    go_wp2_with fail
    refine (ltrim_c w HA.out).mono ?_
    rintro e w1 ⟨a1, c1, rfl, N1, F1⟩
    rw [HN.out] at N1 ⊢
    have HB1 := Lib.hid (HB.out.keep F1)
    have F1 := Lib.hid F1
    clear N1
    go_wp2_with fail
    refine (ltrim_c w1 HB1.out).mono ?_
    rintro e w2 ⟨a2, c2, rfl, N2, F2⟩
    have E := Lib.hid (D.out w2 (F1.out.same F2))
    clear N2 F2 F1 HB1 HA HB D
    go_wp2_with fail
    refine (lbig_c _ _ _ _).mono ?_
    rintro e w' ⟨rfl, rfl⟩
    rw [BX.out]
    go_wp2
    go_ret3
    exact E.out
end Go.Proofs.YtjdanblijcdllaaGreatDoor
