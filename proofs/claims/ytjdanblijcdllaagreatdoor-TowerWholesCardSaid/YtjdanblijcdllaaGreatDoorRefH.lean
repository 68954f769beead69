/- Reference 1: Same. -/
import Derived.Test.YtjdanblijcdllaaGreatDoorRefG
set_option linter.all false
namespace Go.Proofs.YtjdanblijcdllaaGreatDoor
open Go.ChangeShapes Go.WideShapes Go.RowKit
variable {w w' w2 wr : World} {a b : Option Addr} {cap cap2 : Nat} {L M : List Nat} {B : Nat}
theorem same_all {L M : List Nat} (hl : L.length = M.length) (h : ∀ i, i < L.length → L[i]?.getD 0 = M[i]?.getD 0) : L = M := by
  apply List.ext_getElem hl
  intro i h1 h2
  have := h i h1
  rw [List.getElem?_eq_getElem h1, List.getElem?_eq_getElem h2] at this
  simpa using this
set_option maxRecDepth 100000 in
theorem r1same_c (w : World) (ha : In w a cap L) (hb : In w b cap2 M) : Calls Tryz.prog 83 #[.slice a L.length cap, .slice b M.length cap2] w fun e w' => e = .returned (.bool (decide (L = M))) ∧ Fr [] w w' := by
  have HA := Lib.hid ha
  have HB := Lib.hid hb
  have hsa := ha.sm
  clear ha hb
  by_cases hl : L.length = M.length
  · have HL := Lib.hid hl
    have SA := Lib.hid (fun h => same_all (L := L) (M := M) hl h)
    clear hl
    obtain ⟨r, hr⟩ : ∃ r, r = decide (L = M) := ⟨_, rfl⟩
    have HR := Lib.hid hr
    rw [← hr]
    rw [← HL.out]
    clear hr
    go_enter Tryz.func83, Tryz.ntmps83
    go_wp2_with fail
    go_loopw [13, 5] (fun x _ wr => ∃ k : Nat, k ≤ L.length ∧ x = .int .i64 (k : Int) ∧ Hid (∀ i, i < k → L[i]?.getD 0 = M[i]?.getD 0) ∧ Hid (Fr [] w wr)) (fun x _ _ => L.length - (intOf x).toNat)
    case atStart => exact ⟨0, by omega, rfl, Lib.hid (fun i h => by omega), Lib.hid (Fr.refl _ _)⟩
    case round =>
      obtain ⟨k, hk, rfl, hS, hF⟩ := hrel
      by_cases hlt : k < L.length
      · obtain ⟨ab, ao, rfl, al, ac⟩ := (HA.out.keep hF.out).at hlt
        obtain ⟨bb, bo, rfl, bl, bc⟩ := (HB.out.keep hF.out).at (i := k) (by rw [← HL.out]; exact hlt)
        have kk0 : (0 : Int) ≤ (k : Int) := by omega
        have kk1 : (k : Int) < (L.length : Int) := by omega
        have NX : Hid (L[k]?.getD 0 = M[k]?.getD 0 → ∀ i, i < k + 1 → L[i]?.getD 0 = M[i]?.getD 0) := Lib.hid (fun he i hi => by
          by_cases h : i = k
          · subst h; exact he
          · exact hS.out i (by omega))
        have NE : Hid (L[k]?.getD 0 ≠ M[k]?.getD 0 → r = false) := Lib.hid (fun he => by
          rw [HR.out, decide_eq_false_iff_not]; rintro rfl; exact he rfl)
        generalize L[k]?.getD 0 = x at *
        generalize M[k]?.getD 0 = y at *
        by_cases hxy : x = y
        · have S1 := Lib.hid (NX.out hxy)
          have hb : ((x : Int) != (y : Int)) = false := by rw [bne_eq_false_iff_eq]; omega
          clear NX NE hxy hS
          go_wp2_with fail
          go_quiet (fail)
          go_wp2
          go_roundw
          case rel => exact ⟨k + 1, by omega, by go_num, S1, Lib.hid (by first | exact hF.out.drewN _ | exact hF.out.drew | exact hF.out)⟩
          case measure => simp [intOf]; omega
        · have hb : ((x : Int) != (y : Int)) = true := by rw [bne_iff_ne]; omega
          have R0 := NE.out hxy
          have D : Hid (∀ W, Fr [] wr W → (Ending.returned (.bool false) = .returned (.bool r) ∧ Fr [] w W)) := Lib.hid (fun W hW => ⟨by rw [R0], hF.out.same hW⟩)
          clear NX NE hxy hS R0
          go_wp2_with fail
          go_quiet (fail)
          go_wp2
          go_ret
          exact D.out _ (by first | exact (Fr.refl _ _).drewN _ | exact (Fr.refl _ _).drew | exact Fr.refl _ _)
      · have hkl : k = L.length := by omega
        have R1 : r = true := by rw [HR.out, decide_eq_true_eq]; exact SA.out (by rw [← hkl]; exact hS.out)
        subst R1
        clear hS
        go_wp2
        go_ret
        exact ⟨rfl, hF.out⟩
  · have hd : decide (L = M) = false := by rw [decide_eq_false_iff_not]; rintro rfl; exact hl rfl
    rw [hd]
    have hn : ((L.length : Int) != (M.length : Int)) = true := by rw [bne_iff_ne]; omega
    clear hd hl
    go_enter Tryz.func83, Tryz.ntmps83
    go_wp2
    go_ret
    exact ⟨rfl, Fr.refl _ _⟩
end Go.Proofs.YtjdanblijcdllaaGreatDoor
