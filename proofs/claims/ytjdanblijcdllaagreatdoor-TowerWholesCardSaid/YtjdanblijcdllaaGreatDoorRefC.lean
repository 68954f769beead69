/- Reference 1: Cmp. -/
import Derived.Test.YtjdanblijcdllaaGreatDoorRefB
set_option linter.all false
namespace Go.Proofs.YtjdanblijcdllaaGreatDoor
open Go.ChangeShapes Go.WideShapes Go.RowKit
variable {w w' w2 wr : World} {a b : Option Addr} {cap cap2 : Nat} {L M : List Nat} {B : Nat}
theorem r1cmp_c (w : World) (ha : In w a cap L) (hb : In w b cap2 M) : Calls Tryz.prog 147 #[.slice a L.length cap, .slice b M.length cap2] w fun e w' => e = .returned (.int .i64 (cmpN (val L) (val M))) ∧ w = w' := by
  have hsa := ha.sm
  have hsb := hb.sm
  have HA := Lib.hid ha
  have HB := Lib.hid hb
  have START : Hid (∀ j : Nat, L.length + M.length + 1 ≤ j → L[j]?.getD 0 = M[j]?.getD 0) := Lib.hid (fun j hj => by
    rw [List.getElem?_eq_none (by omega), List.getElem?_eq_none (by omega)])
  have DE : Hid ((∀ j : Nat, 0 ≤ j → L[j]?.getD 0 = M[j]?.getD 0) → cmpN (val L) (val M) = 0) := Lib.hid (fun h => by
    rw [val_congr (fun j => h j (Nat.zero_le j))]; unfold cmpN; rw [if_neg (by omega), if_neg (by omega)])
  have DL : Hid (∀ i : Nat, (∀ j : Nat, i + 1 ≤ j → L[j]?.getD 0 = M[j]?.getD 0) → L[i]?.getD 0 < M[i]?.getD 0 → cmpN (val L) (val M) = -1) := Lib.hid (fun i h hlt => by
    unfold cmpN; rw [if_pos (cmp_top i ha.lim hb.lim h hlt)])
  have DG : Hid (∀ i : Nat, (∀ j : Nat, i + 1 ≤ j → L[j]?.getD 0 = M[j]?.getD 0) → M[i]?.getD 0 < L[i]?.getD 0 → cmpN (val L) (val M) = 1) := Lib.hid (fun i h hlt => by
    have := cmp_top i hb.lim ha.lim (fun j hj => (h j hj).symm) hlt
    unfold cmpN; rw [if_neg (by omega), if_pos this])
  clear ha hb
  generalize cmpN (val L) (val M) = r at *
  go_enter Tryz.func147, Tryz.ntmps147
  go_wp2
  go_loopw [5] (fun x wr => ∃ k : Nat, k ≤ L.length + M.length + 1 ∧ x = .int .i64 ((k : Int) - 1) ∧ Hid (∀ j : Nat, k ≤ j → L[j]?.getD 0 = M[j]?.getD 0) ∧ wr = w) (fun x _ => (intOf x + 1).toNat)
  case atStart => exact ⟨L.length + M.length + 1, Nat.le_refl _, by congr 1; omega, START, rfl⟩
  case round =>
    obtain ⟨k, hk, rfl, hz, rfl⟩ := hrel
    cases k with
    | zero =>
      have hr := DE.out hz.out
      subst hr
      clear DL DG HA HB START DE hz
      go_wp2
      go_ret
      exact ⟨rfl, rfl⟩
    | succ i =>
      have e1 : (((i + 1 : Nat) : Int) - 1) = (i : Int) := by omega
      rw [e1]
      have CA := Lib.hid (r1at_c wr HA.out i)
      have CB := Lib.hid (r1at_c wr HB.out i)
      have bx := lim_get HA.out.lim i
      have by_ := lim_get HB.out.lim i
      have TL := Lib.hid (DL.out i hz.out)
      have TG := Lib.hid (DG.out i hz.out)
      have TE : Hid (L[i]?.getD 0 = M[i]?.getD 0 → ∀ j : Nat, i ≤ j → L[j]?.getD 0 = M[j]?.getD 0) := Lib.hid (fun he j hj => by
        by_cases hij : j = i
        · rw [hij]; exact he
        · exact hz.out j (by omega))
      generalize L[i]?.getD 0 = x at *
      generalize M[i]?.getD 0 = y at *
      clear DE DL DG START hz HA HB
      rcases Nat.lt_trichotomy x y with hxy | hxy | hxy
      · have hr := TL.out hxy
        subst hr
        clear TL TG TE
        go_wp2_with fail
        refine CA.out.mono ?_
        rintro e w' ⟨rfl, rfl⟩
        go_wp2_with fail
        refine CB.out.mono ?_
        rintro e w' ⟨rfl, rfl⟩
        go_wp2
        go_ret
        exact ⟨rfl, rfl⟩
      · have T := Lib.hid (TE.out hxy)
        subst hxy
        clear TL TG TE
        go_wp2_with fail
        refine CA.out.mono ?_
        rintro e w' ⟨rfl, rfl⟩
        go_wp2_with fail
        refine CB.out.mono ?_
        rintro e w' ⟨rfl, rfl⟩
        go_wp2_with fail
        refine CA.out.mono ?_
        rintro e w' ⟨rfl, rfl⟩
        go_wp2_with fail
        refine CB.out.mono ?_
        rintro e w' ⟨rfl, rfl⟩
        go_wp2
        go_roundw
        case rel => exact ⟨i, by omega, by first | rfl | go_num, T, by first | rfl | trivial⟩
        case measure => simp [intOf]
      · have hr := TG.out hxy
        subst hr
        clear TL TG TE
        go_wp2_with fail
        refine CA.out.mono ?_
        rintro e w' ⟨rfl, rfl⟩
        go_wp2_with fail
        refine CB.out.mono ?_
        rintro e w' ⟨rfl, rfl⟩
        go_wp2_with fail
        refine CA.out.mono ?_
        rintro e w' ⟨rfl, rfl⟩
        go_wp2_with fail
        refine CB.out.mono ?_
        rintro e w' ⟨rfl, rfl⟩
        go_wp2
        go_ret
        exact ⟨rfl, rfl⟩
end Go.Proofs.YtjdanblijcdllaaGreatDoor
