/- Limbs: Small. -/
import Derived.Test.YtjdanblijcdllaaGreatDoorLimbK
set_option linter.all false
namespace Go.Proofs.YtjdanblijcdllaaGreatDoor
open Go.ChangeShapes Go.WideShapes Go.RowKit
variable {w w' w2 wr : World} {a b : Option Addr} {cap cap2 : Nat} {L M : List Nat} {B : Nat}
/-- What Small answers: the number and whether it is small. -/
def SmallR (w : World) (n : Nat) (e : Ending) (w' : World) : Prop :=
  (if n < 18446744073709551616 then e = .returned (.tuple #[.int .u64 (n : Int), .bool true]) else e = .returned (.tuple #[.int .u64 0, .bool false])) ∧ Fr [] w w'
theorem two_limbs {n : Nat} (h : (lims n).length ≤ 2) : (lims n)[1]?.getD 0 * 4294967296 + (lims n)[0]?.getD 0 = n := by
  have h1 := val_lims n
  generalize lims n = l at h h1
  match l, h with
  | [], _ => simp [val] at h1 ⊢; omega
  | [x], _ => simp [val] at h1 ⊢; omega
  | [x, y], _ => simp [val] at h1 ⊢; omega
theorem small_c (w : World) (h : In w a cap L) : Calls Tryz.prog 154 #[.slice a L.length cap] w (SmallR w (val L)) := by
  have H := Lib.hid h
  clear h
  generalize hn : val L = n at *
  have HN := Lib.hid hn
  clear hn
  by_cases hx : (lims n).length ≤ 2
  · have D : Hid (∀ W, Fr [] w W → SmallR w n (.returned (.tuple #[.int .u64 (n : Int), .bool true])) W) := Lib.hid (fun W hW => by
      unfold SmallR; rw [if_pos (by have := len_lims.1 hx; omega)]; exact ⟨rfl, hW⟩)
    have E2 := Lib.hid (two_limbs hx)
    have b1 := lim_get (lim_lims n) 1
    have b0 := lim_get (lim_lims n) 0
    go_enter Tryz.func154, Tryz.ntmps154
    go_wp2_with fail
    refine (ltrim_c w H.out).mono ?_
    rintro e w1 ⟨a1, c1, rfl, N1, F1⟩
    rw [HN.out] at N1 ⊢
    have C1 := Lib.hid (lat_c w1 N1.in 1)
    have C0 := Lib.hid (lat_c w1 N1.in 0)
    generalize (lims n)[1]?.getD 0 = y at *
    generalize (lims n)[0]?.getD 0 = x at *
    have E := or32 y x b1 b0
    rw [E2.out] at E
    have D := Lib.hid (D.out w1 F1)
    clear N1 F1 E2 H
    go_wp2_with fail
    refine C1.out.mono ?_
    rintro e w' ⟨rfl, rfl⟩
    go_wp2_with fail
    refine C0.out.mono ?_
    rintro e w' ⟨rfl, rfl⟩
    go_wp2
    go_ret2
    exact D.out
  · have D : Hid (∀ W, Fr [] w W → SmallR w n (.returned (.tuple #[.int .u64 0, .bool false])) W) := Lib.hid (fun W hW => by
      unfold SmallR; rw [if_neg (by intro hlt; exact hx (len_lims.2 (by omega)))]; exact ⟨rfl, hW⟩)
    go_enter Tryz.func154, Tryz.ntmps154
    go_wp2_with fail
    refine (ltrim_c w H.out).mono ?_
    rintro e w1 ⟨a1, c1, rfl, N1, F1⟩
    rw [HN.out] at N1 ⊢
    have D := Lib.hid (D.out w1 F1)
    clear N1 F1 H
    go_wp2
    go_ret2
    exact D.out
end Go.Proofs.YtjdanblijcdllaaGreatDoor
