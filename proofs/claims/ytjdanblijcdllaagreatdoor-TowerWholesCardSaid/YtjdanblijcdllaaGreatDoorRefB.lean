/- Reference 1: at, Big, Cmp. -/
import Derived.Test.YtjdanblijcdllaaGreatDoorRefA
set_option linter.all false
namespace Go.Proofs.YtjdanblijcdllaaGreatDoor
open Go.ChangeShapes Go.WideShapes Go.RowKit
variable {w w' w2 wr : World} {a b : Option Addr} {cap cap2 : Nat} {L M : List Nat} {B : Nat}
theorem val_ht (L : List Nat) : val L = L[0]?.getD 0 + 4294967296 * val L.tail := by
  cases L with
  | nil => simp [val]
  | cons x xs => simp [val]
theorem val_congr : ∀ {L M : List Nat}, (∀ j : Nat, L[j]?.getD 0 = M[j]?.getD 0) → val L = val M
  | [], [], _ => rfl
  | [], y :: ys, h => by
    have h0 := h 0
    have h1 := val_congr (L := []) (M := ys) (fun j => by have := h (j + 1); simpa using this)
    simp [val] at h0 h1 ⊢; omega
  | x :: xs, [], h => by
    have h0 := h 0
    have h1 := val_congr (L := xs) (M := []) (fun j => by have := h (j + 1); simpa using this)
    simp [val] at h0 h1 ⊢; omega
  | x :: xs, y :: ys, h => by
    have h0 := h 0
    have h1 := val_congr (L := xs) (M := ys) (fun j => by have := h (j + 1); simpa using this)
    simp [val] at h0 h1 ⊢; omega
theorem lim_tail {L : List Nat} (h : Lim L) : Lim L.tail := by
  cases L with
  | nil => exact lim_nil
  | cons x xs => exact (lim_cons.1 h).2
theorem cmp_top : ∀ (i : Nat) {L M : List Nat}, Lim L → Lim M → (∀ j : Nat, i < j → L[j]?.getD 0 = M[j]?.getD 0) → L[i]?.getD 0 < M[i]?.getD 0 → val L < val M
  | 0, L, M, hL, hM, h, hlt => by
    have h1 := val_congr (L := L.tail) (M := M.tail) (fun j => by have := h (j + 1) (by omega); simpa using this)
    rw [val_ht L, val_ht M]; omega
  | i + 1, L, M, hL, hM, h, hlt => by
    have h1 := cmp_top i (L := L.tail) (M := M.tail) (lim_tail hL) (lim_tail hM) (fun j hj => by have := h (j + 1) (by omega); simpa using this) (by simpa using hlt)
    have h2 := lim_get hL 0
    rw [val_ht L, val_ht M]; omega
theorem r1at_c (w : World) (h : In w a cap L) (i : Nat) : Calls Tryz.prog 153 #[.slice a L.length cap, .int .i64 (i : Int)] w fun e w' => e = .returned (.int .u64 ((L[i]?.getD 0 : Nat) : Int)) ∧ w = w' := by
  by_cases hi : i < L.length
  · obtain ⟨b, o, rfl, hb, hc⟩ := h.at hi
    have hz := lim_get h.lim i
    generalize L[i]?.getD 0 = z at *
    have hi' : (i : Int) < (L.length : Int) := by omega
    clear h
    go_enter Tryz.func153, Tryz.ntmps153
    go_wp2
    go_ret
    exact ⟨rfl, rfl⟩
  · rw [List.getElem?_eq_none (by omega)]
    clear h
    go_enter Tryz.func153, Tryz.ntmps153
    go_wp2
    go_ret
    exact ⟨rfl, rfl⟩
theorem r1big_c (w : World) (h : In w a cap L) : Calls Tryz.prog 157 #[.slice a L.length cap] w fun e w' => e = .returned (.bool (!fits (val L))) ∧ Fr [] w w' := by
  have D : Hid (fits (val L) = decide ((lims (val L)).length ≤ 64)) := Lib.hid (fits_len _)
  have H := Lib.hid h
  clear h
  go_enter Tryz.func157, Tryz.ntmps157
  go_wp2_with fail
  refine (r1trim_c w H.out).mono ?_
  rintro e w1 ⟨a1, c1, rfl, N1, F1⟩
  have F1 := Lib.hid F1
  clear N1 H
  go_wp2
  go_ret
  refine ⟨ret_bool ?_, F1.out⟩
  rw [D.out, ← decide_not, decide_eq_decide]; omega
end Go.Proofs.YtjdanblijcdllaaGreatDoor
