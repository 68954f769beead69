/- Limbs: Parse. -/
import Derived.Test.YtjdanblijcdllaaGreatDoorRefU
set_option linter.all false
namespace Go.Proofs.YtjdanblijcdllaaGreatDoor
open Go.ChangeShapes Go.WideShapes Go.RowKit
variable {w w' w2 wr : World} {a b : Option Addr} {cap cap2 : Nat} {L M : List Nat} {B : Nat}
/-- So many limbs multiplied by ten, and what is carried. -/
structure MulTen (U C : List Nat) (d i c : Nat) : Prop where
  len : C.length = U.length
  v : val (C.take i) + 4294967296 ^ i * c = val (U.take i) * 10 + d
  dr : C.drop i = U.drop i
  c1 : c < 10
theorem MulTen.start (U : List Nat) {d : Nat} (h : d < 10) : MulTen U U d 0 d := ⟨rfl, by simp [val], rfl, h⟩
theorem MulTen.step {U C : List Nat} {d i c x : Nat} (h : MulTen U C d i c) (hU : Lim U) (hi : i < U.length) (hx : U[i]?.getD 0 = x) : MulTen U (C.set i ((x * 10 + c) % 4294967296)) d (i + 1) ((x * 10 + c) / 4294967296) := by
  have hxb := lim_get hU i
  rw [hx] at hxb
  have hc := h.c1
  refine ⟨by simp [h.len], ?_, ?_, by omega⟩
  · rw [take_set_succ _ _ _ (by rw [h.len]; exact hi), val_snoc, val_take_succ, hx, Nat.pow_succ]
    have e : (C.take i).length = i := by rw [List.length_take, h.len]; omega
    rw [e]
    have hv := h.v
    have e2 := Nat.mod_add_div (x * 10 + c) 4294967296
    generalize (x * 10 + c) % 4294967296 = m at *
    generalize (x * 10 + c) / 4294967296 = q at *
    generalize 4294967296 ^ i = P at *
    have e3 : P * (m + 4294967296 * q) = P * (x * 10 + c) := by rw [e2]
    rw [Nat.mul_add, Nat.mul_add, ← Nat.mul_assoc, ← Nat.mul_assoc] at e3
    rw [Nat.add_mul]
    omega
  · rw [drop_set_succ, ← List.drop_drop, h.dr, List.drop_drop]
theorem MulTen.done {U C : List Nat} {d c : Nat} (h : MulTen U C d U.length c) : val C + 4294967296 ^ C.length * c = val U * 10 + d := by
  have := h.v
  rwa [List.take_of_length_le (by rw [h.len]; exact Nat.le_refl _), List.take_of_length_le (Nat.le_refl _), ← h.len] at this
end Go.Proofs.YtjdanblijcdllaaGreatDoor
