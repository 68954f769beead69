/- Reference 1: Parse. -/
import Derived.Test.YtjdanblijcdllaaGreatDoorRefT
set_option linter.all false
namespace Go.Proofs.YtjdanblijcdllaaGreatDoor
open Go.ChangeShapes Go.WideShapes Go.RowKit
variable {w w' w2 wr : World} {a b : Option Addr} {cap cap2 : Nat} {L M : List Nat} {B : Nat}
def allDig (l : List UInt8) : Bool := l.all isDig
/-- The error's number of a text that is read. -/
def parseE (l : List UInt8) : Nat := if l.length = 0 ∨ 700 < l.length ∨ allDig l = false then 13 else if fits (numOf l) then 0 else 11
def ParseR (w : World) (l : List UInt8) (e : Ending) (w' : World) : Prop :=
  if parseE l = 0 then ∃ a cap, e = .returned (.tuple #[.slice a (lims (numOf l)).length cap, .int .i64 0]) ∧ Nw w' w.heap.size a cap (lims (numOf l)) ∧ Fr [] w w'
  else e = .returned (.tuple #[.slice none 0 0, .int .i64 (parseE l : Int)]) ∧ Fr [] w w'
theorem parseR_text {l : List UInt8} (h : l.length = 0 ∨ 700 < l.length ∨ allDig l = false) (hF : Fr [] w w') : ParseR w l (.returned (.tuple #[.slice none 0 0, .int .i64 13])) w' := by
  have e : parseE l = 13 := by unfold parseE; rw [if_pos h]
  unfold ParseR; rw [e, if_neg (by decide)]; exact ⟨rfl, hF⟩
theorem parseR_big {l : List UInt8} (h : ¬ (l.length = 0 ∨ 700 < l.length ∨ allDig l = false)) (hb : fits (numOf l) = false) (hF : Fr [] w w') : ParseR w l (.returned (.tuple #[.slice none 0 0, .int .i64 11])) w' := by
  have e : parseE l = 11 := by unfold parseE; rw [if_neg h, hb]; rfl
  unfold ParseR; rw [e, if_neg (by decide)]; exact ⟨rfl, hF⟩
theorem parseR_ok {l : List UInt8} (h : ¬ (l.length = 0 ∨ 700 < l.length ∨ allDig l = false)) (hb : fits (numOf l) = true) (hN : Nw w' w.heap.size a cap (lims (numOf l))) (hF : Fr [] w w') : ParseR w l (.returned (.tuple #[.slice a (lims (numOf l)).length cap, .int .i64 0])) w' := by
  have e : parseE l = 0 := by unfold parseE; rw [if_neg h, hb]; rfl
  unfold ParseR; rw [e, if_pos rfl]; exact ⟨a, cap, rfl, hN, hF⟩
theorem run_str_at (l : List UInt8) (i : Nat) (hi : i < l.length) (W : World) : (Instr.index 9 (.string ⟨l.toArray⟩) (.int .i64 (i : Int))).run Tryz.prog W = .ok (.int .u8 ((l[i]?.getD 0).toNat : Int)) W := by
  have h1 : (0 : Int) ≤ (i : Int) ∧ (i : Int) < ((ByteArray.mk l.toArray).size : Int) := by simp [ByteArray.size]; omega
  rw [run_index_string W 9 ⟨l.toArray⟩ .i64 (i : Int) Tryz.underlying9, dif_pos h1]
  have : (ByteArray.mk l.toArray)[(i : Int).toNat]'(by simp [ByteArray.size]; omega) = l[i] := rfl
  rw [this, List.getElem?_eq_getElem hi]; rfl
theorem allDig_take {l : List UInt8} (h : allDig l = true) (k : Nat) (hk : k < l.length) : isDig (l[k]?.getD 0) = true := by
  unfold allDig at h
  rw [List.all_eq_true] at h
  rw [List.getElem?_eq_getElem hk]
  exact h _ (List.getElem_mem hk)
theorem allDig_of {l : List UInt8} (h : ∀ i, i < l.length → isDig (l[i]?.getD 0) = true) : allDig l = true := by
  unfold allDig
  rw [List.all_eq_true]
  intro c hc
  obtain ⟨i, hi, rfl⟩ := List.mem_iff_getElem.1 hc
  have := h i hi
  rwa [List.getElem?_eq_getElem hi] at this
theorem allDig_not {l : List UInt8} {k : Nat} (hk : k < l.length) (h : isDig (l[k]?.getD 0) = false) : allDig l = false := by
  cases hd : allDig l with
  | false => rfl
  | true => have := allDig_take hd k hk; rw [h] at this; cases this
theorem take_get_succ {l : List UInt8} {k : Nat} (hk : k < l.length) : l.take (k + 1) = l.take k ++ [l[k]?.getD 0] := by
  rw [List.take_add_one, List.getElem?_eq_getElem hk]; rfl
theorem numOf_step {l : List UInt8} {k : Nat} (hk : k < l.length) : numOf (l.take (k + 1)) = numOf (l.take k) * 10 + ((l[k]?.getD 0).toNat - 48) := by
  rw [take_get_succ hk, numOf_snoc, Nat.mul_comm]
theorem numOf_lt {l : List UInt8} (h : allDig l = true) (k : Nat) (hk : k ≤ l.length) : numOf (l.take k) < 10 ^ k := by
  induction k with
  | zero => simp [numOf]
  | succ k ih =>
    have := ih (by omega)
    have hd := allDig_take h k (by omega)
    rw [numOf_step (by omega), Nat.pow_succ]
    unfold isDig at hd
    simp only [decide_eq_true_eq] at hd
    omega
theorem numOf_lens {l : List UInt8} (h : allDig l = true) (k : Nat) (hk : k ≤ l.length) (h7 : l.length ≤ 700) : (lims (numOf (l.take k))).length ≤ 88 := by
  rw [len_lims]
  have h1 := numOf_lt h k hk
  have h2 : ∀ m, k ≤ m → (10 : Nat) ^ k ≤ 10 ^ m := fun m hm => Nat.pow_le_pow_right (by decide) hm
  exact Nat.lt_of_lt_of_le h1 (Nat.le_trans (h2 700 (by omega)) (by decide +kernel))
/-- One limb in a block. -/
theorem in_one {W : World} {g x : Nat} (h : blk W g = some (.cells #[.int .u32 (x : Int)] 108 (0, 0))) (hx : x < 4294967296) : In W (some ⟨g, 0, none⟩) 1 [x] := by
  refine ⟨.inr ⟨g, 0, rfl, lt_size h, fun i hi => ?_⟩, lim_cons.2 ⟨hx, lim_nil⟩, by simp, by unfold maxLen; omega, by simp⟩
  have : i = 0 := by simp at hi; omega
  subst this
  exact cell_of h rfl
theorem isDig_iff {c : UInt8} : isDig c = true ↔ 48 ≤ c.toNat ∧ c.toNat ≤ 57 := by unfold isDig; simp
end Go.Proofs.YtjdanblijcdllaaGreatDoor
