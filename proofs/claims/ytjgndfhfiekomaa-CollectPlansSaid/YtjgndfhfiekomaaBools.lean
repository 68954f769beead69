/- Slices of bools that the call makes. -/
import Derived.Test.YtjgndfhfiekomaaArenaQ
set_option linter.all false
namespace Go.Proofs.Ytjgndfhfiekomaa
open Go.ChangeShapes Go.WideShapes Go.RowKit
def boolCells (l : List Bool) : Array Value := (l.map Value.bool).toArray
def falses (n : Nat) : List Bool := List.replicate n false
theorem len_falses (n : Nat) : (falses n).length = n := by simp [falses]
theorem info_bool : (Try.prog.info? 4).map (fun i => (i.zero, i.size, i.bytes)) = some (some (.bool false), 1, 1) := by kernel_rfl
theorem made_bools (n : Nat) : madeCells #[.bool false] n = boolCells (falses n) := by
  apply Array.ext_getElem?
  intro i
  by_cases hi : i < n <;> simp [madeCells, boolCells, falses, hi, Nat.mod_one]
theorem run_bools (w : World) (n : Nat) (h : n ≤ 16777216) :
    (Instr.makeSlice 27 (.int .i64 (n : Int)) (.int .i64 (n : Int))).run Try.prog w = .ok (.slice (some ⟨w.heap.size, 0, none⟩) n n) (w.alloc (.cells (boolCells (falses n)) 4)) := by
  obtain ⟨i0, hi, hz0, hz1, hz2⟩ := info_parts info_bool
  have := run_make (P := Try.prog) w 27 4 i0 (.bool false) Try.underlying27 hi hz0 .i64 .i64 (n : Int) n (by omega) (by omega) (by rw [hz2]; omega) (by omega)
  rw [this, hz1]
  simp only [Int.toNat_natCast, Nat.mul_one]
  rw [show (Value.bool false).cells = #[.bool false] from rfl, made_bools]
theorem boolCells_get (l : List Bool) (i : Nat) : (boolCells l)[i]? = (l[i]?).map Value.bool := by simp [boolCells]
theorem boolCells_set (l : List Bool) (i : Nat) (v : Bool) : (boolCells l).setIfInBounds i (.bool v) = boolCells (l.set i v) := by simp [boolCells]
def BoolsAt (w : World) (b : Nat) (l : List Bool) : Prop := blk w b = some (.cells (boolCells l) 4 (0, 0))
theorem BoolsAt.cell {w : World} {b : Nat} {l : List Bool} (h : BoolsAt w b l) {i : Nat} (hi : i < l.length) : w.cell? ⟨b, i, none⟩ = some (.bool (l[i]?.getD false)) :=
  cell_of h (by rw [boolCells_get]; simp [hi])
theorem BoolsAt.free {w : World} {b : Nat} {l : List Bool} (h : BoolsAt w b l) (i : Nat) : w.frozen? ⟨b, i, none⟩ = false := free_of h
theorem BoolsAt.fr {w w' : World} {b : Nat} {l : List Bool} {S : List Nat} (h : BoolsAt w b l) (hF : Fr S w w') (hb : b ∉ S) : BoolsAt w' b l := hF.at h hb
theorem BoolsAt.set {w : World} {b : Nat} {l : List Bool} (h : BoolsAt w b l) (i : Nat) (v : Bool) : BoolsAt (w.setCell ⟨b, i, none⟩ (.bool v)) b (l.set i v) := by
  unfold BoolsAt at *
  rw [blk_set, if_pos rfl, h]; simp only [Option.map_some, setObj, boolCells_set]
theorem BoolsAt.new {w : World} (l : List Bool) : BoolsAt (w.alloc (.cells (boolCells l) 4)) w.heap.size l := by
  unfold BoolsAt; rw [blk_alloc, if_pos rfl]
/-- The lines of j words from a on are set, one word after the other. -/
def markTo (M : List Bool) (a : Nat) : Nat → List Bool
  | 0 => M
  | j + 1 => (markTo M a j).set ((a + j) / 16) true
theorem len_markTo (M : List Bool) (a j : Nat) : (markTo M a j).length = M.length := by
  induction j with
  | zero => rfl
  | succ j ih => simp [markTo, ih]
theorem ones_set (M : List Bool) (a b i : Nat) (h1 : a ≤ i) (h2 : i < b) : (ones M a b).set i true = ones M a b := by
  apply List.ext_getElem?
  intro k
  by_cases hk : i = k
  · subst hk
    by_cases hl : i < M.length
    · rw [List.getElem?_set_self (by rw [len_ones]; exact hl), ones_get]; simp [hl, h1, h2]
    · rw [List.getElem?_eq_none (by simp [len_ones]; omega), List.getElem?_eq_none (by simp [len_ones]; omega)]
  · rw [List.getElem?_set_ne hk]
theorem markTo_eq (M : List Bool) (a j : Nat) : markTo M a (j + 1) = ones M (a / 16) ((a + j) / 16 + 1) := by
  induction j with
  | zero =>
    show M.set ((a + 0) / 16) true = _
    have := ones_step M (a / 16) (a / 16) (Nat.le_refl _)
    rw [ones_self] at this
    simpa using this
  | succ j ih =>
    show (markTo M a (j + 1)).set ((a + (j + 1)) / 16) true = _
    rw [ih]
    by_cases h : (a + (j + 1)) / 16 = (a + j) / 16
    · rw [h]; exact ones_set _ _ _ _ (by omega) (by omega)
    · rw [show (a + (j + 1)) / 16 = (a + j) / 16 + 1 by omega]
      exact ones_step _ _ _ (by omega)
end Go.Proofs.Ytjgndfhfiekomaa
