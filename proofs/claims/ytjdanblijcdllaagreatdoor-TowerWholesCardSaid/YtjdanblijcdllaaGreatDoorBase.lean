/- Small lemmas about memory: what a block holds behind stores, new blocks and draws; a frame that names the blocks that may have changed. No program in sight. -/
import Derived.Test.YtjdanblijcdllaaGreatDoorRows
import Derived.WalkKit
import Derived.WalkLawsBesides
import Derived.WalkSpells
import Derived.Outline
import Derived.OpenShut
import Derived.OneCell
import Derived.Lib.Hide
import Derived.Deep.QuietTactic
import Derived.BigQuiet
import Derived.Laws.MakeOwn
set_option linter.all false
namespace Go.Proofs.YtjdanblijcdllaaGreatDoor
open Go.ChangeShapes Go.WideShapes Go.RowKit

theorem ret_int {k : IntKind} {a b : Int} (h : a = b) : Ending.returned (.int k a) = .returned (.int k b) := by rw [h]
theorem ret_bool {a b : Bool} (h : a = b) : Ending.returned (.bool a) = .returned (.bool b) := by rw [h]

/-! ### Blocks -/
/-- What lies in a block. -/
def blk (w : World) (k : Nat) : Option Obj := w.heap[k]?
theorem cell_of {w : World} {b i : Nat} {c : Array Value} {t : TypeId} {v : Value} (h : blk w b = some (.cells c t (0, 0))) (hv : c[i]? = some v) : w.cell? ⟨b, i, none⟩ = some v := by
  unfold blk at h
  simp [World.cell?, h, hv]
theorem free_of {w : World} {b i : Nat} {c : Array Value} {t : TypeId} (h : blk w b = some (.cells c t (0, 0))) : w.frozen? ⟨b, i, none⟩ = false := by
  unfold blk at h
  simp [World.frozen?, h]
def setObj (i : Nat) (v : Value) : Obj → Obj
  | .cells c t fr => .cells (c.setIfInBounds i v) t fr
  | o => o
theorem setObj_cells (i : Nat) (v : Value) (c : Array Value) (t : TypeId) (fr : Nat × Nat) : setObj i v (.cells c t fr) = .cells (c.setIfInBounds i v) t fr := rfl
theorem blk_alloc (w : World) (o : Obj) (k : Nat) : blk (w.alloc o) k = if k = w.heap.size then some o else blk w k := by
  show (w.heap.push o)[k]? = _
  rw [Array.getElem?_push]; rfl
theorem blk_set (w : World) (b i : Nat) (v : Value) (k : Nat) : blk (w.setCell ⟨b, i, none⟩ v) k = if k = b then (blk w k).map (setObj i v) else blk w k := by
  unfold blk
  by_cases h : k = b
  · subst h
    simp only [World.setCell, Array.getElem?_modify, if_pos]
    cases w.heap[k]? with
    | none => rfl
    | some o => cases o <;> rfl
  · rw [if_neg h, Below.heap_setCell _ _ _ _ (by simpa using h)]
theorem blk_drew (w : World) (k : Nat) : blk w.drew k = blk w k := rfl
theorem blk_drewN (w : World) (n k : Nat) : blk (w.drewN n) k = blk w k := rfl
theorem size_set (w : World) (a : Addr) (v : Value) : (w.setCell a v).heap.size = w.heap.size := by simp [World.setCell]
theorem size_alloc (w : World) (o : Obj) : (w.alloc o).heap.size = w.heap.size + 1 := by show (w.heap.push o).size = _; simp
theorem lt_size {w : World} {b : Nat} {o : Obj} (h : blk w b = some o) : b < w.heap.size := lt_of_block h

/-! ### The frame: of what was there only the blocks of S may have changed -/
structure Fr (S : List Nat) (w w' : World) : Prop where
  os : w'.os = w.os
  tape : w'.tape = w.tape
  output : w'.output = w.output
  size : w.heap.size ≤ w'.heap.size
  block : ∀ k, k < w.heap.size → k ∉ S → blk w' k = blk w k
theorem Fr.refl (S : List Nat) (w : World) : Fr S w w := ⟨rfl, rfl, rfl, Nat.le_refl _, fun _ _ _ => rfl⟩
theorem Fr.trans {S T : List Nat} {a b c : World} (h : Fr S a b) (k : Fr T b c) (hT : ∀ x, x ∈ T → x ∈ S ∨ a.heap.size ≤ x) : Fr S a c :=
  ⟨k.os.trans h.os, k.tape.trans h.tape, k.output.trans h.output, Nat.le_trans h.size k.size, fun i hi hn =>
    (k.block i (Nat.lt_of_lt_of_le hi h.size) (fun hm => by rcases hT i hm with h1 | h1; exact hn h1; omega)).trans (h.block i hi hn)⟩
theorem Fr.same {S : List Nat} {a b c : World} (h : Fr S a b) (k : Fr S b c) : Fr S a c := h.trans k fun _ hx => .inl hx
theorem Fr.mono {S T : List Nat} {a b : World} (h : Fr S a b) (hS : ∀ x, x ∈ S → x ∈ T ∨ a.heap.size ≤ x) : Fr T a b :=
  (Fr.refl T a).trans h hS
theorem Fr.drew {S : List Nat} {a w : World} (h : Fr S a w) : Fr S a w.drew := ⟨h.os, h.tape, h.output, h.size, h.block⟩
theorem Fr.drewN {S : List Nat} {a w : World} (h : Fr S a w) (n : Nat) : Fr S a (w.drewN n) := ⟨h.os, h.tape, h.output, h.size, h.block⟩
theorem Fr.alloc {S : List Nat} {a w : World} (h : Fr S a w) (o : Obj) : Fr S a (w.alloc o) :=
  ⟨h.os, h.tape, h.output, by rw [size_alloc]; have := h.size; omega, fun k hk hn => by
    rw [blk_alloc, if_neg (by have := h.size; omega)]; exact h.block k hk hn⟩
theorem Fr.setCell {S : List Nat} {a w : World} (h : Fr S a w) {b i : Nat} (hp : b ∈ S ∨ a.heap.size ≤ b) (v : Value) : Fr S a (w.setCell ⟨b, i, none⟩ v) :=
  ⟨h.os, h.tape, h.output, by rw [size_set]; exact h.size, fun k hk hn => by
    rw [blk_set, if_neg (by rintro rfl; rcases hp with h1 | h1; exact hn h1; omega)]; exact h.block k hk hn⟩
theorem Fr.at {S : List Nat} {w w' : World} (h : Fr S w w') {k : Nat} {o : Obj} (hk : blk w k = some o) (hn : k ∉ S) : blk w' k = some o :=
  (h.block k (lt_size hk) hn).trans hk
theorem Fr.below {w w' : World} (h : Fr [] w w') : Below w.heap.size w w' := ⟨h.os, h.tape, h.output, h.size, fun k hk => h.block k hk (by simp)⟩
end Go.Proofs.YtjdanblijcdllaaGreatDoor
