/- Collecting: the map of blocks that may be cleared. -/
import Derived.Test.YtjgndfhfiekomaaColD
import Derived.Maps.OwnOps
import Derived.Maps.OwnSet
namespace Go.Proofs.Ytjgndfhfiekomaa
open Go.ChangeShapes Go.WideShapes Go.RowKit Go.Maps
variable {w w' : World} {mb n : Nat} {cl : Int → Int}
theorem lawMap : Keyed Try.prog 3 := int_keyed Try.underlying3
theorem zeroMap (w : World) : (zeroValue 3).run Try.prog w = .ok (.int .i64 0) w := by kernel_rfl
/-- The map at its block tells so much of a block. -/
def ClAt (w : World) (mb n : Nat) (cl : Int → Int) : Prop := ∃ D : DataW Unit, w.ownsMap Try.prog 3 (plainElem Try.prog 3) mb n D ∧ ∀ b : Int, (Lit.int .i64 b).wf = true → D.atKey (.int .i64 b) (.lit (.int .i64 0)) = .lit (.int .i64 (cl b))
theorem ClAt.look (h : ClAt w mb n cl) (b : Int) (hb : (Lit.int .i64 b).wf = true) : (Instr.lookup 133 (.map (some mb)) (.int .i64 b) false).run Try.prog w = .ok (.int .i64 (cl b)) w := by
  obtain ⟨D, h1, h2⟩ := h
  obtain ⟨c, hr, hc, _⟩ := h1.lookup_int lawMap Try.underlying133 Try.underlying3 (zeroMap w) (keyOf_int_mk Try.underlying3 hb)
  rw [h2 b hb] at hc
  simp at hc
  rw [hr, hc]
theorem ClAt.of {D : DataW Unit} (h : w.ownsMap Try.prog 3 (plainElem Try.prog 3) mb n D) : ∃ cl, ClAt w mb n cl := by
  have : ∀ b : Int, ∃ c : Int, (Lit.int .i64 b).wf = true → D.atKey (.int .i64 b) (.lit (.int .i64 0)) = .lit (.int .i64 c) := by
    intro b
    by_cases hb : (Lit.int .i64 b).wf = true
    · obtain ⟨c, _, hc, _⟩ := h.lookup_int lawMap Try.underlying133 Try.underlying3 (zeroMap w) (keyOf_int_mk Try.underlying3 hb)
      exact ⟨c, fun _ => hc⟩
    · exact ⟨0, fun h => absurd h hb⟩
  exact ⟨fun b => Classical.choose (this b), D, h, fun b hb => Classical.choose_spec (this b) hb⟩
theorem ClAt.made (w : World) : ClAt (w.alloc (.map #[] 0)) w.heap.size 0 fun _ => 0 := ⟨.map [], World.ownsMap_made _ _ _ _, fun _ _ => rfl⟩
theorem ClAt.fr {S : List Nat} (h : ClAt w mb n cl) (hF : Fr S w w') (hS : mb ∉ S) : ClAt w' mb n cl := by
  obtain ⟨D, ⟨es, clock, hb, r⟩, h2⟩ := h
  refine ⟨D, ⟨es, clock, ?_, r⟩, h2⟩
  have hl : mb < w.heap.size := by
    rcases Nat.lt_or_ge mb w.heap.size with h | h
    · exact h
    · rw [Array.getElem?_eq_none h] at hb; cases hb
  exact (hF.block mb hl hS).trans hb
theorem ClAt.lt (h : ClAt w mb n cl) : mb < w.heap.size := by
  obtain ⟨D, h1, _⟩ := h
  exact h1.lt
end Go.Proofs.Ytjgndfhfiekomaa
