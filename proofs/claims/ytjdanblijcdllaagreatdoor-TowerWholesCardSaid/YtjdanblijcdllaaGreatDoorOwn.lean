/- Slices that the call owns: cells, stores, frames. No program in sight. -/
import Derived.Test.YtjdanblijcdllaaGreatDoorBase
import Derived.OwnWalk
import Derived.RegionTactic
import Derived.BigRegion
import Derived.Deep.RegionWith
import Derived.Deep.RegionLaw
import Derived.Deep.AppendLies
import Derived.LoopTactic
import Derived.Deep.LoopGhost
set_option linter.all false
namespace Go.Proofs.YtjdanblijcdllaaGreatDoor
open Go.ChangeShapes Go.WideShapes Go.RowKit
variable {w w' : World} {base : Nat} {e : TypeId} {size : Nat} {v : Value} {n : Nat} {xs : List Value} {g cap : Nat}
theorem own_blk (h : w.ownsRow base e size (.slice (some ⟨g, 0, none⟩) n cap) n xs) : ∃ cur, blk w g = some (.cells cur e (0, 0)) ∧ base ≤ g ∧ n ≤ cap ∧ cap ≤ maxLen ∧ cur.size = cap * size ∧ cur.toList.take (n * size) = xs ∧ xs.length = n * size := by
  obtain ⟨h1, h2⟩ := h
  rcases h2 with ⟨h2, _⟩ | ⟨g', cap', cur, hv, hb, hh, hn, hc, hs, ht⟩
  · simp at h2
  · simp only [Value.slice.injEq, Option.some.injEq, Addr.mk.injEq, true_and, and_true] at hv
    obtain ⟨rfl, rfl⟩ := hv
    exact ⟨cur, hh, hb, hn, hc, hs, ht, h1⟩
theorem own_cell (h : w.ownsRow base e size (.slice (some ⟨g, 0, none⟩) n cap) n xs) {i : Nat} {u : Value} (hu : xs[i]? = some u) : w.cell? ⟨g, i, none⟩ = some u := by
  obtain ⟨cur, hb, _, _, _, _, ht, _⟩ := own_blk h
  refine cell_of hb ?_
  rw [← ht] at hu
  rw [List.getElem?_take] at hu
  split at hu
  · simpa using hu
  · simp at hu
theorem own_free (h : w.ownsRow base e size (.slice (some ⟨g, 0, none⟩) n cap) n xs) (i : Nat) : w.frozen? ⟨g, i, none⟩ = false := by
  obtain ⟨cur, hb, _⟩ := own_blk h
  exact free_of hb
theorem own_lt (h : w.ownsRow base e size (.slice (some ⟨g, 0, none⟩) n cap) n xs) : g < w.heap.size := by
  obtain ⟨cur, hb, _⟩ := own_blk h
  exact lt_size hb
theorem own_base (h : w.ownsRow base e size (.slice (some ⟨g, 0, none⟩) n cap) n xs) : base ≤ g := by
  obtain ⟨cur, _, hb, _⟩ := own_blk h
  exact hb
theorem own_cap (h : w.ownsRow base e size (.slice (some ⟨g, 0, none⟩) n cap) n xs) : n ≤ cap ∧ cap ≤ maxLen := by
  obtain ⟨cur, _, _, h1, h2, _⟩ := own_blk h
  exact ⟨h1, h2⟩
theorem own_mk {cur : Array Value} (hb : blk w g = some (.cells cur e (0, 0))) (h0 : base ≤ g) (h1 : n ≤ cap) (h2 : cap ≤ maxLen) (h3 : cur.size = cap * size) (h4 : cur.toList.take (n * size) = xs) :
    w.ownsRow base e size (.slice (some ⟨g, 0, none⟩) n cap) n xs := by
  refine ⟨?_, .inr ⟨g, cap, cur, rfl, h0, hb, h1, h2, h3, h4⟩⟩
  rw [← h4, List.length_take]
  have : n * size ≤ cap * size := Nat.mul_le_mul_right _ h1
  simp; omega
theorem own_set (h : w.ownsRow base e size (.slice (some ⟨g, 0, none⟩) n cap) n xs) (i : Nat) (u : Value) : (w.setCell ⟨g, i, none⟩ u).ownsRow base e size (.slice (some ⟨g, 0, none⟩) n cap) n (xs.set i u) := by
  obtain ⟨cur, hb, h0, h1, h2, h3, h4, h5⟩ := own_blk h
  refine own_mk (cur := cur.setIfInBounds i u) (by rw [blk_set, if_pos rfl, hb]; rfl) h0 h1 h2 (by simpa using h3) ?_
  rw [Array.toList_setIfInBounds, List.take_set, h4]
theorem own_fr {S : List Nat} (h : w.ownsRow base e size v n xs) (hF : Fr S w w') (hS : ∀ x, v.ownBlock = some x → x ∉ S) : w'.ownsRow base e size v n xs := by
  obtain ⟨h1, h2⟩ := h
  refine ⟨h1, ?_⟩
  rcases h2 with h2 | ⟨g, cap, cur, hv, hb, hh, r⟩
  · exact .inl h2
  · exact .inr ⟨g, cap, cur, hv, hb, hF.at (show blk w g = _ from hh) (hS g (by rw [hv]; rfl)), r⟩
theorem grown_fr {row : Option Nat} (h : w.grownBy w' row) : Fr row.toList w w' :=
  ⟨h.os, h.tape, h.output, h.size, fun k hk hn => h.block k hk (fun he => hn (by rw [← he]; simp))⟩
theorem own_len (h : w.ownsRow base e size v n xs) : xs.length = n * size := h.1
/-- The first k elements alone. -/
theorem own_take (h : w.ownsRow base e size (.slice (some ⟨g, 0, none⟩) n cap) n xs) (k : Nat) (hk : k ≤ n) : w.ownsRow base e size (.slice (some ⟨g, 0, none⟩) k cap) k (xs.take (k * size)) := by
  obtain ⟨cur, hb, h0, h1, h2, h3, h4, h5⟩ := own_blk h
  refine own_mk hb h0 (by omega) h2 h3 ?_
  rw [← h4, List.take_take]
  congr 1
  have : k * size ≤ n * size := Nat.mul_le_mul_right _ hk
  omega
end Go.Proofs.YtjdanblijcdllaaGreatDoor
