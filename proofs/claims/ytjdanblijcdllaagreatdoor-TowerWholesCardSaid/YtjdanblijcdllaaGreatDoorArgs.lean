/- Arguments that are slices: opened to cells. -/
import Derived.Test.YtjdanblijcdllaaGreatDoorBase
import Derived.Deep.Slices
import Derived.Deep.Fields
import Derived.ChangeSame
set_option linter.all false
namespace Go.Proofs.YtjdanblijcdllaaGreatDoor
open Go.ChangeShapes Go.WideShapes Go.RowKit
section
variable {H : Type} {enc : TypeId × Value → H} {P : Program} {w : World} {spare : Nat → Bool} {held : Bool}
/-- Where a slice's cells lie: each element takes so many cells. 'C i j': what cell j of element i holds. -/
def RowsAt (w : World) (a : Option Addr) (len width : Nat) (C : Nat → Nat → Value) : Prop :=
  len = 0 ∨ ∃ b o, a = some ⟨b, o, none⟩ ∧ b < w.heap.size ∧ ∀ i j, i < len → j < width → w.cell? ⟨b, o + (i * width + j), none⟩ = some (C i j)
theorem addr_none {w : World} {a : Addr} {v : Value} (h : w.cell? a = some v) : a.spot = none ∧ a.block < w.heap.size := by
  unfold World.cell? at h
  split at h
  · rename_i c e f he
    refine ⟨?_, lt_of_block he⟩
    cases hs : a.spot with
    | none => rfl
    | some x => simp [hs] at h
  · simp at h
theorem add_cell {w : World} {a : Addr} {n : Nat} {v : Value} (hs : a.spot = none) (h : w.cell? (a.add n) = some v) : w.cell? ⟨a.block, a.off + n, none⟩ = some v := by
  unfold Addr.add at h
  split at h
  · subst n; cases a; simp_all
  · exact h
/-- A slice of structs whose fields are integers (each of one cell). -/
theorem open_int_structs {t e : TypeId} {fs : Array Field} {ks : List IntKind} {a : Option Addr} {len cap : Nat} {d : DataW H} {p : List MemPlace}
    (ht : P.underlying t = some (.slice e)) (he : P.underlying e = some (.struct fs)) (hC : P.cellsOf e = fs.size) (hk : ks.length = fs.size)
    (hf : ∀ j, j < fs.size → ∃ f k, fs[j]? = some f ∧ ks[j]? = some k ∧ f.offset = j ∧ P.cellsOf f.type = 1 ∧ P.underlying f.type = some (.int k))
    (h : DataW.Trod enc P w 0 spare held t (.slice a len cap) d p) (hpos : 0 < fs.size) :
    ∃ N : Nat → Nat → Int, RowsAt w a len fs.size (fun i j => .int (ks.getD j .i64) (N i j)) ∧ (∀ i j, i < len → j < fs.size → (Lit.int (ks.getD j .i64) (N i j)).wf = true) ∧ len ≤ cap ∧ cap ≤ maxLen := by
  obtain ⟨fuel, h⟩ := h
  rcases Go.Deep.open_slice ht h with ⟨hcs, _⟩ | ⟨a0, l0, c0, m, n, D, Pl, hcs, _, hl, hm, hmm, _, hi⟩
  · simp [Value.cells] at hcs
    obtain ⟨rfl, rfl, rfl⟩ := hcs
    exact ⟨fun _ _ => 0, .inl rfl, fun i j hi => by omega, Nat.le_refl _, by simp [maxLen]⟩
  · simp [Value.cells] at hcs
    obtain ⟨rfl, rfl, rfl⟩ := hcs
    have hlm : len ≤ m := by rw [hmm]; split <;> omega
    have key : ∀ i j, ∃ z : Int, i < len → j < fs.size → w.cell? (a0.add (i * fs.size + j)) = some (.int (ks.getD j .i64) z) ∧ (Lit.int (ks.getD j .i64) z).wf = true := by
      intro i j
      by_cases hil : i < len
      · by_cases hj : j < fs.size
        · obtain ⟨cs', hc, ht'⟩ := hi i (by omega)
          rw [hC] at hc
          obtain ⟨ys, n', _, _, hlen, _, hg⟩ := DataW.trod_struct he ht'
          obtain ⟨_, hcl, hat⟩ := World.cells?_some hc
          obtain ⟨f, k, h1, h2, h3, h4, h5⟩ := hf j hj
          have h6 := hg j f h1
          rw [h3, h4] at h6
          have hv : cs'[j]? = some (cs'[j]'(by omega)) := List.getElem?_eq_getElem (by omega)
          have hone : (cs'.drop j).take 1 = [cs'[j]'(by omega)] := by
            rw [List.drop_eq_getElem_cons (by omega)]; rfl
          rw [hone] at h6
          cases hy : ys[j]? with
          | none => rw [List.getElem?_eq_none_iff] at hy; omega
          | some y =>
            rw [hy] at h6
            obtain ⟨z, hz, _, hw⟩ := DataW.trod_int h5 h6
            simp only [List.cons.injEq, and_true] at hz
            have hkj : ks.getD j .i64 = k := by simp [List.getD, h2]
            refine ⟨z, fun _ _ => ⟨?_, by rw [hkj]; exact hw⟩⟩
            rw [← Go.Deep.add_add, hat j hj, hv, hz, hkj]
        · exact ⟨0, fun _ h => absurd h hj⟩
      · exact ⟨0, fun h => absurd h hil⟩
    have key2 : ∀ i, ∃ z : Nat → Int, ∀ j, i < len → j < fs.size → w.cell? (a0.add (i * fs.size + j)) = some (.int (ks.getD j .i64) (z j)) ∧ (Lit.int (ks.getD j .i64) (z j)).wf = true :=
      fun i => ⟨fun j => Classical.choose (key i j), fun j => Classical.choose_spec (key i j)⟩
    refine ⟨fun i => Classical.choose (key2 i), ?_, fun i j h1 h2 => (Classical.choose_spec (key2 i) j h1 h2).2, hl, hm⟩
    by_cases h0 : len = 0
    · exact .inl h0
    · right
      have hc := (Classical.choose_spec (key2 0) 0 (by omega) hpos).1
      have hs : a0.spot = none ∧ a0.block < w.heap.size := by
        have := addr_none hc
        simp [Addr.add] at this
        exact this
      refine ⟨a0.block, a0.off, by cases a0; simp_all, hs.2, fun i j h1 h2 => ?_⟩
      exact add_cell hs.1 (Classical.choose_spec (key2 i) j h1 h2).1
/-- A slice of integers. -/
theorem open_int_slice {t e : TypeId} {k : IntKind} {a : Option Addr} {len cap : Nat} {d : DataW H} {p : List MemPlace}
    (ht : P.underlying t = some (.slice e)) (he : P.underlying e = some (.int k)) (hC : P.cellsOf e = 1) (h : DataW.Trod enc P w 0 spare held t (.slice a len cap) d p) :
    ∃ zs : List Int, zs.length = len ∧ (∀ n ∈ zs, (Lit.int k n).wf = true) ∧ len ≤ cap ∧ cap ≤ maxLen ∧
      (len = 0 ∨ ∃ b o, a = some ⟨b, o, none⟩ ∧ b < w.heap.size ∧ ∀ i, i < len → w.cell? ⟨b, o + i, none⟩ = some (.int k (zs[i]?.getD 0))) := by
  obtain ⟨fuel, h⟩ := h
  rcases open_ints ht he hC h with ⟨hcs, _⟩ | ⟨a0, l0, c0, zs, hcs, _, hl, hm, hz, _, hcell, hwz⟩
  · simp [Value.cells] at hcs
    obtain ⟨rfl, rfl, rfl⟩ := hcs
    exact ⟨[], rfl, by simp, Nat.le_refl _, by simp [maxLen], .inl rfl⟩
  · simp [Value.cells] at hcs
    obtain ⟨rfl, rfl, rfl⟩ := hcs
    have hlz : len ≤ zs.length := by rw [hz]; split <;> omega
    refine ⟨zs.take len, by simp; omega, fun n hn => hwz n (List.mem_of_mem_take hn), hl, hm, ?_⟩
    by_cases h0 : len = 0
    · exact .inl h0
    · right
      have hc := hcell 0 (by omega)
      have hs : a0.spot = none ∧ a0.block < w.heap.size := by
        have := addr_none hc
        simp [Addr.add] at this
        exact this
      refine ⟨a0.block, a0.off, by cases a0; simp_all, hs.2, fun i h1 => ?_⟩
      have := add_cell hs.1 (hcell i (by omega))
      rw [this, List.getElem?_take_of_lt h1]
      simp [List.getD]
end
theorem RowsAt.fr {w w' : World} {a : Option Addr} {len width : Nat} {C : Nat → Nat → Value} {S : List Nat} (h : RowsAt w a len width C) (hF : Fr S w w') (hS : ∀ x, x ∈ S → w.heap.size ≤ x) : RowsAt w' a len width C := by
  rcases h with h | ⟨b, o, h1, h2, h3⟩
  · exact .inl h
  · refine .inr ⟨b, o, h1, Nat.lt_of_lt_of_le h2 hF.size, fun i j hi hj => ?_⟩
    have hb : blk w' b = blk w b := hF.block b h2 (fun hm => by have := hS b hm; omega)
    have := h3 i j hi hj
    unfold World.cell? at this ⊢
    unfold blk at hb
    simp only [hb]
    exact this
end Go.Proofs.YtjdanblijcdllaaGreatDoor
