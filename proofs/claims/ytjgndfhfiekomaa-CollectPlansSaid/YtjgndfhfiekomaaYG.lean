/- same: its own memory, and what it says. -/
import Derived.Test.YtjgndfhfiekomaaYE
import Derived.Test.YtjgndfhfiekomaaYF
set_option linter.all false
namespace Go.Proofs.Ytjgndfhfiekomaa
open Go.ChangeShapes Go.WideShapes Go.RowKit
theorem size_drew (w : World) : w.drew.heap.size = w.heap.size := rfl
theorem size_drewN (w : World) (n : Nat) : (w.drewN n).heap.size = w.heap.size := rfl
theorem Qu.base {w : World} {B : Nat} {v : Value} {l : List Int} (h : Qu w B v l) : B ≤ w.heap.size := by obtain ⟨g, _, h1, h2⟩ := h.own; omega
theorem pw_tm (a : Nat) : ((pw a).tmod 8 != 1) = false := by
  have h1 := pw_mod a
  have h2 : 0 ≤ pw a := by unfold pw; omega
  rw [Int.tmod_eq_emod_of_nonneg h2, h1]; rfl
/-- The first one is taken off a queue, whatever room there is. -/
theorem Qu.pops {w : World} {B : Nat} {l : List Int} {g o cap : Nat} {x : Int} (h : Qu w B (.slice (some ⟨g, o, none⟩) (l.length + 1) cap) (x :: l)) :
    ∃ v', Qu w B v' l ∧ (∀ w', (Instr.slice 88 (.slice (some ⟨g, o, none⟩) (l.length + 1) cap) (some (.int .i64 1)) none none).run Try.prog w' = .ok v' w') ∧ v'.ownBlock = some g := by
  have hu := Try.underlying88
  have hc : l.length + 1 ≤ cap := by
    obtain ⟨g', o', cap', cur, h1, h2, h3, h4, _⟩ := h
    simp only [Value.slice.injEq] at h1
    simp only [List.length_cons] at h4
    omega
  have h1 : (1 : Int) ≤ (l.length : Int) + 1 := by omega
  by_cases hc1 : cap = 1
  · subst hc1
    obtain ⟨hl, hq⟩ := h.pop0
    subst hl
    refine ⟨_, hq, fun w' => ?_, rfl⟩
    simp [go_sem, *]
  · refine ⟨_, h.pop, fun w' => ?_, rfl⟩
    simp [go_sem, *]
/-- The rows at and met, and the queue. -/
structure SM (w wr : World) (ga gm B : Nat) (X : List Int) (L : List Bool) (q : Value) (l : List Int) : Prop where
  fr : Fr [] w wr
  ax : blk wr ga = some (.cells (wordCells X) 37 (0, 0))
  ot : blk wr gm = some (.cells (boolCells L) 4 (0, 0))
  qu : Qu wr B q l
  lo : (ga < B ∧ gm < B) ∧ ga ≠ gm ∧ w.heap.size ≤ B ∧ w.heap.size ≤ ga ∧ w.heap.size ≤ gm
variable {w wr w2 : World} {ga gm B : Nat} {X : List Int} {L : List Bool} {q q' : Value} {l l' : List Int}
theorem SM.keep (h : SM w wr ga gm B X L q l) (hF : Fr [] wr w2) : SM w w2 ga gm B X L q l :=
  ⟨h.fr.same hF, hF.at h.ax (by simp), hF.at h.ot (by simp), h.qu.keep hF, h.lo⟩
theorem SM.push (h : SM w wr ga gm B X L q l) (hq : Qu w2 B q' l') (hF : Fr q.ownBlock.toList wr w2) : SM w w2 ga gm B X L q' l' := by
  obtain ⟨g, h1, h2, h3⟩ := h.qu.own
  obtain ⟨⟨l1, l2⟩, l3, l4, l5, l6⟩ := h.lo
  rw [h1] at hF
  exact ⟨h.fr.trans hF (by simp; omega), hF.at h.ax (by simp; omega), hF.at h.ot (by simp; omega), hq, h.lo⟩
theorem SM.mark (h : SM w wr ga gm B X L q l) (j : Nat) : SM w (wr.setCell ⟨gm, j, none⟩ (.bool true)) ga gm B X (L.set j true) q l := by
  have hF : Fr [gm] wr (wr.setCell ⟨gm, j, none⟩ (.bool true)) := (Fr.refl _ _).setCell (by simp) _
  obtain ⟨g, h1, h2, h3⟩ := h.qu.own
  obtain ⟨⟨l1, l2⟩, l3, l4, l5, l6⟩ := h.lo
  refine ⟨h.fr.trans hF (by simp; omega), hF.at h.ax (by simp; omega), ?_, h.qu.fr hF (fun x hx => by rw [h1] at hx; simp at hx ⊢; omega), h.lo⟩
  rw [blk_set, if_pos rfl, h.ot]
  simp [setObj, boolCells, List.map_set]
theorem SM.setX (h : SM w wr ga gm B X L q l) (j : Nat) (v : Int) : SM w (wr.setCell ⟨ga, j, none⟩ (.int .u64 v)) ga gm B (X.set j v) L q l := by
  have hF : Fr [ga] wr (wr.setCell ⟨ga, j, none⟩ (.int .u64 v)) := (Fr.refl _ _).setCell (by simp) _
  obtain ⟨g, h1, h2, h3⟩ := h.qu.own
  obtain ⟨⟨l1, l2⟩, l3, l4, l5, l6⟩ := h.lo
  refine ⟨h.fr.trans hF (by simp; omega), ?_, hF.at h.ot (by simp; omega), h.qu.fr hF (fun x hx => by rw [h1] at hx; simp at hx ⊢; omega), h.lo⟩
  rw [blk_set, if_pos rfl, h.ax]
  simp [setObj, wordCells, List.map_set]
theorem SM.cells (h : SM w wr ga gm B X L q l) : (∀ i, wr.frozen? ⟨ga, i, none⟩ = false) ∧ (∀ i, wr.frozen? ⟨gm, i, none⟩ = false) ∧ (∀ (j : Nat) (x : Int), X[j]? = some x → wr.cell? ⟨ga, j, none⟩ = some (.int .u64 x)) ∧ ∀ (j : Nat) (x : Bool), L[j]? = some x → wr.cell? ⟨gm, j, none⟩ = some (.bool x) :=
  ⟨fun i => free_of h.ax, fun i => free_of h.ot, fun j x hx => cell_of h.ax (by simp [wordCells, hx]), fun j x hx => cell_of h.ot (by simp [boolCells, hx])⟩
/-- What was met is where it is said to be. -/
structure SV (D : Nat → Option Ob) (n : Nat) (X : List Int) (L : List Bool) (l : List Int) : Prop where
  a : ∀ y, y ∈ l → ∃ j : Nat, y = (j : Int) ∧ L[j]? = some true
  b : ∀ j : Nat, L[j]? = some true → ∃ o, D j = some o ∧ X[j]? = some (pw o.a)
  e : L.length = n ∧ X.length = n
  m : 2 * nF L + l.length ≤ 2 * n
variable {D : Nat → Option Ob} {n : Nat}
theorem SV.start (D : Nat → Option Ob) (n : Nat) : SV D n (zeros n) (falses n) [] := by
  refine ⟨by simp, fun j h => ?_, by simp [zeros, falses], ?_⟩
  · simp only [falses, List.getElem?_replicate] at h
    split at h <;> simp at h
  · have : nF (falses n) ≤ (falses n).length := List.countP_le_length
    simp [falses] at this
    simp only [List.length_nil]
    unfold falses at *
    omega
theorem SV.meet (h : SV D n X L l) {k : Nat} {o : Ob} (hk : D k = some o) (hL : L[k]? = some false) : SV D n (X.set k (pw o.a)) (L.set k true) (l ++ [(k : Int)]) := by
  have hlt := lt_some hL
  have hX : k < X.length := by rw [h.e.2, ← h.e.1]; exact hlt
  have hset : ∀ j : Nat, (L.set k true)[j]? = some true ↔ j = k ∨ L[j]? = some true := by
    intro j
    by_cases hj : j = k
    · subst hj; rw [List.getElem?_set_self hlt]; simp
    · rw [List.getElem?_set_ne (Ne.symm hj)]; simp [hj]
  refine ⟨?_, ?_, by simpa using h.e, ?_⟩
  · intro y hy
    rcases List.mem_append.1 hy with hy | hy
    · obtain ⟨j, h1, h2⟩ := h.a y hy
      exact ⟨j, h1, (hset j).2 (.inr h2)⟩
    · simp only [List.mem_singleton] at hy
      exact ⟨k, hy, (hset k).2 (.inl rfl)⟩
  · intro j hj
    by_cases hjk : j = k
    · subst hjk
      exact ⟨o, hk, by rw [List.getElem?_set_self hX]⟩
    · obtain ⟨p, h1, h2⟩ := h.b j (((hset j).1 hj).resolve_left hjk)
      exact ⟨p, h1, by rw [List.getElem?_set_ne (Ne.symm hjk)]; exact h2⟩
  · have := nF_set hL
    have := h.m
    simp only [List.length_append, List.length_cons, List.length_nil]
    omega
theorem SV.pop {y : Int} (h : SV D n X L (y :: l)) : SV D n X L l :=
  ⟨fun z hz => h.a z (List.mem_cons_of_mem _ hz), h.b, h.e, by have := h.m; simp only [List.length_cons] at this; omega⟩
theorem SV.same (h : SV D n X L l) {k : Nat} {o : Ob} (hk : D k = some o) (hL : L[k]? = some true) : X[k]? = some (pw o.a) := by
  obtain ⟨p, h1, h2⟩ := h.b k hL
  rw [hk] at h1
  injection h1 with h1
  rw [h1]; exact h2
end Go.Proofs.Ytjgndfhfiekomaa
