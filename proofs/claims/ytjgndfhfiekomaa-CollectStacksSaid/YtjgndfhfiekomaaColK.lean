/- Collecting: where the object of a word stands now. -/
import Derived.Test.YtjgndfhfiekomaaColJ
namespace Go.Proofs.Ytjgndfhfiekomaa
open Go.ChangeShapes Go.WideShapes Go.RowKit Go.Maps
variable {w w' : World} {c : Tk} {m n : Nat} {cl : Int → Int} {wv : Value} {T : Tr}
/-- Below B only the collector's blocks may have changed. -/
structure FB (c : Tk) (w w' : World) : Prop where
  os : w'.os = w.os
  tape : w'.tape = w.tape
  output : w'.output = w.output
  size : w.heap.size ≤ w'.heap.size
  base : c.B ≤ w.heap.size
  block : ∀ k, k < c.B → k ∉ c.own → blk w' k = blk w k
theorem FB.refl {c : Tk} {w : World} (h : c.B ≤ w.heap.size) : FB c w w := ⟨rfl, rfl, rfl, Nat.le_refl _, h, fun _ _ _ => rfl⟩
theorem FB.trans {c : Tk} {a b d : World} (h : FB c a b) (k : FB c b d) : FB c a d :=
  ⟨k.os.trans h.os, k.tape.trans h.tape, k.output.trans h.output, Nat.le_trans h.size k.size, h.base, fun i h1 h2 => (k.block i h1 h2).trans (h.block i h1 h2)⟩
theorem FB.of {c : Tk} {S : List Nat} {w w' : World} (h : Fr S w w') (hB : c.B ≤ w.heap.size) (hS : ∀ x, x ∈ S → x ∈ c.own ∨ c.B ≤ x) : FB c w w' :=
  ⟨h.os, h.tape, h.output, h.size, hB, fun k h1 h2 => h.block k (by omega) (fun hm => by rcases hS k hm with h3 | h3; exact h2 h3; omega)⟩
theorem FB.nil {c : Tk} {w w' : World} (h : Fr [] w w') (hB : c.B ≤ w.heap.size) : FB c w w' := FB.of h hB (by simp)
theorem FB.ge {c : Tk} {w w' : World} (h : FB c w w') : c.B ≤ w'.heap.size := Nat.le_trans h.base h.size
def Tr.Bd (T : Tr) : Prop := (0 ≤ T.live ∧ T.live < 2000000) ∧ (0 ≤ T.moved ∧ T.moved < 2000000) ∧ T.work.length < 2000000
def followT (cl : Int → Int) (m : Nat) (T : Tr) (x : Int) : Tr × Int :=
  if x % 8 ≠ 1 then (T, x) else
  match movedF T.A m x with
  | some y => (T, y)
  | none =>
    if szI T.A m x < 0 ∨ (T.seen.length : Int) ≤ wVal x ∨ T.seen[(wVal x).toNat]?.getD true = true then (T, x) else
    ({ (moveT cl m T x).1 with
        A := (moveT cl m T x).1.A.mark m (wVal (moveT cl m T x).2.1) (szI T.A m x + 1)
        seen := (moveT cl m T x).1.seen.set (wVal (moveT cl m T x).2.1).toNat true
        live := (moveT cl m T x).1.live + 1
        work := (moveT cl m T x).1.work ++ [(moveT cl m T x).2.1] }, (moveT cl m T x).2.1)
def FwDone (c : Tk) (m n : Nat) (cl : Int → Int) (w : World) (r : Tr × Int) (e : Ending) (w' : World) : Prop :=
  e = .returned (.int .u64 r.2) ∧ (∃ wv, TrAt w' c m n cl wv r.1) ∧ FB c w w'
theorem TrAt.ge (h : TrAt w c m n cl wv T) : ∀ x, x ∈ wv.ownBlock.toList → c.B ≤ x := by
  intro x hx
  exact own_ge' h.wk x (by simpa using hx)
theorem TrAt.c4 (h : TrAt w c m n cl wv T) : w.cell? ⟨c.tb, 4, none⟩ = some (.slice (some ⟨c.sb, 0, none⟩) T.seen.length T.seen.length) := cell_of h.t rfl
theorem TrAt.c5 (h : TrAt w c m n cl wv T) : w.cell? ⟨c.tb, 5, none⟩ = some wv := cell_of h.t rfl
theorem TrAt.c6 (h : TrAt w c m n cl wv T) : w.cell? ⟨c.tb, 6, none⟩ = some (.int .i64 T.live) := cell_of h.t rfl
theorem TrAt.ft (h : TrAt w c m n cl wv T) (i : Nat) : w.frozen? ⟨c.tb, i, none⟩ = false := free_of h.t
theorem TrAt.fs (h : TrAt w c m n cl wv T) (i : Nat) : w.frozen? ⟨c.sb, i, none⟩ = false := free_of h.s
theorem TrAt.cs (h : TrAt w c m n cl wv T) {i : Nat} (hi : i < T.seen.length) : w.cell? ⟨c.sb, i, none⟩ = some (.bool (T.seen[i]?.getD true)) :=
  cell_of h.s (by simp [hi])
theorem TrAt.setSeen (h : TrAt w c m n cl wv T) (i : Nat) : TrAt (w.setCell ⟨c.sb, i, none⟩ (.bool true)) c m n cl wv { T with seen := T.seen.set i true } := by
  have ap := h.ap
  simp only [List.nodup_cons, List.mem_cons, List.not_mem_nil, or_false, not_or] at ap
  obtain ⟨⟨a1, a2, a3, a4, a5, a6⟩, ⟨b2, b3, b4, b5, b6⟩, _⟩ := ap
  have hF : Fr [c.sb] w (w.setCell ⟨c.sb, i, none⟩ (.bool true)) := (Fr.refl _ _).setCell (by simp) _
  have hlo := h.lo
  refine ⟨?_, ?_, h.h.fr hF (by simp; exact Ne.symm b2) (by simp; exact Ne.symm b3) (by simp; exact Ne.symm b4) (by simp; exact Ne.symm b5), h.cl.fr hF (by simp; exact Ne.symm b6), own_fr h.wk hF ?_, h.ok, h.wd, h.lo, h.ap, by simpa using h.sl, h.w0, h.ls, h.lf⟩
  · rw [hF.at h.t (by simp; exact a1)]; simp
  · rw [blk_set, if_pos rfl, h.s]
    simp [setObj, List.map_set]
  · intro y hy
    have := own_ge' h.wk y hy
    simp; omega
theorem TrAt.setLive (h : TrAt w c m n cl wv T) (v : Int) : TrAt (w.setCell ⟨c.tb, 6, none⟩ (.int .i64 v)) c m n cl wv { T with live := v } := by
  have ap := h.ap
  simp only [List.nodup_cons, List.mem_cons, List.not_mem_nil, or_false, not_or] at ap
  obtain ⟨⟨a1, a2, a3, a4, a5, a6⟩, _⟩ := ap
  have hF : Fr [c.tb] w (w.setCell ⟨c.tb, 6, none⟩ (.int .i64 v)) := (Fr.refl _ _).setCell (by simp) _
  have hlo := h.lo
  refine ⟨?_, hF.at h.s (by simp; exact Ne.symm a1), h.h.fr hF (by simp; exact Ne.symm a2) (by simp; exact Ne.symm a3) (by simp; exact Ne.symm a4) (by simp; exact Ne.symm a5), h.cl.fr hF (by simp; exact Ne.symm a6), own_fr h.wk hF ?_, h.ok, h.wd, h.lo, h.ap, h.sl, h.w0, h.ls, h.lf⟩
  · rw [blk_set, if_pos rfl, h.t]; rfl
  · intro y hy
    have := own_ge' h.wk y hy
    simp; omega
theorem TrAt.setArena (h : TrAt w c m n cl wv T) {A' : Ar} (hA : ArAt w' c.b c.wb c.lb A') (ok : A'.Ok m) (wd : A'.Wd) (hF : Fr [c.lb] w w') : TrAt w' c m n cl wv { T with A := A' } := by
  have ap := h.ap
  simp only [List.nodup_cons, List.mem_cons, List.not_mem_nil, or_false, not_or] at ap
  obtain ⟨⟨a1, a2, a3, a4, a5, a6⟩, ⟨b2, b3, b4, b5, b6⟩, ⟨d3, d4, d5, d6⟩, ⟨e1, e2, e3⟩, ⟨f1, f2⟩, g1, _⟩ := ap
  have hlo := h.lo
  refine ⟨hF.at h.t (by simp; exact a5), hF.at h.s (by simp; exact b5), h.h.arena hF (by simp; exact d5) hA, h.cl.fr hF (by simp; exact Ne.symm g1), own_fr h.wk hF ?_, ok, wd, h.lo, h.ap, h.sl, h.w0, h.ls, h.lf⟩
  intro y hy
  have := own_ge' h.wk y hy
  simp; omega
/-- Another row is the work. -/
theorem TrAt.setWork (h : TrAt w c m n cl wv T) {S : List Nat} (hF : Fr S w w') (hS : ∀ y, y ∈ S → c.B ≤ y) {wv' : Value} {l : List Int} (hl : ∀ x, x ∈ l → 0 ≤ x ∧ x < 18446744073709551616)
    (hw : w'.ownsRow c.B 37 1 wv' l.length (l.map (Value.int .u64))) : TrAt (w'.setCell ⟨c.tb, 5, none⟩ wv') c m n cl wv' { T with work := l } ∧ (c.B ≤ w.heap.size → FB c w (w'.setCell ⟨c.tb, 5, none⟩ wv')) := by
  have ap := h.ap
  simp only [List.nodup_cons, List.mem_cons, List.not_mem_nil, or_false, not_or] at ap
  obtain ⟨⟨a1, a2, a3, a4, a5, a6⟩, ⟨b2, b3, b4, b5, b6⟩, ⟨d3, d4, d5, d6⟩, ⟨e1, e2, e3⟩, ⟨f1, f2⟩, g1, _⟩ := ap
  have hlo := h.lo
  have hT : ∀ y, y < c.B → y ∉ S := fun y hy hm => by have := hS y hm; omega
  have hF2 : Fr [c.tb] w' (w'.setCell ⟨c.tb, 5, none⟩ wv') := (Fr.refl _ _).setCell (by simp) _
  refine ⟨⟨?_, hF2.at (hF.at h.s (hT _ (by omega))) (by simp; exact Ne.symm a1), (h.h.fr hF (hT _ (by omega)) (hT _ (by omega)) (hT _ (by omega)) (hT _ (by omega))).fr hF2 (by simp; exact Ne.symm a2) (by simp; exact Ne.symm a3) (by simp; exact Ne.symm a4) (by simp; exact Ne.symm a5),
    (h.cl.fr hF (hT _ (by omega))).fr hF2 (by simp; exact Ne.symm a6), own_fr hw hF2 ?_, h.ok, h.wd, h.lo, h.ap, h.sl, hl, h.ls, h.lf⟩, fun hB => ?_⟩
  · rw [blk_set, if_pos rfl, hF.at h.t (hT _ (by omega))]; rfl
  · intro y hy
    have := own_ge' hw y hy
    simp; omega
  · refine FB.of (S := c.tb :: S) ((hF.mono (T := c.tb :: S) (fun x hx => .inl (List.mem_cons_of_mem _ hx))).trans hF2 (by simp)) hB ?_
    intro y hy
    rcases List.mem_cons.1 hy with rfl | hy
    · exact .inl (by simp [Tk.own])
    · exact .inr (hS y hy)
theorem mark_wd {A : Ar} (wd : A.Wd) (m : Nat) (a k : Int) : (A.mark m a k).Wd := by
  refine wd.of ?_
  unfold Ar.mark
  split <;> rfl
theorem szI_hAt {A : Ar} {m : Nat} {x : Int} (h : 0 ≤ szI A m x) : ∃ o, hAt A m x = some o ∧ szI A m x = o.n := by
  unfold szI at h ⊢
  cases ho : hAt A m x with
  | none => rw [ho] at h; simp at h
  | some o => exact ⟨o, rfl, by simp⟩
theorem fresh_bd {A : Ar} {m : Nat} (ok : A.Ok m) (N : Int) {k : Nat} (h : (A.fresh m N).2 = some k) : k + 1 ≤ m * 256 := by
  have c1 := ok.c1
  have c2 := ok.c2
  unfold Ar.fresh at h
  split at h
  · simp at h
  · unfold Ar.freshA at h
    split at h
    · simp at h; omega
    · cases hb : blockBelow A.lines m with
      | none => rw [hb] at h; simp at h
      | some q =>
        rw [hb] at h
        have := (blockBelow_lt _ _ _ hb).1
        simp at h; omega
/-- Where the object is, moved or not. -/
theorem moveT_at (ok : T.A.Ok m) (wd : T.A.Wd) (x : Int) (x0 : 0 ≤ x) (hz : 0 ≤ szI T.A m x) : ∃ a : Nat, (moveT cl m T x).2.1 = (a : Int) * 8 + 1 ∧ a < m * 256 := by
  obtain ⟨o, ho, _⟩ := szI_hAt hz
  have hb := hAt_bd wd x0 ho
  have hx : ∃ a : Nat, x = (a : Int) * 8 + 1 ∧ a < m * 256 := ⟨o.a, by omega, hb.1⟩
  unfold moveT
  split
  · exact hx
  · cases hq : (moveF T.A m x).2 with
    | none => exact hx
    | some y =>
      simp only
      unfold moveF at hq
      rw [ho] at hq
      simp only at hq
      split at hq
      · simp at hq
      · cases hf : (T.A.fresh m ((o.n : Int) + 1)).2 with
        | none => rw [hf] at hq; simp at hq
        | some k =>
          rw [hf] at hq
          have := fresh_bd ok _ hf
          have := ok.m2
          simp only [Option.some.injEq] at hq
          exact ⟨k, by rw [← hq, mk1 k (by omega)], by omega⟩
set_option maxRecDepth 10000 in
theorem follow_other (h : TrAt w c m n cl wv T) (hB : c.B ≤ w.heap.size) (x : Int) (x0 : 0 ≤ x) (x1 : x < 18446744073709551616) (hx : x % 8 ≠ 1) :
    Calls Try.prog 88 #[.pointer (some ⟨c.tb, 0, none⟩), .int .u64 x] w (FwDone c m n cl w (followT cl m T x)) := by
  have E : Hid (FwDone c m n cl w (followT cl m T x) (.returned (.int .u64 x)) w) := Lib.hid (by
    unfold followT
    rw [if_pos hx]
    exact ⟨rfl, ⟨wv, h⟩, FB.refl hB⟩)
  have CK := Lib.hid (kind_c x w x0 x1)
  have hk : (x % 8 == 1) = false := by simpa using hx
  generalize followT cl m T x = r at *
  clear h hB
  go_enter Try.func88, Try.ntmps88
  go_wp2_with (go_at_call 81; refine CK.out.mono ?_; rintro e w' ⟨rfl, rfl⟩)
  go_ret
  exact E.out
set_option maxRecDepth 10000 in
theorem follow_moved (h : TrAt w c m n cl wv T) (hB : c.B ≤ w.heap.size) (x : Int) (x0 : 0 ≤ x) (x1 : x < 18446744073709551616) (hx : x % 8 = 1) (y : Int) (hy : movedF T.A m x = some y) :
    Calls Try.prog 88 #[.pointer (some ⟨c.tb, 0, none⟩), .int .u64 x] w (FwDone c m n cl w (followT cl m T x)) := by
  have E : Hid (∀ w', Fr [] w w' → FwDone c m n cl w (followT cl m T x) (.returned (.int .u64 y)) w') := Lib.hid (by
    intro w' hF
    unfold followT
    rw [if_neg (by simpa using hx), hy]
    exact ⟨rfl, ⟨wv, h.keep hF⟩, FB.nil hF hB⟩)
  have CK := Lib.hid (kind_c x w x0 x1)
  have CM := Lib.hid (omoved_c w h.h h.ok h.wd x x0 x1)
  have k0 := h.c0
  rw [hy] at CM
  generalize followT cl m T x = r at *
  clear h hB hy
  go_enter Try.func88, Try.ntmps88
  go_wp2_with (go_at_call 81; refine CK.out.mono ?_; rintro e w' ⟨rfl, rfl⟩)
  refine CM.out.mono ?_
  rintro e w1 ⟨rfl, F1⟩
  simp only [wordVal]
  go_wp2
  go_ret
  exact E.out _ F1
end Go.Proofs.Ytjgndfhfiekomaa
