/- Collecting on paper: what stands behind a collection. No program in sight. -/
import Derived.Test.YtjgndfhfiekomaaColU
namespace Go.Proofs.Ytjgndfhfiekomaa
variable {A A' : Ar} {m N : Nat} {G K G' K' : List Bool} {D C C' : Nat → Option Ob} {T : Tr} {ms : List Nat} {cl : Int → Int} {ls ls' : List (List Int)}
theorem HG.makeS (h : HG A m G K D) {kind n x : Int} (hx : (makeF A m kind n).2 = some x) {j : Nat} (hj : D j = none) :
    ∃ (G' : List Bool) (a : Nat), x = pw a ∧ 0 ≤ n ∧ n ≤ 240 ∧ 0 ≤ kind ∧ kind < 32 ∧ HG (makeF A m kind n).1 m G' K (updD D j ⟨a, kind.toNat, 0, List.replicate n.toNat (emptyW kind)⟩) := by
  have := (h.make kind n hj).2
  rw [hx] at this
  obtain ⟨⟨a, k, p, fs⟩, G', h1, h2, h3, h4, h5, h6, h7, h8, h9⟩ := this
  simp only at h1 h6 h7 h8
  subst h6 h7 h8
  exact ⟨G', a, h1, h2, h3, h4, h5, h9⟩
theorem HG.setS (h : HG A m G K D) {j : Nat} {o : Ob} (ho : D j = some o) (i : Nat) (hi : i < o.fs.length) {v : Int} (v0 : 0 ≤ v) (v1 : v < 18446744073709551616) :
    (setF A m (pw o.a) i v).2 = 0 ∧ HG (setF A m (pw o.a) i v).1 m G K (updD D j { o with fs := o.fs.set i v }) := by
  have := h.set ho (i : Int) v v0 v1
  rw [if_pos ⟨by omega, by omega⟩, Int.toNat_natCast] at this
  exact this
def Unmarked (A : Ar) (m : Nat) : Prop := ∀ i, i < m * 16 → mk' A.lines i = false
theorem Unmarked.start (m : Nat) : Unmarked (Ar.new m) m := fun i hi => by
  simp [mk', Ar.new, clear, hi]
theorem Unmarked.make (h : Unmarked A m) (hg : HG A m G K D) (kind n : Int) {j : Nat} (hj : D j = none) : Unmarked (makeF A m kind n).1 m := fun i hi => by rw [(hg.make kind n hj).1]; exact h i hi
theorem Unmarked.set (h : Unmarked A m) (x i v : Int) : Unmarked (setF A m x i v).1 m := fun q hq => by rw [setF_lines]; exact h q hq
theorem Unmarked.pins (h : Unmarked A m) (x d : Int) : Unmarked (pinsF A m x d).1 m := fun q hq => by rw [pinsF_lines]; exact h q hq
/-- So many of the first N. -/
def cntB (f : Nat → Bool) : Nat → Nat
  | 0 => 0
  | n + 1 => cntB f n + if f n then 1 else 0
theorem len_count (f : Nat → Bool) (N : Nat) (l : List Nat) (hn : l.Nodup) (hl : ∀ j, j ∈ l ↔ j < N ∧ f j = true) : l.length = cntB f N := by
  induction N generalizing l with
  | zero =>
    cases l with
    | nil => rfl
    | cons x l => have := ((hl x).1 (by simp)).1; omega
  | succ N ih =>
    simp only [cntB]
    by_cases hN : f N = true
    · have hm : N ∈ l := (hl N).2 ⟨by omega, hN⟩
      have h1 := ih (l.erase N) (hn.erase N) (fun j => by
        rw [hn.mem_erase_iff, hl]
        constructor
        · rintro ⟨a, b, c⟩; exact ⟨by omega, c⟩
        · rintro ⟨b, c⟩; exact ⟨by omega, by omega, c⟩)
      rw [List.length_erase_of_mem hm] at h1
      rw [if_pos hN, ← h1]
      have := List.length_pos_of_mem hm
      omega
    · rw [if_neg hN]
      refine ih l hn (fun j => ?_)
      rw [hl]
      constructor
      · rintro ⟨b, c⟩
        refine ⟨?_, c⟩
        have : j ≠ N := fun he => hN (he ▸ c)
        omega
      · rintro ⟨b, c⟩; exact ⟨by omega, c⟩
theorem cnt_cur {o c : Ob} (h : Cur D C ms (cntO o) o c) : cntO c = cntO o := by
  have key : countF o.kind o.fs.length (c.fs[1]?.getD 0) = countF o.kind o.fs.length (o.fs[1]?.getD 0) := by
    rcases Nat.lt_or_ge 1 (cntO o) with h1 | h1
    · have hl := cntO_le o
      rcases h.a 1 h1 (by omega) with ⟨_, h2⟩ | ⟨k, ok, ck, h2, h3, h4, h5, h6⟩
      · rw [h2]
      · rw [h3, h6]
        unfold countF
        simp [pw_mod]
    · rw [h.b 1 h1]
  unfold cntO
  rw [h.k, h.l, key]
theorem After.wok (h : After D m cl ls ls' T G K C ms) {x y : Int} (hx : Tx D C ms x y) : y % 8 ≠ 1 ∨ ∃ k ok, keptD C ms k = some ok ∧ y = pw ok.a := by
  rcases hx with ⟨h1, h2⟩ | ⟨k, ok, ck, h2, h3, h4, h5, h6⟩
  · exact .inl (by rw [h2]; exact h1)
  · exact .inr ⟨k, ck, by unfold keptD; rw [if_pos h4]; exact h5, h6⟩
theorem kept_some {j : Nat} {c : Ob} (h : keptD C ms j = some c) : j ∈ ms ∧ C j = some c := by
  unfold keptD at h
  split at h
  · rename_i hj; exact ⟨hj, h⟩
  · simp at h
/-- Behind a collection all counted fields tell objects that are kept, or none. -/
theorem After.closed (h : After D m cl ls ls' T G K C ms) : Closed (keptD C ms) := by
  intro j c i hj hi
  obtain ⟨hm, hc⟩ := kept_some hj
  obtain ⟨o, c', h1, h2, h3, _⟩ := h.mo j hm
  rw [hc] at h2
  injection h2 with h2
  subst h2
  rw [cnt_cur h3] at hi
  exact h.wok (h3.a i hi (Nat.lt_of_lt_of_le hi (cntO_le o)))
theorem After.bd (h : After D m cl ls ls' T G K C ms) (hN : ∀ j o, D j = some o → j < N) : ∀ j o, keptD C ms j = some o → j < N := by
  intro j c hj
  obtain ⟨hm, _⟩ := kept_some hj
  obtain ⟨o, _, h1, _⟩ := h.mo j hm
  exact hN j o h1
theorem HG.uniq (h : HG A m G K D) {i j : Nat} {o p : Ob} (ho : D i = some o) (hp : D j = some p) (he : o.a = p.a) : i = j := by
  apply Classical.byContradiction
  intro hne
  have e1 := o.ee
  have e2 := p.ee
  exact h.ap i j o p hne ho hp p.a (by omega) (by omega) (by omega) (by omega)
/-- What stands for an object's word. -/
theorem Tx.ob (hg : HG A m G K D) {j : Nat} {o : Ob} (ho : D j = some o) {y : Int} (h : Tx D C ms (pw o.a) y) : j ∈ ms ∧ ∃ c, C j = some c ∧ y = pw c.a := by
  rcases h with ⟨h1, _⟩ | ⟨k, ok, ck, h2, h3, h4, h5, h6⟩
  · exact absurd (pw_mod _) h1
  · have := hg.uniq ho h2 (pw_inj h3)
    subst this
    exact ⟨h4, ck, h5, h6⟩
theorem Tx.non {x y : Int} (h : Tx D C ms x y) (hx : x % 8 ≠ 1) : y = x := by
  rcases h with ⟨_, h⟩ | ⟨k, ok, ck, _, h3, _⟩
  · exact h
  · exact absurd (by rw [h3]; exact pw_mod _) hx
/-- Nothing is reached of no places. -/
theorem After.none (h : After D m cl ls ls' T G K C ms) (hn : ∀ l, l ∈ ls → ∀ x, x ∈ l → x % 8 ≠ 1) : ms = [] ∧ T.live = 0 ∧ T.moved = 0 ∧ emptyIn T.A.sweep.lines m = m := by
  have hr : ∀ j, ¬ Reach D ls j := by
    intro j hj
    induction hj with
    | root l x j o a1 a2 a3 a4 => exact hn l a1 x a2 (by rw [a4]; exact pw_mod _)
    | field _ _ _ _ _ _ _ _ _ _ ih => exact ih
  have hms : ms = [] := List.eq_nil_iff_forall_not_mem.2 fun j hj => hr j ((h.md j).1 hj)
  subst hms
  have h1 := h.lv
  have h2 := h.m0
  have h3 := h.m1
  have h4 := h.em
  have h5 := emptyIn_le T.A.sweep.lines m
  simp only [List.length_nil] at h1 h4
  exact ⟨rfl, by omega, by omega, by omega⟩
end Go.Proofs.Ytjgndfhfiekomaa
