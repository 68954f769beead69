/- The arena on paper: what is given is given once. No program in sight. -/
import Derived.Test.YtjgndfhfiekomaaArenaP
set_option linter.all false
namespace Go.Proofs.Ytjgndfhfiekomaa
/-- A run of words that are left: in one block, its lines taken, none of it given or kept. -/
structure RunOk (m : Nat) (l : List (Bool × Bool)) (G K : Nat → Bool) (f t : Nat) : Prop where
  blk : f < t → f / 256 = (t - 1) / 256
  bnd : t ≤ m * 256
  tak : ∀ i, f ≤ i → i < t → tk l (i / 16) = true
  giv : ∀ i, f ≤ i → i < t → G i = false
  kep : ∀ i, f ≤ i → i < t → K (i / 16) = false
def Apart (f t f' t' : Nat) : Prop := ∀ i, f ≤ i → i < t → f' ≤ i → i < t' → False
structure Inv (m : Nat) (l : List (Bool × Bool)) (G K : Nat → Bool) (f1 t1 f2 t2 f3 t3 : Nat) : Prop where
  r1 : RunOk m l G K f1 t1
  r2 : RunOk m l G K f2 t2
  r3 : RunOk m l G K f3 t3
  d12 : Apart f1 t1 f2 t2
  d13 : Apart f1 t1 f3 t3
  d23 : Apart f2 t2 f3 t3
  gt : ∀ i, G i = true → i < m * 256 ∧ tk l (i / 16) = true
  kt : ∀ i, K i = true → i < m * 16 ∧ tk l i = true
theorem Apart.symm {f t f' t' : Nat} (h : Apart f t f' t') : Apart f' t' f t := fun i a b c d => h i c d a b
theorem Inv.swap12 {m : Nat} {l : List (Bool × Bool)} {G K : Nat → Bool} {f1 t1 f2 t2 f3 t3 : Nat} (h : Inv m l G K f1 t1 f2 t2 f3 t3) : Inv m l G K f2 t2 f1 t1 f3 t3 :=
  ⟨h.r2, h.r1, h.r3, h.d12.symm, h.d23, h.d13, h.gt, h.kt⟩
theorem Inv.swap13 {m : Nat} {l : List (Bool × Bool)} {G K : Nat → Bool} {f1 t1 f2 t2 f3 t3 : Nat} (h : Inv m l G K f1 t1 f2 t2 f3 t3) : Inv m l G K f3 t3 f2 t2 f1 t1 :=
  ⟨h.r3, h.r2, h.r1, h.d23.symm, h.d13.symm, h.d12.symm, h.gt, h.kt⟩
def plus (G : Nat → Bool) (a b : Nat) : Nat → Bool := fun i => G i || decide (a ≤ i ∧ i < b)
theorem Inv.take {m : Nat} {l : List (Bool × Bool)} {G K : Nat → Bool} {f1 t1 f2 t2 f3 t3 : Nat} (h : Inv m l G K f1 t1 f2 t2 f3 t3) (n : Nat) (hn : f1 + n ≤ t1) :
    Inv m l (plus G f1 (f1 + n)) K (f1 + n) t1 f2 t2 f3 t3 := by
  refine ⟨⟨?_, h.r1.bnd, ?_, ?_, ?_⟩, ⟨h.r2.blk, h.r2.bnd, h.r2.tak, ?_, h.r2.kep⟩, ⟨h.r3.blk, h.r3.bnd, h.r3.tak, ?_, h.r3.kep⟩, ?_, ?_, h.d23, ?_, h.kt⟩
  · intro a; have := h.r1.blk (by omega); omega
  · intro i a b; exact h.r1.tak i (by omega) b
  · intro i a b; simp only [plus, h.r1.giv i (by omega) b]; simp; omega
  · intro i a b; exact h.r1.kep i (by omega) b
  · intro i a b; simp only [plus, h.r2.giv i a b, Bool.false_or, decide_eq_false_iff_not]
    intro hc; exact h.d12 i hc.1 (by omega) a b
  · intro i a b; simp only [plus, h.r3.giv i a b, Bool.false_or, decide_eq_false_iff_not]
    intro hc; exact h.d13 i hc.1 (by omega) a b
  · intro i a b c d; exact h.d12 i (by omega) b c d
  · intro i a b c d; exact h.d13 i (by omega) b c d
  · intro i hi
    simp only [plus, Bool.or_eq_true, decide_eq_true_eq] at hi
    rcases hi with hi | hi
    · exact h.gt i hi
    · have := h.r1.bnd
      exact ⟨by omega, h.r1.tak i hi.1 (by omega)⟩
theorem tk_out (l : List (Bool × Bool)) (i : Nat) (h : l.length ≤ i) : tk l i = true := by simp [tk, h]
theorem tk_claimed' (l : List (Bool × Bool)) (f k i : Nat) : tk (claimed l f k) i = if f ≤ i ∧ i < k then true else tk l i := by
  by_cases hi : i < l.length
  · exact tk_claimed l f k i hi
  · rw [tk_out _ _ (by rw [len_claimed]; omega), tk_out _ _ (by omega)]; simp
theorem Inv.fresh {m : Nat} {l : List (Bool × Bool)} {G K : Nat → Bool} {f1 t1 f2 t2 f3 t3 : Nat} (h : Inv m l G K f1 t1 f2 t2 f3 t3) (f t : Nat) (hft : f < t) (ht : t ≤ m * 16)
    (hfree : ∀ i, f ≤ i → i < t → tk l i = false) (hb : f / 16 = (t - 1) / 16) : Inv m (claimed l f t) G K (f * 16) (t * 16) f2 t2 f3 t3 := by
  have mono : ∀ i, tk l i = true → tk (claimed l f t) i = true := fun i hi => by rw [tk_claimed']; split <;> simp_all
  have old : ∀ i, tk l i = true → ¬ (f ≤ i ∧ i < t) := fun i hi hc => by rw [hfree i hc.1 hc.2] at hi; simp at hi
  refine ⟨⟨?_, by omega, ?_, ?_, ?_⟩, ⟨h.r2.blk, h.r2.bnd, fun i a b => mono _ (h.r2.tak i a b), h.r2.giv, h.r2.kep⟩, ⟨h.r3.blk, h.r3.bnd, fun i a b => mono _ (h.r3.tak i a b), h.r3.giv, h.r3.kep⟩, ?_, ?_, h.d23, ?_, ?_⟩
  · intro _; omega
  · intro i a b; rw [tk_claimed', if_pos (by omega)]
  · intro i a b
    cases hg : G i with
    | false => rfl
    | true => exact absurd (show f ≤ i / 16 ∧ i / 16 < t by omega) (old _ (h.gt i hg).2)
  · intro i a b
    cases hg : K (i / 16) with
    | false => rfl
    | true => exact absurd (show f ≤ i / 16 ∧ i / 16 < t by omega) (old _ (h.kt _ hg).2)
  · intro i a b c d; exact absurd (show f ≤ i / 16 ∧ i / 16 < t by omega) (old _ (h.r2.tak i c d))
  · intro i a b c d; exact absurd (show f ≤ i / 16 ∧ i / 16 < t by omega) (old _ (h.r3.tak i c d))
  · intro i hi; exact ⟨(h.gt i hi).1, mono _ (h.gt i hi).2⟩
  · intro i hi; exact ⟨(h.kt i hi).1, mono _ (h.kt i hi).2⟩
theorem Inv.congr {m : Nat} {l l' : List (Bool × Bool)} {G K : Nat → Bool} {f1 t1 f2 t2 f3 t3 : Nat} (h : Inv m l G K f1 t1 f2 t2 f3 t3) (he : ∀ i, tk l' i = tk l i) : Inv m l' G K f1 t1 f2 t2 f3 t3 := by
  have ro : ∀ {f t}, RunOk m l G K f t → RunOk m l' G K f t := fun r => ⟨r.blk, r.bnd, fun i a b => by rw [he]; exact r.tak i a b, r.giv, r.kep⟩
  exact ⟨ro h.r1, ro h.r2, ro h.r3, h.d12, h.d13, h.d23, fun i hi => by rw [he]; exact h.gt i hi, fun i hi => by rw [he]; exact h.kt i hi⟩
theorem Inv.none {m : Nat} {l : List (Bool × Bool)} {K : Nat → Bool} (hk : ∀ i, K i = true → i < m * 16 ∧ tk l i = true) : Inv m l (fun _ => false) K 0 0 0 0 0 0 := by
  have ro : RunOk m l (fun _ => false) K 0 0 := ⟨fun h => by omega, by omega, fun i _ h => by omega, fun _ _ _ => rfl, fun i _ h => by omega⟩
  exact ⟨ro, ro, ro, fun i _ h => by omega, fun i _ h => by omega, fun i _ h => by omega, fun i h => by simp at h, hk⟩
theorem freeIn_full (l : List (Bool × Bool)) (o n : Nat) (h : freeIn l o n = n) (hl : o + n ≤ l.length) : ∀ i, o ≤ i → i < o + n → tk l i = false := by
  induction n with
  | zero => intro i a b; omega
  | succ n ih =>
    have hs := freeIn_step l o n (by omega)
    have hle := freeIn_le l o n
    intro i a b
    by_cases ht : tk l (o + n) = true
    · rw [if_pos ht] at hs; omega
    · rw [if_neg ht] at hs
      by_cases hi : i = o + n
      · subst hi; simpa using ht
      · exact ih (by omega) (by omega) i a (by omega)
/-- The arena, what was given since the last sweep, what was kept, what is marked. -/
structure AInv (A : Ar) (m : Nat) (G K M : List Bool) : Prop where
  ok : A.Ok m
  inv : Inv m A.lines (fun i => G[i]?.getD false) (fun i => K[i]?.getD false) A.sf A.st A.gf A.gt A.cf A.ct
  gl : G.length = m * 256
  kl : K.length = m * 16
  ml : M.length = m * 16
  mm : ∀ i, M[i]?.getD false = true → mk' A.lines i = true
/-- The words from a to b are set. -/
def ones (G : List Bool) (a b : Nat) : List Bool := G.mapIdx fun i x => if a ≤ i ∧ i < b then true else x
theorem ones_get (G : List Bool) (a b i : Nat) : (ones G a b)[i]? = (G[i]?).map fun x => if a ≤ i ∧ i < b then true else x := by simp [ones, List.getElem?_mapIdx]
theorem len_ones (G : List Bool) (a b : Nat) : (ones G a b).length = G.length := by simp [ones]
theorem ones_self (G : List Bool) (a : Nat) : ones G a a = G := by
  apply List.ext_getElem?
  intro i
  rw [ones_get]
  cases G[i]? with
  | none => rfl
  | some x => simp; omega
theorem ones_step (G : List Bool) (a k : Nat) (h : a ≤ k) : (ones G a k).set k true = ones G a (k + 1) := by
  apply List.ext_getElem?
  intro i
  rw [ones_get]
  by_cases hi : i = k
  · subst hi
    by_cases hl : i < G.length
    · rw [List.getElem?_set_self (by rw [len_ones]; exact hl)]; simp [hl, h]
    · rw [List.getElem?_eq_none (by simp [len_ones]; omega), List.getElem?_eq_none (by omega)]; rfl
  · rw [List.getElem?_set_ne (by omega), ones_get]
    congr 1
    funext x
    have : (a ≤ i ∧ i < k) ↔ (a ≤ i ∧ i < k + 1) := by omega
    simp only [this]
theorem ones_fun (G : List Bool) (a b : Nat) (h : b ≤ G.length) : (fun i => (ones G a b)[i]?.getD false) = plus (fun i => G[i]?.getD false) a b := by
  funext i
  simp only [ones_get, plus]
  by_cases hi : i < G.length
  · simp only [List.getElem?_eq_getElem hi, Option.map_some, Option.getD_some]
    by_cases hc : a ≤ i ∧ i < b <;> simp [hc]
  · simp only [List.getElem?_eq_none (show G.length ≤ i by omega), Option.map_none, Option.getD_none]
    simp; omega
/-- What Alloc and Fresh give: words of one block that weren't given, in no line that is kept. -/
structure Gave (A' : Ar) (m : Nat) (G K M : List Bool) (n N : Nat) : Prop where
  inv : AInv A' m (ones G n (n + N)) K M
  n1 : 1 ≤ N
  n2 : N ≤ 256
  bnd : n + N ≤ m * 256
  blk : n / 256 = (n + N - 1) / 256
  free : ∀ i, n ≤ i → i < n + N → G[i]?.getD false = false ∧ K[i / 16]?.getD false = false
theorem gave_mk {A' : Ar} {m : Nat} {G K M : List Bool} {l : List (Bool × Bool)} {f t f2 t2 f3 t3 : Nat} (N : Nat) (ok : A'.Ok m) (h : Inv m l (fun i => G[i]?.getD false) (fun i => K[i]?.getD false) f t f2 t2 f3 t3)
    (hl : A'.lines = l) (gl : G.length = m * 256) (kl : K.length = m * 16) (ml : M.length = m * 16) (mm : ∀ i, M[i]?.getD false = true → mk' l i = true)
    (hN1 : 1 ≤ N) (hN2 : N ≤ 256) (hN : f + N ≤ t)
    (he : ∀ G', Inv m l G' (fun i => K[i]?.getD false) (f + N) t f2 t2 f3 t3 → Inv m l G' (fun i => K[i]?.getD false) A'.sf A'.st A'.gf A'.gt A'.cf A'.ct) : Gave A' m G K M f N := by
  subst hl
  have hb := h.r1.bnd
  refine ⟨⟨ok, ?_, by rw [len_ones]; exact gl, kl, ml, mm⟩, hN1, hN2, by omega, ?_, fun i a b => ⟨h.r1.giv i a (by omega), h.r1.kep i a (by omega)⟩⟩
  · rw [ones_fun _ _ _ (by omega)]
    exact he _ (h.take N hN)
  · have := h.r1.blk (by omega); omega
theorem mk_claimed (l : List (Bool × Bool)) (f t i : Nat) : mk' (claimed l f t) i = mk' l i := by
  simp only [mk', claimed_get]
  cases l[i]? with
  | none => rfl
  | some x => simp only [Option.map_some, Option.getD_some]; split <;> rfl
def GaveOr (r : Ar × Option Nat) (m : Nat) (G K M : List Bool) (N : Nat) : Prop :=
  match r.2 with
  | some n => Gave r.1 m G K M n N
  | none => AInv r.1 m G K M
theorem AInv.alloc {A : Ar} {m : Nat} {G K M : List Bool} (h : AInv A m G K M) (N : Int) :
    GaveOr (A.alloc m N) m G K M N.toNat := by
  have ok' := h.ok.alloc N
  obtain ⟨ok, inv, gl, kl, ml, mm⟩ := h
  have hll := ok.ll
  have g1 := ok.s1
  have g2 := ok.g1
  unfold Ar.alloc at ok' ⊢
  by_cases hb : N < 1 ∨ 256 < N
  · rw [if_pos hb]; exact ⟨ok, inv, gl, kl, ml, mm⟩
  · rw [if_neg hb] at ok' ⊢
    by_cases hg : 16 < N
    · rw [if_pos hg] at ok' ⊢
      unfold Ar.greatA at ok' ⊢
      by_cases hs : N.toNat ≤ A.gt - A.gf
      · rw [if_pos hs] at ok' ⊢
        exact gave_mk N.toNat ok' inv.swap12 rfl gl kl ml mm (by omega) (by omega) (by omega) fun _ h => h.swap12
      · rw [if_neg hs] at ok' ⊢
        cases hq : blockBelow A.lines m with
        | some q =>
          rw [hq] at ok'
          obtain ⟨q1, q2⟩ := blockBelow_lt _ _ _ hq
          have hfree := freeIn_full A.lines (q * 16) 16 q2 (by omega)
          have hi := inv.swap12.fresh (q * 16) ((q + 1) * 16) (by omega) (by omega) (fun i a b => hfree i a (by omega)) (by omega)
          exact gave_mk N.toNat ok' hi rfl gl kl ml (fun i hm => by rw [mk_claimed]; exact mm i hm) (by omega) (by omega) (by omega) fun _ h => h.swap12
        | none =>
          rw [hq] at ok'
          simp only [] at ok' ⊢
          cases hf : find A.lines 0 ((N.toNat + 15) / 16 : Nat) with
          | none => exact ⟨ok, inv, gl, kl, ml, mm⟩
          | some ft =>
            obtain ⟨f, t⟩ := ft
            rw [hf] at ok'
            obtain ⟨p1, p2, p3, p4, p5⟩ := find_spec _ _ _ (by omega) _ _ hf
            have hfree := fun i a b => hole_free A.lines f i a (by rw [← p5]; exact b)
            have hi := inv.swap12.fresh f t p2 (by omega) (fun i a b => (hfree i a b).2.2) (by have := (hfree (t - 1) (by omega) (by omega)).2.1; omega)
            exact gave_mk N.toNat ok' hi rfl gl kl ml (fun i hm => by rw [mk_claimed]; exact mm i hm) (by omega) (by omega) (by omega) fun _ h => h.swap12
    · rw [if_neg hg] at ok' ⊢
      unfold Ar.smallA at ok' ⊢
      by_cases hs : N.toNat ≤ A.st - A.sf
      · rw [if_pos hs] at ok' ⊢
        exact gave_mk N.toNat ok' inv rfl gl kl ml mm (by omega) (by omega) (by omega) fun _ h => h
      · rw [if_neg hs] at ok' ⊢
        cases hf : find A.lines A.next 1 with
        | none => exact ⟨ok, inv, gl, kl, ml, mm⟩
        | some ft =>
          obtain ⟨f, t⟩ := ft
          rw [hf] at ok'
          obtain ⟨p1, p2, p3, p4, p5⟩ := find_spec _ _ _ (by omega) _ _ hf
          have hfree := fun i a b => hole_free A.lines f i a (by rw [← p5]; exact b)
          have hi := inv.fresh f t p2 (by omega) (fun i a b => (hfree i a b).2.2) (by have := (hfree (t - 1) (by omega) (by omega)).2.1; omega)
          exact gave_mk N.toNat ok' hi rfl gl kl ml (fun i hm => by rw [mk_claimed]; exact mm i hm) (by omega) (by omega) (by omega) fun _ h => h
theorem AInv.fresh {A : Ar} {m : Nat} {G K M : List Bool} (h : AInv A m G K M) (N : Int) :
    GaveOr (A.fresh m N) m G K M N.toNat := by
  have ok' := h.ok.fresh N
  obtain ⟨ok, inv, gl, kl, ml, mm⟩ := h
  have hll := ok.ll
  have g1 := ok.c1
  unfold Ar.fresh at ok' ⊢
  by_cases hb : N < 1 ∨ 256 < N
  · rw [if_pos hb]; exact ⟨ok, inv, gl, kl, ml, mm⟩
  · rw [if_neg hb] at ok' ⊢
    unfold Ar.freshA at ok' ⊢
    by_cases hs : N.toNat ≤ A.ct - A.cf
    · rw [if_pos hs] at ok' ⊢
      exact gave_mk N.toNat ok' inv.swap13 rfl gl kl ml mm (by omega) (by omega) (by omega) fun _ h => h.swap13
    · rw [if_neg hs] at ok' ⊢
      cases hq : blockBelow A.lines m with
      | some q =>
        rw [hq] at ok'
        obtain ⟨q1, q2⟩ := blockBelow_lt _ _ _ hq
        have hfree := freeIn_full A.lines (q * 16) 16 q2 (by omega)
        have hi := inv.swap13.fresh (q * 16) ((q + 1) * 16) (by omega) (by omega) (fun i a b => hfree i a (by omega)) (by omega)
        exact gave_mk N.toNat ok' hi rfl gl kl ml (fun i hm => by rw [mk_claimed]; exact mm i hm) (by omega) (by omega) (by omega) fun _ h => h.swap13
      | none => exact ⟨ok, inv, gl, kl, ml, mm⟩
theorem tk_markedL (l : List (Bool × Bool)) (f k i : Nat) : tk (markedL l f k) i = tk l i := by
  simp only [tk, markedL_get]
  cases l[i]? with
  | none => rfl
  | some x => simp only [Option.map_some, Option.getD_some]; split <;> rfl
theorem mk_markedL (l : List (Bool × Bool)) (f k i : Nat) : mk' (markedL l f k) i = if f ≤ i ∧ i < k then true else mk' l i := by
  simp only [mk', markedL_get]
  cases l[i]? with
  | none => simp
  | some x => simp only [Option.map_some, Option.getD_some]; split <;> rfl
theorem AInv.mark {A : Ar} {m : Nat} {G K M : List Bool} (h : AInv A m G K M) (a N : Nat) (h1 : 1 ≤ N) (h2 : a + N ≤ m * 256) :
    AInv (A.mark m (a : Int) (N : Int)) m G K (ones M (a / 16) ((a + N - 1) / 16 + 1)) := by
  have ok' := h.ok.mark (a : Int) (N : Int)
  obtain ⟨ok, inv, gl, kl, ml, mm⟩ := h
  have hlast : lastOf m (a : Int) (N : Int) = ((a + N - 1 : Nat) : Int) := by
    unfold lastOf; split <;> omega
  unfold Ar.mark at ok' ⊢
  rw [if_neg (by rw [hlast]; omega)] at ok' ⊢
  rw [hlast] at ok' ⊢
  rw [show (max (a : Int) 0).toNat = a from by omega] at ok' ⊢
  simp only [Int.toNat_natCast] at ok' ⊢
  refine ⟨ok', inv.congr fun i => tk_markedL _ _ _ _, gl, kl, by rw [len_ones]; exact ml, fun i hi => ?_⟩
  simp only [Ar.markL]
  rw [mk_markedL]
  split
  · rfl
  · rename_i hc
    refine mm i ?_
    rw [ones_get] at hi
    cases hx : M[i]? with
    | none => rw [hx] at hi; simp at hi
    | some x => rw [hx] at hi; simpa [hc] using hi
theorem AInv.sweep {A : Ar} {m : Nat} {G K M : List Bool} (h : AInv A m G K M) : AInv A.sweep m (List.replicate (m * 256) false) M (List.replicate (m * 16) false) := by
  have ok' := h.ok.sweep
  obtain ⟨ok, inv, gl, kl, ml, mm⟩ := h
  have hg : (fun i : Nat => (List.replicate (m * 256) false)[i]?.getD false) = fun _ => false := by
    funext i; rw [List.getElem?_replicate]; split <;> rfl
  refine ⟨ok', ?_, by simp, ml, by simp, fun i hi => ?_⟩
  · rw [hg]
    refine Inv.none fun i hi => ?_
    have hl : i < M.length := by
      rcases Nat.lt_or_ge i M.length with h | h
      · exact h
      · rw [List.getElem?_eq_none h] at hi; simp at hi
    refine ⟨by omega, ?_⟩
    have := mm i hi
    simp only [Ar.sweep, tk, List.getElem?_map]
    have hl2 : i < A.lines.length := by rw [ok.ll]; omega
    simp only [mk', List.getElem?_eq_getElem hl2, Option.getD_some] at this
    simp [hl2, this]
  · rw [List.getElem?_replicate] at hi; split at hi <;> simp at hi
theorem AInv.start {m : Nat} (h1 : 1 ≤ m) (h2 : m ≤ 4096) : AInv (Ar.new m) m (List.replicate (m * 256) false) (List.replicate (m * 16) false) (List.replicate (m * 16) false) := by
  have hz : ∀ n i : Nat, (List.replicate n false)[i]?.getD false = false := fun n i => by rw [List.getElem?_replicate]; split <;> rfl
  refine ⟨Ar.new_ok m h1 h2, ?_, by simp, by simp, by simp, fun i hi => by rw [hz] at hi; simp at hi⟩
  simp only [hz]
  exact Inv.none fun i hi => by simp at hi
end Go.Proofs.Ytjgndfhfiekomaa
