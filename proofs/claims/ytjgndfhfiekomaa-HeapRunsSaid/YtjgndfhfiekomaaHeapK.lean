/- The heap on paper: what is set is got. No program in sight. -/
import Derived.Test.YtjgndfhfiekomaaHeapG
import Derived.Test.YtjgndfhfiekomaaArenaQ
set_option linter.all false
namespace Go.Proofs.Ytjgndfhfiekomaa
variable {A A' : Ar} {m : Nat} {G G' : List Bool}
/-- An object: its place, its kind, its pins, its fields. -/
structure Ob where
  a : Nat
  kind : Nat
  pins : Nat
  fs : List Int
def Ob.e (o : Ob) : Nat := o.a + o.fs.length + 1
theorem Ob.ee (o : Ob) : o.e = o.a + o.fs.length + 1 := rfl
structure ObOk (A : Ar) (m : Nat) (G : List Bool) (o : Ob) : Prop where
  k : o.kind < 32
  p : o.pins ≤ 7
  n : o.fs.length ≤ 240
  b : o.e ≤ m * 256
  hd : A.wd o.a = hdW o.kind o.pins o.fs.length
  fd : ∀ (i : Nat) (x : Int), o.fs[i]? = some x → A.wd (o.a + 1 + i) = x
  gv : ∀ i : Nat, o.a ≤ i → i < o.e → G[i]?.getD false = true
def fz (n : Nat) : List Bool := List.replicate n false
structure HInv (A : Ar) (m : Nat) (G : List Bool) (L : List Ob) : Prop where
  inv : AInv A m G (fz (m * 16)) (fz (m * 16))
  wd : A.Wd
  ob : ∀ (j : Nat) (o : Ob), L[j]? = some o → ObOk A m G o
  ap : ∀ (i j : Nat) (o p : Ob), i ≠ j → L[i]? = some o → L[j]? = some p → Apart o.a o.e p.a p.e
theorem ObOk.keep {o : Ob} (h : ObOk A m G o) (hs : ∀ i, o.a ≤ i → i < o.e → A'.wd i = A.wd i) (hg : ∀ i : Nat, G[i]?.getD false = true → G'[i]?.getD false = true) : ObOk A' m G' o := by
  refine ⟨h.k, h.p, h.n, h.b, ?_, ?_, fun i a b => hg _ (h.gv i a b)⟩
  · rw [hs o.a (by omega) (by rw [o.ee]; omega)]; exact h.hd
  · intro i x hx
    have hi : i < o.fs.length := by
      rcases Nat.lt_or_ge i o.fs.length with h | h
      · exact h
      · rw [List.getElem?_eq_none h] at hx; simp at hx
    rw [hs _ (by omega) (by rw [o.ee]; omega)]; exact h.fd i x hx
theorem HInv.still {L : List Ob} (h : HInv A m G L) (inv : AInv A' m G' (fz (m * 16)) (fz (m * 16))) (wd : A'.Wd) (hs : ∀ i, A'.wd i = A.wd i) (hg : ∀ i : Nat, G[i]?.getD false = true → G'[i]?.getD false = true) : HInv A' m G' L :=
  ⟨inv, wd, fun j o ho => (h.ob j o ho).keep (fun i _ _ => hs i) hg, h.ap⟩
theorem HInv.upd {L : List Ob} (h : HInv A m G L) (j : Nat) (o : Ob) (inv : AInv A' m G' (fz (m * 16)) (fz (m * 16))) (wd : A'.Wd) (ho : ObOk A' m G' o)
    (hs : ∀ (i : Nat) (p : Ob), i ≠ j → L[i]? = some p → ∀ q, p.a ≤ q → q < p.e → A'.wd q = A.wd q) (hg : ∀ i : Nat, G[i]?.getD false = true → G'[i]?.getD false = true)
    (hap : ∀ (i : Nat) (p : Ob), i ≠ j → L[i]? = some p → Apart o.a o.e p.a p.e) : HInv A' m G' (L.set j o) := by
  refine ⟨inv, wd, ?_, ?_⟩
  · intro i p hp
    by_cases hi : i = j
    · subst hi
      rw [List.getElem?_set_self'] at hp
      cases hl : L[i]? with
      | none => rw [hl] at hp; simp at hp
      | some q => rw [hl] at hp; simp at hp; subst hp; exact ho
    · rw [List.getElem?_set_ne (by omega)] at hp
      exact (h.ob i p hp).keep (hs i p hi hp) hg
  · intro i k p q hik hp hq
    by_cases hi : i = j
    · subst hi
      rw [List.getElem?_set_ne hik] at hq
      rw [List.getElem?_set_self'] at hp
      cases hl : L[i]? with
      | none => rw [hl] at hp; simp at hp
      | some r => rw [hl] at hp; simp at hp; subst hp; exact hap k q (by omega) hq
    · rw [List.getElem?_set_ne (by omega)] at hp
      by_cases hk : k = j
      · subst hk
        rw [List.getElem?_set_self'] at hq
        cases hl : L[k]? with
        | none => rw [hl] at hq; simp at hq
        | some r => rw [hl] at hq; simp at hq; subst hq; exact (hap i p hi hp).symm
      · rw [List.getElem?_set_ne (by omega)] at hq
        exact h.ap i k p q hik hp hq
theorem HInv.push {L : List Ob} (h : HInv A m G L) (o : Ob) (inv : AInv A' m G' (fz (m * 16)) (fz (m * 16))) (wd : A'.Wd) (ho : ObOk A' m G' o)
    (hs : ∀ (i : Nat) (p : Ob), L[i]? = some p → ∀ q, p.a ≤ q → q < p.e → A'.wd q = A.wd q) (hg : ∀ i : Nat, G[i]?.getD false = true → G'[i]?.getD false = true)
    (hap : ∀ (i : Nat) (p : Ob), L[i]? = some p → Apart o.a o.e p.a p.e) : HInv A' m G' (L ++ [o]) := by
  have key : ∀ (i : Nat) (p : Ob), (L ++ [o])[i]? = some p → L[i]? = some p ∨ (i = L.length ∧ p = o) := by
    intro i p hp
    rcases Nat.lt_trichotomy i L.length with hi | hi | hi
    · rw [List.getElem?_append_left hi] at hp; exact .inl hp
    · subst hi; simp at hp; exact .inr ⟨rfl, hp.symm⟩
    · rw [List.getElem?_eq_none (by simp; omega)] at hp; simp at hp
  refine ⟨inv, wd, ?_, ?_⟩
  · intro i p hp
    rcases key i p hp with hp | ⟨_, rfl⟩
    · exact (h.ob i p hp).keep (hs i p hp) hg
    · exact ho
  · intro i j p q hij hp hq
    rcases key i p hp with hp1 | ⟨hi, rfl⟩
    · rcases key j q hq with hq1 | ⟨hj, rfl⟩
      · exact h.ap i j p q hij hp1 hq1
      · exact (hap i p hp1).symm
    · rcases key j q hq with hq1 | ⟨hj, hj2⟩
      · exact hap j q hq1
      · omega
theorem wd_set (A : Ar) (q : Nat) (v : Int) (i : Nat) : (A.set q v).wd i = if i = q ∧ q < A.words.length then v else A.wd i := by
  unfold Ar.wd Ar.set
  simp only
  by_cases hi : i = q
  · subst hi
    by_cases hl : i < A.words.length
    · rw [List.getElem?_set_self hl]; simp [hl]
    · rw [List.getElem?_eq_none (by simp; omega), List.getElem?_eq_none (by omega)]; simp [hl]
  · rw [List.getElem?_set_ne (by omega)]; simp [hi]
theorem Ar.Wd.set (h : A.Wd) (q : Nat) (v : Int) (h0 : 0 ≤ v) (h1 : v < 18446744073709551616) : (A.set q v).Wd := by
  intro x hx
  simp only [Ar.set] at hx
  rcases List.mem_or_eq_of_mem_set hx with hx | rfl
  · exact h x hx
  · exact ⟨h0, h1⟩
theorem AInv.set {K M : List Bool} (h : AInv A m G K M) (q : Nat) (v : Int) : AInv (A.set q v) m G K M := by
  obtain ⟨ok, inv, gl, kl, ml, mm⟩ := h
  exact ⟨ok.set q v, inv, gl, kl, ml, mm⟩
theorem len_set (A : Ar) (q : Nat) (v : Int) : (A.set q v).words.length = A.words.length := by simp [Ar.set]
theorem alloc_words (A : Ar) (m : Nat) (n : Int) : (A.alloc m n).1.words = A.words := by
  unfold Ar.alloc
  split
  · rfl
  · split
    · unfold Ar.greatA
      split
      · rfl
      · cases blockBelow A.lines m with
        | some q => rfl
        | none => simp only []; cases find A.lines 0 ((n.toNat + 15) / 16 : Nat) <;> rfl
    · unfold Ar.smallA
      split
      · rfl
      · cases find A.lines A.next 1 <;> rfl
theorem fresh_words (A : Ar) (m : Nat) (n : Int) : (A.fresh m n).1.words = A.words := by
  unfold Ar.fresh
  split
  · rfl
  · unfold Ar.freshA
    split
    · rfl
    · cases blockBelow A.lines m <;> rfl
theorem Ar.Wd.of {A A' : Ar} (h : A.Wd) (he : A'.words = A.words) : A'.Wd := fun x hx => h x (by rwa [he] at hx)
theorem wd_of_words {A A' : Ar} (he : A'.words = A.words) (i : Nat) : A'.wd i = A.wd i := by unfold Ar.wd; rw [he]
theorem mk1 (a : Nat) (h : a < 1048576) : mkW 1 a = (a : Int) * 8 + 1 := by unfold mkW; omega
end Go.Proofs.Ytjgndfhfiekomaa
