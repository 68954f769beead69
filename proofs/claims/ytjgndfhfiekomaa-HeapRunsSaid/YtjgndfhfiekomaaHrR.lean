/- The document's heap and the program's: what each act does to both. No program in sight. -/
import Derived.Test.YtjgndfhfiekomaaHrQ
import Derived.Test.YtjgndfhfiekomaaColR
set_option linter.all false
namespace Go.Proofs.Ytjgndfhfiekomaa
variable {A A' A2 : Ar} {m : Nat} {G K G' : List Bool} {D : Nat → Option Ob} {O O' : List RO} {r r' : RO} {x : Int}
/-- The arenas differ in their words alone. -/
structure Sh (A A' : Ar) : Prop where
  l : A'.lines = A.lines
  sf : A'.sf = A.sf
  st : A'.st = A.st
  gf : A'.gf = A.gf
  gt : A'.gt = A.gt
  cf : A'.cf = A.cf
  ct : A'.ct = A.ct
  nx : A'.next = A.next
theorem Sh.refl (A : Ar) : Sh A A := ⟨rfl, rfl, rfl, rfl, rfl, rfl, rfl, rfl⟩
theorem Sh.trans (h : Sh A A') (k : Sh A' A2) : Sh A A2 := ⟨k.l.trans h.l, k.sf.trans h.sf, k.st.trans h.st, k.gf.trans h.gf, k.gt.trans h.gt, k.cf.trans h.cf, k.ct.trans h.ct, k.nx.trans h.nx⟩
theorem sh_set (A : Ar) (i : Nat) (v : Int) : Sh A (A.set i v) := ⟨rfl, rfl, rfl, rfl, rfl, rfl, rfl, rfl⟩
theorem sh_fillW (A : Ar) (p : Nat) (v : Int) (k : Nat) : Sh A (fillW A p v k) := by
  induction k with
  | zero => exact Sh.refl _
  | succ k ih => exact ih.trans (sh_set _ _ _)
theorem sh_copyW (A : Ar) (a p k : Nat) : Sh A (copyW A a p k) := by
  induction k with
  | zero => exact Sh.refl _
  | succ k ih => exact ih.trans (sh_set _ _ _)
theorem sh_setF (A : Ar) (m : Nat) (x i v : Int) : Sh A (setF A m x i v).1 := by
  unfold setF
  cases hAt A m x with
  | none => exact Sh.refl _
  | some o => simp only; split
              · exact Sh.refl _
              · exact sh_set _ _ _
theorem sh_pinsF (A : Ar) (m : Nat) (x d : Int) : Sh A (pinsF A m x d).1 := by
  unfold pinsF
  cases hAt A m x with
  | none => exact Sh.refl _
  | some o => simp only; split
              · exact Sh.refl _
              · exact sh_set _ _ _
theorem tk_mono {l : List (Bool × Bool)} {f k i : Nat} (h : tk l i = true) : tk (claimed l f k) i = true := by
  rcases Nat.lt_or_ge i l.length with hi | hi
  · rw [tk_claimed _ _ _ _ hi]; split
    · rfl
    · exact h
  · unfold tk; rw [List.getElem?_eq_none (by rw [len_claimed]; exact hi)]; rfl
theorem NextOk.sh (h : NextOk A) (s : Sh A A') : NextOk A' := by unfold NextOk; rw [s.nx, s.l]; exact h
theorem NextOk.alloc (h : NextOk A) (m : Nat) (n : Int) : NextOk (A.alloc m n).1 := by
  unfold Ar.alloc
  split
  · exact h
  · split
    · unfold Ar.greatA
      split
      · exact h
      · cases blockBelow A.lines m with
        | some q => exact h.imp id tk_mono
        | none =>
          simp only
          cases find A.lines 0 ((n.toNat + 15) / 16 : Nat) with
          | none => exact h
          | some ft => exact h.imp id tk_mono
    · unfold Ar.smallA
      split
      · exact h
      · cases hf : find A.lines A.next 1 with
        | none => exact h
        | some ft =>
          obtain ⟨f, t⟩ := ft
          obtain ⟨_, h2, h3, _, _⟩ := find_spec _ _ _ (by omega) _ _ hf
          refine .inr ?_
          show tk (claimed A.lines f t) (t - 1) = true
          rw [tk_claimed _ _ _ _ (by omega), if_pos (by omega)]
theorem NextOk.fresh (h : NextOk A) (m : Nat) (n : Int) : NextOk (A.fresh m n).1 := by
  unfold Ar.fresh
  split
  · exact h
  · unfold Ar.freshA
    split
    · exact h
    · cases blockBelow A.lines m with
      | none => exact h
      | some q => exact h.imp id tk_mono
/-- Make, and what it leaves alone. -/
theorem HG.make2 (h : HG A m G K D) (kind n : Int) {j : Nat} (hj : D j = none) :
    match (makeF A m kind n).2 with
    | none => ∃ G', HG (makeF A m kind n).1 m G' K D ∧ (∀ q, own G K q → own G' K q) ∧ ∀ q, (makeF A m kind n).1.wd q = A.wd q
    | some x => ∃ (o : Ob) (G' : List Bool), x = pw o.a ∧ o.kind = kind.toNat ∧ o.fs = List.replicate n.toNat (emptyW kind) ∧ o.pins = 0 ∧ HG (makeF A m kind n).1 m G' K (updD D j o) ∧
        (∀ q, own G K q → own G' K q) ∧ (∀ q, own G K q → (makeF A m kind n).1.wd q = A.wd q) ∧ ∀ q, o.a ≤ q → q < o.e → ¬ own G K q := by
  unfold makeF
  by_cases hc : kind < 0 ∨ 32 ≤ kind ∨ n < 0 ∨ 240 < n
  · rw [if_pos hc]
    exact ⟨G, h, fun _ h => h, fun _ => rfl⟩
  rw [if_neg hc]
  have hg := h.inv.alloc (n + 1)
  have hw := alloc_words A m (n + 1)
  unfold GaveOr at hg
  cases ha : (A.alloc m (n + 1)).2 with
  | none =>
    rw [ha] at hg
    exact ⟨G, h.still hg (h.wd.of hw) (wd_of_words hw) (fun _ h => h), fun _ h => h, wd_of_words hw⟩
  | some k =>
    rw [ha] at hg
    obtain ⟨inv, g1, g2, g3, g4, g5⟩ := hg
    have hml := h.inv.ok.m2
    have hwl : (A.alloc m (n + 1)).1.words.length = m * 256 := by rw [hw, h.inv.ok.wl]
    have ev : 0 ≤ emptyW kind ∧ emptyW kind < 18446744073709551616 := by unfold emptyW; split <;> omega
    have hgl := h.inv.gl
    have hno : ∀ q, k ≤ q → q < k + n.toNat + 1 → ¬ own G K q := by
      intro q a b hq
      have g5 := g5 q a (by omega)
      unfold own at hq
      rw [g5.1, g5.2] at hq
      simp at hq
    refine ⟨⟨k, kind.toNat, 0, List.replicate n.toNat (emptyW kind)⟩, ones G k (k + (n + 1).toNat), mkW_pw k (by omega), rfl, rfl, rfl, ?_, fun i hi => own_ones i hi, ?_, fun q a b => hno q a (by simpa [Ob.e] using b)⟩
    rotate_left
    · intro q hq
      have := hno q
      rw [wd_fillW _ _ _ _ (by rw [len_set]; omega), wd_set, wd_of_words hw, if_neg (fun hc => hno q (by omega) (by omega) hq), if_neg (fun hc => hno q (by omega) (by omega) hq)]
    have hv : ∀ q, (fillW (((A.alloc m (n + 1)).1).set k (hdW kind 0 n)) (k + 1) (emptyW kind) n.toNat).wd q = if k + 1 ≤ q ∧ q < k + 1 + n.toNat then emptyW kind else if q = k then hdW kind 0 n else A.wd q := by
      intro q
      rw [wd_fillW _ _ _ _ (by rw [len_set]; omega), wd_set, wd_of_words hw]
      by_cases h1 : k + 1 ≤ q ∧ q < k + 1 + n.toNat
      · rw [if_pos h1, if_pos h1]
      · rw [if_neg h1, if_neg h1]
        by_cases h2 : q = k
        · rw [if_pos ⟨h2, by omega⟩, if_pos h2]
        · rw [if_neg (by omega), if_neg h2]
    have hap : ∀ (i : Nat) (p : Ob), D i = some p → Apart k (k + n.toNat + 1) p.a p.e := fun i p hp q a b c d => hno q a b ((h.ob i p hp).gv q c d)
    refine h.upd j _ ((inv.set _ _).fillW _ _ _) (((h.wd.of hw).set _ _ (by unfold hdW; omega) (by unfold hdW; omega)).fillW _ _ ev.1 ev.2 _) ?_ ?_ (fun i hi => own_ones i hi) ?_
    · refine ⟨by simp only; omega, by simp, by simp; omega, by simp [Ob.e]; omega, ?_, ?_, ?_, by simp [Ob.e]; omega⟩
      · rw [hv, if_neg (by simp only; omega), if_pos rfl]
        simp only [List.length_replicate]
        unfold hdW; omega
      · intro i x hx
        simp only at hx ⊢
        rw [List.getElem?_replicate] at hx
        split at hx
        · rw [hv, if_pos (by omega)]; simpa using hx
        · simp at hx
      · intro i a b
        simp only [Ob.e, List.length_replicate] at a b
        exact .inl (ones_in _ _ _ i a (by omega) (by omega))
    · intro i p _ hp q a b
      have := hap i p hp q
      rw [hv, if_neg (fun hc => this (by omega) (by omega) a b), if_neg (fun hc => this (by omega) (by omega) a b)]
    · intro i p _ hp
      have := hap i p hp
      simpa [Ob.e] using this
/-- The same object under another number. -/
theorem HG.swap {i n : Nat} {o : Ob} (h : HG A m G K (updD D i o)) (hn : D n = none) (hin : n ≠ i) : HG A m G K (fun j => if j = n then some o else if j = i then none else D j) := by
  have key : ∀ j p, (if j = n then some o else if j = i then none else D j) = some p → (j = n ∧ p = o) ∨ (j ≠ n ∧ j ≠ i ∧ updD D i o j = some p) := by
    intro j p hp
    by_cases h1 : j = n
    · rw [if_pos h1] at hp; exact .inl ⟨h1, by simpa using hp.symm⟩
    · rw [if_neg h1] at hp
      by_cases h2 : j = i
      · rw [if_pos h2] at hp; simp at hp
      · rw [if_neg h2] at hp; exact .inr ⟨h1, h2, by rw [updD_ne _ _ h2]; exact hp⟩
  refine ⟨h.inv, h.wd, ?_, ?_⟩
  · intro j p hp
    rcases key j p hp with ⟨_, rfl⟩ | ⟨_, _, h3⟩
    · exact h.ob i _ (updD_self _ _ _)
    · exact h.ob j p h3
  · intro a b p q hab hp hq
    rcases key a p hp with ⟨ha, rfl⟩ | ⟨ha, ha2, h3⟩
    · rcases key b q hq with ⟨hb, rfl⟩ | ⟨hb, hb2, h4⟩
      · exact absurd (ha.trans hb.symm) hab
      · exact h.ap i b _ _ (Ne.symm hb2) (updD_self _ _ _) h4
    · rcases key b q hq with ⟨hb, rfl⟩ | ⟨hb, hb2, h4⟩
      · exact h.ap a i _ _ ha2 h3 (updD_self _ _ _)
      · exact h.ap a b _ _ hab h3 h4
/-- The object of the program's that stands for one of the document's. -/
def obOf (r : RO) : Ob := ⟨r.a, r.kind.toNat, r.pins.toNat, r.fs⟩
def Dof (O : List RO) (j : Nat) : Option Ob := (O[j]?).bind fun r => if r.dst < 0 then some (obOf r) else none
theorem Dof_of {j : Nat} (hr : O[j]? = some r) (hd : r.dst < 0) : Dof O j = some (obOf r) := by unfold Dof; rw [hr]; simp [hd]
theorem of_Dof {j : Nat} {o : Ob} (h : Dof O j = some o) : ∃ r, O[j]? = some r ∧ r.dst < 0 ∧ o = obOf r := by
  unfold Dof at h
  cases hr : O[j]? with
  | none => rw [hr] at h; simp at h
  | some r =>
    rw [hr] at h
    simp only [Option.bind_some] at h
    by_cases hd : r.dst < 0
    · rw [if_pos hd] at h; exact ⟨r, rfl, hd, by simpa using h.symm⟩
    · rw [if_neg hd] at h; simp at h
theorem lt_getR {i : Nat} (hr : O[i]? = some r) : i < O.length := by
  rcases Nat.lt_or_ge i O.length with h | h
  · exact h
  · rw [List.getElem?_eq_none h] at hr; simp at hr
theorem Dof_set {i : Nat} (hr : O[i]? = some r) (hd : r'.dst < 0) : Dof (O.set i r') = updD (Dof O) i (obOf r') := by
  funext j
  unfold updD
  by_cases hj : j = i
  · subst hj
    rw [if_pos rfl]
    exact Dof_of (List.getElem?_set_self (lt_getR hr)) hd
  · rw [if_neg hj]
    unfold Dof
    rw [List.getElem?_set_ne (Ne.symm hj)]
theorem Dof_len (O : List RO) : Dof O O.length = none := by unfold Dof; rw [List.getElem?_eq_none (Nat.le_refl _)]; rfl
theorem Dof_snoc (O : List RO) (hd : r'.dst < 0) : Dof (O ++ [r']) = updD (Dof O) O.length (obOf r') := by
  funext j
  unfold updD
  by_cases hj : j = O.length
  · subst hj
    rw [if_pos rfl]
    exact Dof_of (by simp) hd
  · rw [if_neg hj]
    unfold Dof
    by_cases h : j < O.length
    · rw [List.getElem?_append_left h]
    · rw [List.getElem?_eq_none (by simp; omega), List.getElem?_eq_none (by omega)]
/-- Both heaps tell the same. -/
structure Rel (A : Ar) (m : Nat) (O : List RO) : Prop where
  hg : ∃ G K, HG A m G K (Dof O) ∧ ∀ (j : Nat) (r : RO), O[j]? = some r → 0 ≤ r.dst → own G K r.a ∧ A.wd r.a = mkW 7 r.dst ∧ ∀ i p, Dof O i = some p → ¬ (p.a ≤ r.a ∧ r.a < p.e)
  ds : ∀ (i j : Nat) (ri rj : RO), O[i]? = some ri → O[j]? = some rj → ri.a = rj.a → i = j
  nm : ∀ r : RO, r ∈ O → 0 ≤ r.kind ∧ 0 ≤ r.pins ∧ r.pins ≤ 7 ∧ r.fs.length ≤ 240 ∧ r.a < m * 256 ∧ r.dst < 1048576
  nx : NextOk A
  mm : m ≤ 6
theorem Rel.ok (h : Rel A m O) : A.Ok m := by obtain ⟨G, K, h, _⟩ := h.hg; exact h.inv.ok
theorem Rel.wd (h : Rel A m O) : A.Wd := by obtain ⟨G, K, h, _⟩ := h.hg; exact h.wd
theorem Rel.start {m : Nat} (h1 : 1 ≤ m) (h2 : m ≤ 6) : Rel (Ar.new m) m [] := by
  have hD : Dof [] = fun _ => none := by funext j; unfold Dof; simp
  refine ⟨⟨_, _, by rw [hD]; exact HG.start h1 (by omega), fun j r hr => by simp at hr⟩, fun i j ri rj hr => by simp at hr, fun r hr => by simp at hr, .inl rfl, h2⟩
/-- An object that stands is another one at the same place. -/
theorem Rel.upd (h : Rel A m O) {i : Nat} (hr : O[i]? = some r) (hd : r.dst < 0) (ha : r'.a = r.a) (hdst : r'.dst = r.dst) (hfl : r'.fs.length = r.fs.length) (hk : r'.kind = r.kind) (hp : 0 ≤ r'.pins ∧ r'.pins ≤ 7) (sh : Sh A A')
    (hHG : ∀ G K, HG A m G K (Dof O) → HG A' m G K (updD (Dof O) i (obOf r'))) (hwd : ∀ q, ¬ (r.a ≤ q ∧ q < r.a + r.fs.length + 1) → A'.wd q = A.wd q) : Rel A' m (O.set i r') := by
  obtain ⟨G, K, hg, hm⟩ := h.hg
  have hi := lt_getR hr
  have hgt : ∀ (j : Nat) (q : RO), (O.set i r')[j]? = some q → (j = i ∧ q = r') ∨ (j ≠ i ∧ O[j]? = some q) := by
    intro j q hq
    by_cases hj : j = i
    · subst hj; rw [List.getElem?_set_self hi] at hq; exact .inl ⟨rfl, by simpa using hq.symm⟩
    · rw [List.getElem?_set_ne (Ne.symm hj)] at hq; exact .inr ⟨hj, hq⟩
  have hDi := Dof_of hr hd
  refine ⟨⟨G, K, by rw [Dof_set hr (by omega)]; exact hHG G K hg, ?_⟩, ?_, ?_, h.nx.sh sh, h.mm⟩
  · intro j q hq hdq
    rcases hgt j q hq with ⟨_, rfl⟩ | ⟨hj, hq⟩
    · omega
    · obtain ⟨m1, m2, m3⟩ := hm j q hq hdq
      have m4 := m3 i _ hDi
      simp only [obOf, Ob.e] at m4
      refine ⟨m1, by rw [hwd _ (by omega)]; exact m2, fun i' p hp' => ?_⟩
      rw [Dof_set hr (by omega)] at hp'
      unfold updD at hp'
      split at hp'
      · simp only [Option.some.injEq] at hp'; subst hp'; simp only [obOf, Ob.e]; omega
      · exact m3 i' p hp'
  · intro a b ra rb hra hrb he
    rcases hgt a ra hra with ⟨h1, rfl⟩ | ⟨h1, h1'⟩
    · rcases hgt b rb hrb with ⟨h2, rfl⟩ | ⟨h2, h2'⟩
      · rw [h1, h2]
      · rw [h1]; exact h.ds i b r rb hr h2' (by omega)
    · rcases hgt b rb hrb with ⟨h2, rfl⟩ | ⟨h2, h2'⟩
      · rw [h2]; exact h.ds a i ra r h1' hr (by omega)
      · exact h.ds a b ra rb h1' h2' he
  · intro q hq
    rcases List.mem_or_eq_of_mem_set hq with hq | rfl
    · exact h.nm q hq
    · have := h.nm r (List.mem_of_getElem? hr)
      omega
end Go.Proofs.Ytjgndfhfiekomaa
