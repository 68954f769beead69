/- Collecting on paper: scanning, and what a whole run leaves. No program in sight. -/
import Derived.Test.YtjgndfhfiekomaaColS
namespace Go.Proofs.Ytjgndfhfiekomaa
variable {A A' : Ar} {m N : Nat} {G K G' K' : List Bool} {D C C' : Nat → Option Ob} {R E : Nat → Prop} {T : Tr} {ms ms' ws : List Nat} {p : Nat → Nat} {cl : Int → Int}
theorem ex_upd {j : Nat} {c c' : Ob} (hC : C j = some c) (ha : c'.a = c.a) (he : c'.e = c.e) (Q : Nat → Nat → Prop) :
    (∃ i ci, i ∈ ms ∧ updD C j c' i = some ci ∧ Q ci.a ci.e) ↔ ∃ i ci, i ∈ ms ∧ C i = some ci ∧ Q ci.a ci.e := by
  constructor
  · rintro ⟨i, ci, h1, h2, h3⟩
    by_cases hij : i = j
    · subst hij
      rw [updD_self] at h2
      injection h2 with h2
      subst h2
      exact ⟨i, c, h1, hC, by rw [← ha, ← he]; exact h3⟩
    · rw [updD_ne _ _ hij] at h2
      exact ⟨i, ci, h1, h2, h3⟩
  · rintro ⟨i, ci, h1, h2, h3⟩
    by_cases hij : i = j
    · subst hij
      rw [hC] at h2
      injection h2 with h2
      subst h2
      exact ⟨i, c', h1, updD_self _ _ _, by rw [ha, he]; exact h3⟩
    · exact ⟨i, ci, h1, by rw [updD_ne _ _ hij]; exact h2, h3⟩
def updP (p : Nat → Nat) (j k : Nat) : Nat → Nat := fun i => if i = j then k else p i
/-- A field is translated. -/
theorem TI.setp (h : TI D R m cl T G K C ms ws p E) {j : Nat} (hjm : j ∈ ms) (hjw : j ∉ ws) (hE : E j) {o c : Ob} (hD : D j = some o) (hC : C j = some c) {k : Nat} (hp : p j = k) (hk : k < o.fs.length) {y : Int}
    (hT : Tx D C ms (o.fs[k]?.getD 0) y) (hg : HG A' m G K (updD C j { c with fs := c.fs.set k y })) (hw : ∀ q, ¬ (c.a ≤ q ∧ q < c.e) → A'.wd q = T.A.wd q) (hl : A'.lines = T.A.lines) :
    TI D R m cl { T with A := A' } G K (updD C j { c with fs := c.fs.set k y }) ms ws (updP p j (k + 1)) E := by
  have he : Ob.e { c with fs := c.fs.set k y } = c.e := by simp [Ob.e]
  have hag : ∀ i, i ≠ j → updD C j { c with fs := c.fs.set k y } i = C i := fun i hi => updD_ne _ _ hi
  have hmono : ∀ i ci, i ∈ ms → C i = some ci → ∃ c', updD C j { c with fs := c.fs.set k y } i = some c' ∧ c'.a = ci.a := by
    intro i ci hi hci
    by_cases hij : i = j
    · subst hij
      rw [hC] at hci
      injection hci with hci
      subst hci
      exact ⟨_, updD_self _ _ _, rfl⟩
    · exact ⟨ci, by rw [hag i hij]; exact hci, rfl⟩
  obtain ⟨c2, hC2, hcu, _⟩ := h.dc j o hD
  rw [hC] at hC2
  injection hC2 with hC2
  subst hC2
  refine ⟨hg, ?_, ?_, ?_, h.nd, h.md, h.wn, h.wm, h.lv, h.m0, h.m1, ?_, h.cz, h.sl, ?_, ?_, ?_, ?_, ?_⟩
  · intro i ci hci
    by_cases hij : i = j
    · subst hij; exact ⟨_, hD⟩
    · rw [hag i hij] at hci; exact h.cd i ci hci
  · intro i oi hoi
    by_cases hij : i = j
    · subst hij
      rw [hD] at hoi
      injection hoi with hoi
      subst hoi
      refine ⟨_, updD_self _ _ _, ⟨hcu.k, hcu.q, by simpa using hcu.l, ?_, ?_⟩, fun hn => absurd hjm hn⟩
      · intro q hq hq2
        simp only [updP, if_true] at hq
        simp only
        by_cases hqk : q = k
        · subst hqk
          rw [List.getElem?_set_self (by rw [hcu.l]; omega)]
          exact hT.mono (fun _ h => h) hmono
        · rw [List.getElem?_set_ne (Ne.symm hqk)]
          exact (hcu.a q (by omega) hq2).mono (fun _ h => h) hmono
      · intro q hq
        simp only [updP, if_true] at hq
        simp only
        rw [List.getElem?_set_ne (by omega)]
        exact hcu.b q (by omega)
    · obtain ⟨ci, a1, a2, a3⟩ := h.dc i oi hoi
      have e : updP p j (k + 1) i = p i := by simp [updP, hij]
      rw [e]
      exact ⟨ci, by rw [hag i hij]; exact a1, a2.mono (fun _ h => h) hmono, a3⟩
  · intro i oi ci hoi hci hne
    have key : ∃ ci', C i = some ci' ∧ ci'.a = ci.a ∧ ci'.pins = ci.pins := by
      by_cases hij : i = j
      · subst hij
        rw [updD_self] at hci
        injection hci with hci
        subst hci
        exact ⟨c, hC, rfl, rfl⟩
      · rw [hag i hij] at hci; exact ⟨ci, hci, rfl, rfl⟩
    obtain ⟨ci', k1, k2, k3⟩ := key
    obtain ⟨b1, b2, b3, b4⟩ := h.fw i oi ci' hoi k1 (by rw [k2]; exact hne)
    refine ⟨by simp only; rw [hw _ (b4 j c hC), ← k2]; exact b1, b2, by rw [← k3]; exact b3, ?_⟩
    intro q cq hq
    by_cases hqj : q = j
    · subst hqj
      rw [updD_self] at hq
      injection hq with hq
      subst hq
      rw [he]
      exact b4 q c hC
    · rw [hag q hqj] at hq
      exact b4 q cq hq
  · intro hz i oi ci hoi hci
    by_cases hij : i = j
    · subst hij
      rw [updD_self] at hci
      injection hci with hci
      subst hci
      exact h.mz hz i oi c hoi hC
    · rw [hag i hij] at hci
      exact h.mz hz i oi ci hoi hci
  · intro a ha
    rw [ex_upd (c' := { c with fs := c.fs.set k y }) hC rfl he (fun x _ => x = a)]
    exact h.sn a ha
  · intro i hi
    simp only
    rw [hl, ex_upd (c' := { c with fs := c.fs.set k y }) hC rfl he (fun x y => x / 16 ≤ i ∧ i ≤ (y - 1) / 16)]
    exact h.mr i hi
  · simp only
    rw [h.wk]
    apply List.map_congr_left
    intro i hi
    rw [hag i (fun hij => hjw (hij ▸ hi))]
  · intro i hi
    have : i ≠ j := fun hij => hjw (hij ▸ hi)
    simp only [updP, if_neg this]
    exact h.p0 i hi
  · intro i oi hi hn hEi hoi
    by_cases hij : i = j
    · subst hij; exact absurd hE hEi
    · simp only [updP, if_neg hij]
      exact h.sc i oi hi hn hEi hoi
/-- All counted fields tell objects, or none. -/
def Closed (D : Nat → Option Ob) : Prop := ∀ j o i, D j = some o → i < cntO o → o.fs[i]?.getD 0 % 8 ≠ 1 ∨ ∃ k ok, D k = some ok ∧ o.fs[i]?.getD 0 = pw ok.a
/-- What is reached stays so. -/
def RCl (D : Nat → Option Ob) (R : Nat → Prop) : Prop := ∀ j o i k ok, R j → D j = some o → i < cntO o → D k = some ok → o.fs[i]?.getD 0 = pw ok.a → R k
theorem TI.scan1 (h : TI D R m cl T G K C ms ws p E) (hcl : Closed D) (hrc : RCl D R) {j : Nat} (hjm : j ∈ ms) (hjw : j ∉ ws) (hE : E j) {o c : Ob} (hD : D j = some o) (hC : C j = some c) {k : Nat} (hp : p j = k) (hk : k < cntO o) :
    ∃ G' C' ns c', TI D R m cl (scan1 cl m (pw c.a) T k) G' K C' (ms ++ ns) (ws ++ ns) (updP p j (k + 1)) E ∧ (∀ i, i ∈ ms → i ≠ j → C' i = C i) ∧ C' j = some c' ∧ c'.a = c.a ∧ j ∉ ws ++ ns := by
  have hkl : k < o.fs.length := Nat.lt_of_lt_of_le hk (cntO_le o)
  obtain ⟨c2, hC2, hcu, _⟩ := h.dc j o hD
  rw [hC] at hC2
  injection hC2 with hC2
  subst hC2
  have hkc : k < c.fs.length := by rw [hcu.l]; exact hkl
  have hget := h.hg.get hC k hkc
  have hv : c.fs[k]?.getD 0 = o.fs[k]?.getD 0 := by rw [hcu.b k (by omega)]
  have hfol : Fol D R (o.fs[k]?.getD 0) := by
    rcases hcl j o k hD hk with h1 | ⟨q, oq, h1, h2⟩
    · exact .inl h1
    · exact .inr ⟨q, oq, h1, h2, hrc j o k q oq (h.md j hjm).2 hD hk h1 h2⟩
  obtain ⟨G1, C1, ns, h1, h2, h3⟩ := h.follow _ hfol
  have hC1 : C1 j = some c := by rw [h3 j hjm]; exact hC
  have hjn : j ∉ ns := fun hm => (List.nodup_append.1 h1.nd).2.2 j hjm j hm rfl
  have hjw2 : j ∉ ws ++ ns := by simp only [List.mem_append, not_or]; exact ⟨hjw, hjn⟩
  unfold Go.Proofs.Ytjgndfhfiekomaa.scan1
  rw [hget, hv]
  simp only
  generalize hr : followT cl m T (o.fs[k]?.getD 0) = r at h1 h2
  obtain ⟨T1, y⟩ := r
  simp only at h1 h2 ⊢
  have hset := h1.hg.set hC1 (k : Int) y
  by_cases hy : y = o.fs[k]?.getD 0
  · rw [if_pos hy]
    have hsame : ({ c with fs := c.fs.set k y } : Ob) = c := by
      have : c.fs.set k y = c.fs := by
        rw [hy, ← hv, List.getElem?_eq_getElem hkc]
        exact List.set_getElem_self hkc
      rw [this]
    have h4 := h1.setp (A' := T1.A) (by simp [hjm]) hjw2 hE hD hC1 hp hkl h2 (by rw [hsame, updD_same hC1]; exact h1.hg) (fun _ _ => rfl) rfl
    rw [hsame, updD_same hC1] at h4
    exact ⟨G1, C1, ns, c, h4, fun i hi hij => h3 i hi, hC1, rfl, hjw2⟩
  · rw [if_neg hy]
    have hyw : 0 ≤ y ∧ y < 18446744073709551616 := by
      rcases h2 with ⟨_, h2⟩ | ⟨q, oq, cq, _, _, _, h5, h6⟩
      · exact absurd h2 hy
      · rw [h6]; exact h1.hg.pwb h5
    have hset := hset hyw.1 hyw.2
    rw [if_pos ⟨by omega, by omega⟩, Int.toNat_natCast] at hset
    have h4 := h1.setp (by simp [hjm]) hjw2 hE hD hC1 hp hkl h2 hset.2 (fun q hq => h1.hg.set_wd hC1 _ _ q hq) (setF_lines _ _ _ _ _)
    exact ⟨G1, _, ns, _, h4, fun i hi hij => by rw [updD_ne _ _ hij]; exact h3 i hi, updD_self _ _ _, rfl, hjw2⟩
theorem TI.scanN (h : TI D R m cl T G K C ms ws p E) (hcl : Closed D) (hrc : RCl D R) {j : Nat} (hjm : j ∈ ms) (hjw : j ∉ ws) (hE : E j) {o c : Ob} (hD : D j = some o) (hC : C j = some c) (hp : p j = 0) (k : Nat) (hk : k ≤ cntO o) :
    ∃ G' C' ns p' c', TI D R m cl (scanN cl m (pw c.a) T k) G' K C' (ms ++ ns) (ws ++ ns) p' E ∧ (∀ i, i ∈ ms → i ≠ j → C' i = C i) ∧ C' j = some c' ∧ c'.a = c.a ∧ j ∉ ws ++ ns ∧ p' j = k := by
  induction k with
  | zero => exact ⟨G, C, [], p, c, by simpa [Go.Proofs.Ytjgndfhfiekomaa.scanN] using h, fun _ _ _ => rfl, hC, rfl, by simpa using hjw, hp⟩
  | succ k ih =>
    obtain ⟨G1, C1, n1, p1, c1, h1, h2, h3, h4, h5, h6⟩ := ih (by omega)
    obtain ⟨G2, C2, n2, c2, k1, k2, k3, k4, k5⟩ := h1.scan1 hcl hrc (by simp [hjm]) h5 hE hD h3 h6 (by omega)
    refine ⟨G2, C2, n1 ++ n2, _, c2, by simpa [Go.Proofs.Ytjgndfhfiekomaa.scanN, h4] using k1, fun i hi hij => by rw [k2 i (by simp [hi]) hij, h2 i hi hij], k3, by rw [k4, h4], by simpa using k5, by simp [updP]⟩
/-- One of those that are to be scanned is scanned. -/
theorem TI.scan (h : TI D R m cl T G K C ms ws p fun _ => False) (hcl : Closed D) (hrc : RCl D R) {j : Nat} {ws' : List Nat} (hws : ws = ws' ++ [j]) :
    ∃ o c, D j = some o ∧ C j = some c ∧ T.work = ws'.map (fun j => pw (((C j).map Ob.a).getD 0)) ++ [pw c.a] ∧ countedF T.A m (pw c.a) = cntO o ∧
      (∀ k, k ≤ cntO o → ∃ G' C' ns p' c', TI D R m cl (Go.Proofs.Ytjgndfhfiekomaa.scanN cl m (pw c.a) { T with work := ws'.map fun j => pw (((C j).map Ob.a).getD 0) } k) G' K C' (ms ++ ns) (ws' ++ ns) p' (fun i => i = j) ∧ (∀ i, i ∈ ms → i ≠ j → C' i = C i) ∧ C' j = some c' ∧ c'.a = c.a ∧ p' j = k) ∧ j ∈ ms := by
  subst hws
  have hjm : j ∈ ms := h.wm j (by simp)
  have hjw : j ∉ ws' := fun hm => (List.nodup_append.1 h.wn).2.2 j hm j (by simp) rfl
  obtain ⟨⟨o, hD⟩, hR⟩ := h.md j hjm
  obtain ⟨c, hC, hcu, _⟩ := h.dc j o hD
  have hp0 := h.p0 j (by simp)
  have hfs : c.fs = o.fs := by
    apply List.ext_getElem?
    intro i
    exact hcu.b i (by omega)
  refine ⟨o, c, hD, hC, by rw [h.wk]; simp [hC], ?_, ?_, hjm⟩
  · unfold countedF
    rw [szI_ob h.hg hC]
    have hkd : kdI T.A m (pw c.a) = c.kind := by unfold kdI; rw [h.hg.hat hC]; rfl
    rw [hkd]
    unfold cntO
    rw [← hfs, ← hcu.k]
    have hb : 0 ≤ countF c.kind c.fs.length (c.fs[1]?.getD 0) := by
      unfold countF
      split
      · omega
      · split
        · omega
        · split
          · omega
          · omega
    rw [Int.toNat_of_nonneg hb]
    rcases Nat.lt_or_ge 1 c.fs.length with h1 | h1
    · have := h.hg.get hC 1 h1
      rw [show ((1 : Nat) : Int) = 1 from rfl] at this
      rw [this]
    · have := h.hg.get_out hC 1 (by omega)
      rw [this]
      unfold countF
      split
      · rfl
      · rw [if_pos (.inr (by omega)), if_pos (.inr (by omega))]
  · have h0 : TI D R m cl { T with work := ws'.map fun j => pw (((C j).map Ob.a).getD 0) } G K C ms ws' p (fun i => i = j) :=
      ⟨h.hg, h.cd, h.dc, h.fw, h.nd, h.md, (List.nodup_append.1 h.wn).1, fun i hi => h.wm i (by simp [hi]), h.lv, h.m0, h.m1, h.mz, h.cz, h.sl, h.sn, h.mr, rfl, fun i hi => h.p0 i (by simp [hi]), fun i oi hi hn hE hoi => h.sc i oi hi (by simp only [List.mem_append, List.mem_singleton, not_or]; exact ⟨hn, hE⟩) (fun h => h) hoi⟩
    intro k hk
    obtain ⟨G1, C1, n1, p1, c1, h1, h2, h3, h4, h5, h6⟩ := h0.scanN hcl hrc hjm hjw rfl hD hC hp0 k hk
    exact ⟨G1, C1, n1, p1, c1, h1, h2, h3, h4, h6⟩
/-- All that is met is scanned. -/
theorem TI.drain (hN : ∀ j o, D j = some o → j < N) (hN2 : N ≤ 1000000) (hcl : Closed D) (hrc : RCl D R) (f : Nat) :
    ∀ {T : Tr} {G : List Bool} {C : Nat → Option Ob} {ms ws : List Nat} {p : Nat → Nat}, TI D R m cl T G K C ms ws p (fun _ => False) → 2 * (N - ms.length) + ws.length ≤ f →
    ∃ k T' G' C' ms' p', Drains cl m k T T' ∧ TI D R m cl T' G' K C' ms' [] p' (fun _ => False) ∧ (∀ j, j ∈ ms → j ∈ ms') ∧ ∀ j c, j ∈ ms → C j = some c → ∃ c', C' j = some c' ∧ c'.a = c.a := by
  induction f with
  | zero =>
    intro T G C ms ws p h hf
    have hw : ws = [] := List.length_eq_zero_iff.1 (by omega)
    subst hw
    exact ⟨0, T, G, C, ms, p, .done T (by rw [h.wk]; rfl), h, fun _ h => h, fun j c _ hc => ⟨c, hc, rfl⟩⟩
  | succ f ih =>
    intro T G C ms ws p h hf
    rcases List.eq_nil_or_concat ws with hw | ⟨ws', j, hw⟩
    · subst hw
      exact ⟨0, T, G, C, ms, p, .done T (by rw [h.wk]; rfl), h, fun _ h => h, fun j c _ hc => ⟨c, hc, rfl⟩⟩
    · rw [List.concat_eq_append] at hw
      have hl := h.len hN
      obtain ⟨o, c, hD, hC, hwk, hcn, hsc, hjm⟩ := h.scan hcl hrc hw
      obtain ⟨G1, C1, n1, p1, c1, h1, h2, h3, h4, h6⟩ := hsc (cntO o) (Nat.le_refl _)
      have hfin : TI D R m cl (Go.Proofs.Ytjgndfhfiekomaa.scanN cl m (pw c.a) { T with work := ws'.map fun j => pw (((C j).map Ob.a).getD 0) } (cntO o)) G1 K C1 (ms ++ n1) (ws' ++ n1) p1 (fun _ => False) :=
        ⟨h1.hg, h1.cd, h1.dc, h1.fw, h1.nd, h1.md, h1.wn, h1.wm, h1.lv, h1.m0, h1.m1, h1.mz, h1.cz, h1.sl, h1.sn, h1.mr, h1.wk, h1.p0, fun i oi hi hn _ hoi => by
          by_cases hij : i = j
          · subst hij
            rw [hD] at hoi
            injection hoi with hoi
            subst hoi
            omega
          · exact h1.sc i oi hi hn hij hoi⟩
      have hl1 := hfin.len hN
      simp only [List.length_append] at hl1
      obtain ⟨k, T', G', C', ms', p', k1, k2, k3, k4⟩ := ih hfin (by simp only [List.length_append]; rw [hw] at hf; simp only [List.length_append, List.length_cons, List.length_nil] at hf; omega)
      refine ⟨k + 1, T', G', C', ms', p', .step k T (pw c.a) (ws'.map fun j => pw (((C j).map Ob.a).getD 0)) T' hwk ?_ ?_ ?_, k2, fun i hi => k3 i (by simp [hi]), ?_⟩
      · rw [h.wk, List.length_map]; omega
      · intro q hq
        rw [hcn] at hq
        obtain ⟨G2, C2, n2, p2, c2, q1, _⟩ := hsc q (by omega)
        exact q1.bd hN hN2
      · unfold scanT
        have : countedF { T with work := ws'.map fun j => pw (((C j).map Ob.a).getD 0) }.A m (pw c.a) = cntO o := hcn
        rw [this, Int.toNat_natCast]
        exact k1
      · intro i ci hi hci
        by_cases hij : i = j
        · subst hij
          rw [hC] at hci
          injection hci with hci
          subst hci
          obtain ⟨c', q1, q2⟩ := k4 i c1 (by simp [hi]) h3
          exact ⟨c', q1, by rw [q2, h4]⟩
        · exact k4 i ci (by simp [hi]) (by rw [h2 i hi hij]; exact hci)
end Go.Proofs.Ytjgndfhfiekomaa
