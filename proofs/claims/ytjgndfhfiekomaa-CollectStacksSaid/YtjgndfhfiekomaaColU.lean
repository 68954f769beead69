/- Collecting on paper: the law of a collection. No program in sight. -/
import Derived.Test.YtjgndfhfiekomaaColT
namespace Go.Proofs.Ytjgndfhfiekomaa
variable {A A' : Ar} {m N : Nat} {G K G' K' : List Bool} {D C C' : Nat → Option Ob} {T : Tr} {ms : List Nat} {cl : Int → Int}
/-- What roots reach. -/
inductive Reach (D : Nat → Option Ob) (ls : List (List Int)) : Nat → Prop
  | root (l : List Int) (x : Int) (j : Nat) (o : Ob) : l ∈ ls → x ∈ l → D j = some o → x = pw o.a → Reach D ls j
  | field (j : Nat) (o : Ob) (i k : Nat) (ok : Ob) : Reach D ls j → D j = some o → i < cntO o → D k = some ok → o.fs[i]?.getD 0 = pw ok.a → Reach D ls k
def keptD (C : Nat → Option Ob) (ms : List Nat) : Nat → Option Ob := fun j => if j ∈ ms then C j else none
structure After (D : Nat → Option Ob) (m : Nat) (cl : Int → Int) (ls ls' : List (List Int)) (T : Tr) (G K : List Bool) (C : Nat → Option Ob) (ms : List Nat) : Prop where
  hg : HG T.A.sweep m G K (keptD C ms)
  mr : ∀ i, i < m * 16 → mk' T.A.sweep.lines i = false
  nd : ms.Nodup
  md : ∀ j, j ∈ ms ↔ Reach D ls j
  mo : ∀ j, j ∈ ms → ∃ o c, D j = some o ∧ C j = some c ∧ Cur D C ms (cntO o) o c ∧ (c.a ≠ o.a → c.pins = 0)
  lv : T.live = ms.length
  m0 : 0 ≤ T.moved
  m1 : T.moved ≤ T.live
  mz : T.moved = 0 → ∀ j o c, D j = some o → C j = some c → c.a = o.a
  cz : (∀ x, cl x = 0) → T.moved = 0
  rl : ls'.length = ls.length
  rt : ∀ r, r < ls.length → Rel2 (Tx D C ms) (ls[r]?.getD []) (ls'[r]?.getD [])
  em : m ≤ emptyIn T.A.sweep.lines m + ms.length
theorem freeIn_full2 (l : List (Bool × Bool)) (o n : Nat) (hl : o + n ≤ l.length) (h : ∀ i, o ≤ i → i < o + n → tk l i = false) : freeIn l o n = n := by
  induction n with
  | zero => simp [freeIn]
  | succ n ih =>
    rw [freeIn_add, ih (by omega) (fun i a b => h i a (by omega))]
    have h1 := h (o + n) (by omega) (by omega)
    have h2 : o + n < l.length := by omega
    unfold freeIn
    rw [List.drop_eq_getElem_cons h2]
    unfold tk at h1
    rw [List.getElem?_eq_getElem h2] at h1
    simp only [Option.getD_some] at h1
    rw [List.take_succ_cons, List.take_zero, List.countP_cons, List.countP_nil, h1]
    simp
theorem empty_blocks (l : List (Bool × Bool)) (m : Nat) (hl : l.length = m * 16) (ms : List Nat) (B : Nat → Nat) (h : ∀ i, i < m * 16 → tk l i = true → ∃ j, j ∈ ms ∧ B j = i / 16) (k : Nat) (hk : k ≤ m) :
    k ≤ emptyIn l k + ms.countP fun j => decide (B j < k) := by
  induction k with
  | zero => omega
  | succ k ih =>
    have ih := ih (by omega)
    simp only [emptyIn]
    have hle : ∀ ms : List Nat, ms.countP (fun j => decide (B j < k)) + ms.countP (fun j => decide (B j = k)) = ms.countP fun j => decide (B j < k + 1) := by
      intro ms
      induction ms with
      | nil => rfl
      | cons x ms ih =>
        simp only [List.countP_cons]
        have h1 : (if decide (B x < k + 1) = true then 1 else 0) = (if decide (B x < k) = true then 1 else 0) + if decide (B x = k) = true then 1 else 0 := by
          simp only [decide_eq_true_eq]
          split <;> split <;> split <;> omega
        omega
    have hms := hle ms
    by_cases hf : freeOf l k = 16
    · rw [if_pos hf]; omega
    · rw [if_neg hf]
      have : ∃ i, k * 16 ≤ i ∧ i < k * 16 + 16 ∧ tk l i = true := by
        apply Classical.byContradiction
        intro hn
        apply hf
        refine freeIn_full2 l (k * 16) 16 (by omega) (fun i a b => ?_)
        cases ht : tk l i with
        | false => rfl
        | true => exact absurd ⟨i, a, b, ht⟩ hn
      obtain ⟨i, a, b, ht⟩ := this
      obtain ⟨j, hj, hB⟩ := h i (by omega) ht
      have : 0 < ms.countP fun j => decide (B j = k) := List.countP_pos_iff.2 ⟨j, hj, by simp; omega⟩
      omega
theorem tk_sweep (A : Ar) (i : Nat) (hi : i < A.lines.length) : tk A.sweep.lines i = mk' A.lines i := by
  simp [tk, mk', Ar.sweep, hi]
/-- What a collection leaves. -/
theorem collect_law (h : HG A m G K D) (hmk : ∀ i, i < m * 16 → mk' A.lines i = false) (hN : ∀ j o, D j = some o → j < N) (hN2 : N ≤ 1000000) (hcl : Closed D) (cl : Int → Int) (least : Int) (ls : List (List Int))
    (hl : ∀ l, l ∈ ls → ∀ x, x ∈ l → x % 8 ≠ 1 ∨ ∃ j o, D j = some o ∧ x = pw o.a) (hw : ∀ l, l ∈ ls → ∀ x, x ∈ l → 0 ≤ x ∧ x < 18446744073709551616) :
    ∃ T ls' G' K' C ms, Runs cl m (startT A m least) ls T ls' ∧ After D m cl ls ls' T G' K' C ms := by
  have hrc : RCl D (Reach D ls) := fun j o i k ok h1 h2 h3 h4 h5 => .field j o i k ok h1 h2 h3 h4 h5
  have h0 : TI D (Reach D ls) m cl (startT A m least) G K D [] [] (fun _ => 0) (fun _ => False) := by
    refine ⟨h, fun j c hc => ⟨c, hc⟩, fun j o ho => ⟨o, ho, ⟨rfl, rfl, rfl, fun i hi => by omega, fun _ _ => rfl⟩, fun _ => ⟨rfl, rfl⟩⟩, ?_, by simp, by simp, by simp, by simp, rfl, by simp [startT], by simp [startT], ?_, fun _ => rfl, by simp [startT, falses], ?_, ?_, rfl, by simp, by simp⟩
    · intro j o c ho hc hne
      rw [ho] at hc
      injection hc with hc
      exact absurd (by rw [hc]) hne
    · intro _ j o c ho hc
      rw [ho] at hc
      injection hc with hc
      rw [hc]
    · intro a ha
      simp [startT, falses, ha]
    · intro i hi
      have := hmk i hi
      simp [startT, this]
  have hfol : ∀ l, l ∈ ls → ∀ x, x ∈ l → Fol D (Reach D ls) x := by
    intro l hl1 x hx
    rcases hl l hl1 x hx with h1 | ⟨j, o, h1, h2⟩
    · exact .inl h1
    · exact .inr ⟨j, o, h1, h2, .root l x j o hl1 hx h1 h2⟩
  obtain ⟨b1, G1, C1, n1, h1, h2, h3⟩ := h0.followR hN hN2 ls hfol hw
  simp only [List.nil_append] at h1 h2
  obtain ⟨k, T, G2, C2, ms, p2, k1, k2, k3, k4⟩ := TI.drain hN hN2 hcl hrc _ h1 (Nat.le_refl _)
  have hmo : ∀ j, j ∈ ms → ∃ o c, D j = some o ∧ C2 j = some c ∧ Cur D C2 ms (cntO o) o c ∧ (c.a ≠ o.a → c.pins = 0) := by
    intro j hj
    obtain ⟨⟨o, ho⟩, _⟩ := k2.md j hj
    obtain ⟨c, hc, hcu, _⟩ := k2.dc j o ho
    rw [k2.sc j o hj (by simp) (fun h => h) ho] at hcu
    exact ⟨o, c, ho, hc, hcu, fun hne => (k2.fw j o c ho hc hne).2.2.1⟩
  have hrt : ∀ r, r < ls.length → Rel2 (Tx D C2 ms) (ls[r]?.getD []) ((followR cl m (startT A m least) ls).2[r]?.getD []) := fun r hr => ⟨(h2 r hr).1, fun i hi => ((h2 r hr).2 i hi).mono k3 k4⟩
  have hsw : HG T.A.sweep m (List.replicate (m * 256) false) (T.A.lines.map (·.2)) (keptD C2 ms) := k2.hg.sweep fun j c hc => by
    unfold keptD at hc
    split at hc
    · rename_i hj
      refine ⟨hc, fun i a b => ?_⟩
      have := (k2.hg.ob j c hc).b
      have := c.ee
      exact (k2.mr i (by omega)).2 ⟨j, c, hj, hc, a, b⟩
    · simp at hc
  refine ⟨T, _, _, _, C2, ms, ⟨b1, rfl, k, k1⟩, hsw, ?_, k2.nd, ?_, hmo, k2.lv, k2.m0, k2.m1, k2.mz, k2.cz, len_followR _ _ _ _, hrt, ?_⟩
  · intro i hi
    exact sweep_mk _ _ (by rw [k2.hg.inv.ok.ll]; exact hi)
  · intro j
    refine ⟨fun hj => (k2.md j hj).2, fun hr => ?_⟩
    induction hr with
    | root l x j o a1 a2 a3 a4 =>
      obtain ⟨r, hr, hrl⟩ := List.getElem_of_mem a1
      obtain ⟨i, hi, hil⟩ := List.getElem_of_mem a2
      have := (hrt r hr).2 i (by rw [List.getElem?_eq_getElem hr, Option.getD_some, hrl]; exact hi)
      rw [List.getElem?_eq_getElem hr, Option.getD_some, hrl, List.getElem?_eq_getElem hi, Option.getD_some, hil] at this
      rcases this with ⟨t1, _⟩ | ⟨q, oq, cq, t1, t2, t3, _⟩
      · rw [a4, pw_mod] at t1; exact absurd rfl t1
      · have hqa : oq.a = o.a := pw_inj (t2.symm.trans a4)
        have : q = j := by
          apply Classical.byContradiction
          intro hne
          have e1 := oq.ee
          have e2 := o.ee
          exact h.ap q j oq o hne t1 a3 o.a (by omega) (by omega) (by omega) (by omega)
        rw [← this]; exact t3
    | field j o i q oq a1 a2 a3 a4 a5 ih =>
      obtain ⟨o', c, b1, b2, b3, b4⟩ := hmo j ih
      rw [a2] at b1
      injection b1 with b1
      subst b1
      have hlen := cntO_le o
      rcases b3.a i a3 (by omega) with ⟨t1, _⟩ | ⟨u, ou, cu, t1, t2, t3, _⟩
      · rw [a5, pw_mod] at t1; exact absurd rfl t1
      · have hqa : ou.a = oq.a := pw_inj (t2.symm.trans a5)
        have : u = q := by
          apply Classical.byContradiction
          intro hne
          have e1 := ou.ee
          have e2 := oq.ee
          exact h.ap u q ou oq hne t1 a4 oq.a (by omega) (by omega) (by omega) (by omega)
        rw [← this]; exact t3
  · have hll := k2.hg.inv.ok.ll
    have h5 := empty_blocks T.A.sweep.lines m (by simp [Ar.sweep, hll]) ms (fun j => (((C2 j).map Ob.a).getD 0) / 256) (fun i hi ht => by
      rw [tk_sweep _ _ (by omega)] at ht
      obtain ⟨j, c, c1, c2, c3, c4⟩ := (k2.mr i hi).1 ht
      have hbk := (k2.hg.ob j c c2).bk
      have := c.ee
      refine ⟨j, c1, ?_⟩
      simp only [c2, Option.map_some, Option.getD_some]
      omega) m (Nat.le_refl _)
    have := List.countP_le_length (p := fun j => decide ((((C2 j).map Ob.a).getD 0) / 256 < m)) (l := ms)
    omega
end Go.Proofs.Ytjgndfhfiekomaa
