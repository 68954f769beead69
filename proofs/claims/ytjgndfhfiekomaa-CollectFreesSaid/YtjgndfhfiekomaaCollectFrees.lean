import Derived.Test.YtjgndfhfiekomaaArenaQ
import Derived.Test.YtjgndfhfiekomaaColS
import Derived.Test.YtjgndfhfiekomaaYF
import Derived.Test.YtjgndfhfiekomaaZR
import Derived.ProofKit
import Derived.ChangeOld
import Derived.Lib.SmallJoins
/- The arena on paper: as long as there are empty blocks between the small runs' and the others there is room. No program in sight. -/
set_option linter.all false
namespace Go.Proofs.Ytjgndfhfiekomaa
variable {A : Ar} {m p q : Nat}
theorem freeIn_all (l : List (Bool × Bool)) (o n : Nat) (hl : o + n ≤ l.length) (h : ∀ i, o ≤ i → i < o + n → tk l i = false) : freeIn l o n = n := by
  induction n with
  | zero => exact freeIn_zero l o
  | succ n ih =>
    rw [freeIn_step l o n (by omega), ih (by omega) (fun i a b => h i a (by omega)), h (o + n) (by omega) (by omega)]
    simp
theorem below_ge (l : List (Bool × Bool)) (n q : Nat) (hq : q < n) (h : freeOf l q = 16) : ∃ b, blockBelow l n = some b ∧ q ≤ b := by
  induction n with
  | zero => omega
  | succ n ih =>
    unfold blockBelow
    by_cases hn : freeOf l n = 16
    · rw [if_pos hn]; exact ⟨n, rfl, by omega⟩
    · rw [if_neg hn]
      exact ih (by rcases Nat.lt_or_ge q n with h1 | h1; exact h1; exact absurd (by rwa [show q = n by omega] at h) hn)
/-- Lines from block p to block q are free; small runs come from below. -/
structure Rm (A : Ar) (m p q : Nat) : Prop where
  ok : A.Ok m
  nx : A.next ≤ 16 * p
  pq : p ≤ q
  qm : q ≤ m
  fr : ∀ i, 16 * p ≤ i → i < 16 * q → tk A.lines i = false
def Room (A : Ar) (m r : Nat) : Prop := ∃ p q, Rm A m p q ∧ r ≤ q - p
theorem Room.ok {r : Nat} (h : Room A m r) : A.Ok m := by obtain ⟨p, q, h, _⟩ := h; exact h.ok
theorem Room.less {r r' : Nat} (h : Room A m r) (hr : r' ≤ r) : Room A m r' := by obtain ⟨p, q, h, h1⟩ := h; exact ⟨p, q, h, by omega⟩
theorem Room.new (h1 : 1 ≤ m) (h2 : m ≤ 4096) : Room (Ar.new m) m m :=
  ⟨0, m, ⟨Ar.new_ok m h1 h2, Nat.zero_le _, Nat.zero_le _, Nat.le_refl _, fun i _ hi => by
    simp only [Ar.new, tk, clear]
    rw [List.getElem?_replicate, if_pos (by omega)]; rfl⟩, by omega⟩
theorem Room.alloc {r : Nat} (h : Room A m (r + 1)) (n : Int) (n1 : 1 ≤ n) (n2 : n ≤ 256) : ∃ k, (A.alloc m n).2 = some k ∧ Room (A.alloc m n).1 m r := by
  obtain ⟨p, q, ⟨ok, nx, pq, qm, fr⟩, hr⟩ := h
  have ok' := Ar.Ok.alloc ok n
  have hll := ok.ll
  unfold Ar.alloc at ok' ⊢
  rw [if_neg (by omega)] at ok' ⊢
  by_cases h16 : 16 < n
  · rw [if_pos h16] at ok' ⊢
    unfold Ar.greatA at ok' ⊢
    by_cases hf : n.toNat ≤ A.gt - A.gf
    · rw [if_pos hf] at ok' ⊢
      exact ⟨_, rfl, p, q, ⟨ok', nx, pq, qm, fr⟩, by omega⟩
    · rw [if_neg hf] at ok' ⊢
      have hfree : freeOf A.lines (q - 1) = 16 := by
        unfold freeOf
        exact freeIn_all _ _ _ (by omega) (fun i a b => fr i (by omega) (by omega))
      obtain ⟨b, hb, hqb⟩ := below_ge A.lines m (q - 1) (by omega) hfree
      rw [hb] at ok' ⊢
      refine ⟨_, rfl, p, q - 1, ⟨ok', nx, by omega, by omega, fun i a c => ?_⟩, by omega⟩
      show tk (claimed A.lines _ _) i = false
      rw [tk_claimed', if_neg (by omega)]
      exact fr i a (by omega)
  · rw [if_neg h16] at ok' ⊢
    unfold Ar.smallA at ok' ⊢
    by_cases hf : n.toNat ≤ A.st - A.sf
    · rw [if_pos hf] at ok' ⊢
      exact ⟨_, rfl, p, q, ⟨ok', nx, pq, qm, fr⟩, by omega⟩
    · rw [if_neg hf] at ok' ⊢
      cases hx : find A.lines A.next 1 with
      | none =>
        have := find_none1 A.lines A.next hx (16 * p) nx (by omega)
        rw [fr (16 * p) (Nat.le_refl _) (by omega)] at this
        cases this
      | some ft =>
        obtain ⟨f, t⟩ := ft
        rw [hx] at ok'
        obtain ⟨e1, e2, e3, e4, e5⟩ := find_spec A.lines A.next 1 (by omega) f t hx
        have e6 : f ≤ 16 * p := by
          rcases Nat.lt_or_ge (16 * p) f with h | h
          · have := find_skip1 A.lines A.next f t hx (16 * p) nx h
            rw [fr (16 * p) (Nat.le_refl _) (by omega)] at this
            cases this
          · exact h
        have e7 := (hole_le A.lines f (by omega)).2.2
        refine ⟨_, rfl, p + 1, q, ⟨ok', ?_, by omega, qm, fun i a c => ?_⟩, by omega⟩
        · show t ≤ 16 * (p + 1)
          omega
        · show tk (claimed A.lines _ _) i = false
          rw [tk_claimed', if_neg (by omega)]
          exact fr i (by omega) c
theorem Room.set {r : Nat} (h : Room A m r) (i : Nat) (v : Int) : Room (A.set i v) m r := by
  obtain ⟨p, q, h, h1⟩ := h
  exact ⟨p, q, ⟨h.ok.set i v, h.nx, h.pq, h.qm, h.fr⟩, h1⟩
end Go.Proofs.Ytjgndfhfiekomaa
/- Room for small objects; a stack whose fields tell objects. No program in sight. -/
namespace Go.Proofs.Ytjgndfhfiekomaa
variable {A A' : Ar} {m W : Nat}
/-- So many more objects of two words can be made. -/
def Small2 (A : Ar) (m W : Nat) : Prop := ∃ p q, Rm A m p q ∧ W ≤ (A.st - A.sf) / 2 + 128 * (q - p)
theorem Small2.of (h : Room A m W) : Small2 A m (128 * W) := by
  obtain ⟨p, q, h1, h2⟩ := h
  exact ⟨p, q, h1, by omega⟩
theorem Small2.less (h : Small2 A m W) {V : Nat} (hv : V ≤ W) : Small2 A m V := by
  obtain ⟨p, q, h1, h2⟩ := h
  exact ⟨p, q, h1, by omega⟩
theorem Small2.set (h : Small2 A m W) (i : Nat) (v : Int) : Small2 (A.set i v) m W := by
  obtain ⟨p, q, h, h1⟩ := h
  exact ⟨p, q, ⟨h.ok.set i v, h.nx, h.pq, h.qm, h.fr⟩, h1⟩
theorem Small2.fill (h : Small2 A m W) (p : Nat) (v : Int) (k : Nat) : Small2 (fillW A p v k) m W := by
  induction k with
  | zero => exact h
  | succ k ih => exact ih.set _ _
theorem Small2.setF (h : Small2 A m W) (x i v : Int) : Small2 (setF A m x i v).1 m W := by
  unfold Go.Proofs.Ytjgndfhfiekomaa.setF
  cases hAt A m x with
  | none => exact h
  | some o => simp only; split; exact h; exact h.set _ _
theorem Small2.alloc (h : Small2 A m (W + 1)) : ∃ k, (A.alloc m 2).2 = some k ∧ Small2 (A.alloc m 2).1 m W := by
  obtain ⟨p, q, ⟨ok, nx, pq, qm, fr⟩, hr⟩ := h
  have ok' := Ar.Ok.alloc ok 2
  have hll := ok.ll
  unfold Ar.alloc at ok' ⊢
  rw [if_neg (by omega), if_neg (by omega)] at ok' ⊢
  rw [show (2 : Int).toNat = 2 from rfl] at ok' ⊢
  unfold Ar.smallA at ok' ⊢
  by_cases hf : 2 ≤ A.st - A.sf
  · rw [if_pos hf] at ok' ⊢
    refine ⟨_, rfl, p, q, ⟨ok', nx, pq, qm, fr⟩, ?_⟩
    simp only
    omega
  · rw [if_neg hf] at ok' ⊢
    cases hx : find A.lines A.next 1 with
    | none =>
      have := find_none1 A.lines A.next hx (16 * p) nx (by omega)
      rw [fr (16 * p) (Nat.le_refl _) (by omega)] at this
      cases this
    | some ft =>
      obtain ⟨f, t⟩ := ft
      rw [hx] at ok'
      obtain ⟨e1, e2, e3, e4, e5⟩ := find_spec A.lines A.next 1 (by omega) f t hx
      have e6 : f ≤ 16 * p := by
        rcases Nat.lt_or_ge (16 * p) f with h | h
        · have := find_skip1 A.lines A.next f t hx (16 * p) nx h
          rw [fr (16 * p) (Nat.le_refl _) (by omega)] at this
          cases this
        · exact h
      have e7 := (hole_le A.lines f (by omega)).2.2
      by_cases hfp : f = 16 * p
      · have ht : 16 * p + 16 ≤ t := by
          rcases Nat.lt_or_ge t (16 * p + 16) with h | h
          · have := (hole_test A.lines f t (by omega) (by omega)).2 ⟨by omega, by omega, fr t (by omega) (by omega)⟩
            omega
          · exact h
        refine ⟨_, rfl, p + 1, q, ⟨ok', ?_, by omega, qm, fun i a c => ?_⟩, ?_⟩
        · show t ≤ 16 * (p + 1)
          omega
        · show tk (claimed A.lines _ _) i = false
          rw [tk_claimed', if_neg (by omega)]
          exact fr i (by omega) c
        · simp only
          omega
      · refine ⟨_, rfl, p, q, ⟨ok', ?_, by omega, qm, fun i a c => ?_⟩, ?_⟩
        · show t ≤ 16 * p
          omega
        · show tk (claimed A.lines _ _) i = false
          rw [tk_claimed', if_neg (by omega)]
          exact fr i (by omega) c
        · simp only
          omega
theorem Small2.make (h : Small2 A m (W + 1)) : ∃ x, (makeF A m 0 1).2 = some x ∧ Small2 (makeF A m 0 1).1 m W := by
  obtain ⟨k, h1, h2⟩ := h.alloc
  unfold makeF
  rw [if_neg (by omega), show (1 : Int) + 1 = 2 from rfl, h1]
  exact ⟨_, rfl, (h2.set _ _).fill _ _ _⟩
theorem Room.fill2 {r : Nat} (h : Room A m r) (p : Nat) (v : Int) (k : Nat) : Room (fillW A p v k) m r := by
  induction k with
  | zero => exact h
  | succ k ih => exact ih.set _ _
theorem Room.makeR {r : Nat} (h : Room A m (r + 1)) (kind n : Int) (k0 : 0 ≤ kind) (k1 : kind < 32) (n0 : 0 ≤ n) (n1 : n ≤ 240) : ∃ x, (makeF A m kind n).2 = some x ∧ Room (makeF A m kind n).1 m r := by
  obtain ⟨k, h1, h2⟩ := h.alloc (n + 1) (by omega) (by omega)
  unfold makeF
  rw [if_neg (by omega), h1]
  exact ⟨_, rfl, (h2.set _ _).fill2 _ _ _⟩
/-- A stack at a0, of whose fields k tell objects. -/
def Stk (A : Ar) (n k a0 : Nat) : Prop := ∃ G D fs, HG A 20 G (List.replicate (20 * 16) false) D ∧ Unmarked A 20 ∧ Small2 A 20 (300 - k) ∧ D 0 = some ⟨a0, 15, 0, fs⟩ ∧ fs.length = n ∧ fs[0]?.getD 0 = 45 ∧ fs[1]?.getD 0 = 45 ∧
  (∀ i, 1 ≤ i → i ≤ k → ∃ a, D i = some ⟨a, 0, 0, [45]⟩ ∧ fs[i + 1]?.getD 0 = pw a) ∧ ∀ j, k < j → D j = none
theorem Stk.start (n : Nat) (h2 : 2 ≤ n) (hn : n ≤ 200) : ∃ a0, (makeF (Ar.new 20) 20 15 n).2 = some (pw a0) ∧ Stk (makeF (Ar.new 20) 20 15 n).1 n 0 a0 := by
  have hr := Room.new (m := 20) (by omega) (by omega)
  obtain ⟨x, h1, h3⟩ := Room.makeR (r := 19) hr 15 n (by omega) (by omega) (by omega) (by omega)
  have h0 := HG.start (m := 20) (by omega) (by omega)
  obtain ⟨G', a, e1, e2, e3, e4, e5, hg⟩ := h0.makeS h1 (j := 0) rfl
  refine ⟨a, by rw [h1, e1], G', _, _, hg, (Unmarked.start 20).make h0 _ _ (j := 0) rfl, (Small2.of h3).less (by omega), updD_self _ _ _, by simp, ?_, ?_, by intro i a b; omega, fun j hj => by rw [updD_ne _ _ (by omega)]⟩
  · simp only [List.getElem?_replicate]
    rw [if_pos (by omega)]; rfl
  · simp only [List.getElem?_replicate]
    rw [if_pos (by omega)]; rfl
theorem Stk.step {n k a0 : Nat} (h : Stk A n k a0) (hk : k + 2 < n) (hn : n ≤ 200) :
    ∃ x, (makeF A 20 0 1).2 = some x ∧ (0 ≤ x ∧ x < 18446744073709551616) ∧ (makeF A 20 0 1).1.Wd ∧ (makeF A 20 0 1).1.Ok 20 ∧ (setF (makeF A 20 0 1).1 20 (pw a0) ((k + 2 : Nat) : Int) x).2 = 0 ∧ Stk (setF (makeF A 20 0 1).1 20 (pw a0) ((k + 2 : Nat) : Int) x).1 n (k + 1) a0 := by
  obtain ⟨G, D, fs, hg, un, sm, d0, hl, f0, f1, hi, hj⟩ := h
  obtain ⟨W, hW⟩ : ∃ W, 300 - k = W + 1 := ⟨299 - k, by omega⟩
  rw [hW] at sm
  obtain ⟨x, h1, h2⟩ := sm.make
  obtain ⟨G', a, e1, _, _, _, _, hg2⟩ := hg.makeS h1 (j := k + 1) (hj _ (by omega))
  subst e1
  have d0' : updD D (k + 1) ⟨a, (0 : Int).toNat, 0, List.replicate (1 : Int).toNat (emptyW 0)⟩ 0 = some ⟨a0, 15, 0, fs⟩ := by rw [updD_ne _ _ (by omega)]; exact d0
  have hx := hg2.pwb (updD_self _ _ _)
  obtain ⟨s1, s2⟩ := hg2.setS d0' (k + 2) (by simp only; omega) hx.1 hx.2
  refine ⟨pw a, h1, hx, hg2.wd, hg2.inv.ok, s1, G', _, fs.set (k + 2) (pw a), s2, ((un.make hg 0 1 (hj (k + 1) (by omega))).set _ _ _), (h2.less (V := 300 - (k + 1)) (by omega)).setF _ _ _, updD_self _ _ _, by simpa using hl, ?_, ?_, ?_, ?_⟩
  · rw [List.getElem?_set_ne (by omega)]; exact f0
  · rw [List.getElem?_set_ne (by omega)]; exact f1
  · intro i i1 i2
    by_cases hik : i = k + 1
    · subst hik
      refine ⟨a, by rw [updD_ne _ _ (by omega), updD_self]; rfl, ?_⟩
      rw [List.getElem?_set_self (by omega)]; rfl
    · obtain ⟨b, q1, q2⟩ := hi i i1 (by omega)
      refine ⟨b, by rw [updD_ne _ _ (by omega), updD_ne _ _ hik]; exact q1, ?_⟩
      rw [List.getElem?_set_ne (by omega)]; exact q2
  · intro j hj2
    rw [updD_ne _ _ (by omega), updD_ne _ _ (by omega)]
    exact hj j (by omega)
theorem cntB_lt (k N : Nat) : cntB (fun j => decide (j < k)) N = min k N := by
  induction N with
  | zero => simp [cntB]
  | succ N ih =>
    simp only [cntB, ih, decide_eq_true_eq]
    split <;> omega
theorem Stk.end {n a0 : Nat} (h : Stk A n (n - 2) a0) (h2 : 2 ≤ n) (hn : n ≤ 200) {used : Int} (u0 : -5 ≤ used) (u1 : used ≤ 300) :
    ∃ G D, (0 ≤ pw a0 ∧ pw a0 < 18446744073709551616) ∧ A.Wd ∧ A.Ok 20 ∧ HG (setF A 20 (pw a0) 1 (mkW 0 used)).1 20 G (List.replicate (20 * 16) false) D ∧ Unmarked (setF A 20 (pw a0) 1 (mkW 0 used)).1 20 ∧ (∀ j o, D j = some o → j < n - 1) ∧ Closed D ∧ (∃ o, D 0 = some o ∧ pw a0 = pw o.a) ∧
      ∀ cl ls' T G K C ms, After D 20 cl [[pw a0]] ls' T G K C ms → (0 ≤ T.live ∧ T.live ≤ 1000) ∧ ((n : Int) - 2 < used → T.live = 1 + ((n : Int) - 2)) ∧ (used ≤ (n : Int) - 2 → 0 < used → T.live = 1 + used) ∧ (used ≤ 0 → T.live = 1) := by
  obtain ⟨G, D, fs, hg, un, sm, d0, hl, f0, f1, hi, hj⟩ := h
  have hu : 0 ≤ mkW 0 used ∧ mkW 0 used < 18446744073709551616 := by unfold mkW; omega
  obtain ⟨s1, s2⟩ := hg.setS d0 1 (by simp only; omega) hu.1 hu.2
  have hwv : wVal (mkW 0 used) = used := by
    unfold wVal mkW
    split <;> omega
  have hmod : mkW 0 used % 8 = 0 := by unfold mkW; omega
  have hcnt : cntO ⟨a0, 15, 0, fs.set 1 (mkW 0 used)⟩ = (2 + max 0 (min used ((n : Int) - 2))).toNat := by
    unfold cntO countF
    simp only [List.length_set, hl]
    rw [List.getElem?_set_self (by omega)]
    simp only [Option.getD_some, hwv, hmod]
    rw [if_neg (by omega), if_neg (by omega)]
    split <;> omega
  have hD0 : updD D 0 ⟨a0, 15, 0, fs.set 1 (mkW 0 used)⟩ 0 = some ⟨a0, 15, 0, fs.set 1 (mkW 0 used)⟩ := updD_self _ _ _
  have hDi : ∀ i, 1 ≤ i → i ≤ n - 2 → ∃ a, updD D 0 ⟨a0, 15, 0, fs.set 1 (mkW 0 used)⟩ i = some ⟨a, 0, 0, [45]⟩ ∧ (fs.set 1 (mkW 0 used))[i + 1]?.getD 0 = pw a := by
    intro i i1 i2
    obtain ⟨a, q1, q2⟩ := hi i i1 i2
    exact ⟨a, by rw [updD_ne _ _ (by omega)]; exact q1, by rw [List.getElem?_set_ne (by omega)]; exact q2⟩
  have hbd : ∀ j o, updD D 0 ⟨a0, 15, 0, fs.set 1 (mkW 0 used)⟩ j = some o → j < n - 1 := by
    intro j o ho
    apply Classical.byContradiction
    intro hn1
    rw [updD_ne _ _ (by omega), hj j (by omega)] at ho
    simp at ho
  refine ⟨G, _, hg.pwb d0, hg.wd, hg.inv.ok, s2, un.set _ _ _, hbd, ?_, ⟨_, hD0, rfl⟩, ?_⟩
  · intro j o i ho hic
    have hil := Nat.lt_of_lt_of_le hic (cntO_le o)
    by_cases hj0 : j = 0
    · subst hj0
      rw [hD0] at ho
      injection ho with ho
      subst ho
      simp only [List.length_set, hl] at hil
      rcases Nat.lt_trichotomy i 1 with h1 | h1 | h1
      · refine .inl ?_
        simp only
        rw [List.getElem?_set_ne (by omega), show i = 0 by omega, f0]
        omega
      · refine .inl ?_
        subst h1
        simp only
        rw [List.getElem?_set_self (by omega), Option.getD_some, hmod]
        omega
      · obtain ⟨a, q1, q2⟩ := hDi (i - 1) (by omega) (by omega)
        refine .inr ⟨i - 1, _, q1, ?_⟩
        rw [show i - 1 + 1 = i by omega] at q2
        exact q2
    · have hjn := hbd j o ho
      obtain ⟨a, q1, _⟩ := hDi j (by omega) (by omega)
      rw [q1] at ho
      injection ho with ho
      subst ho
      simp only [List.length_cons, List.length_nil] at hil
      rw [show i = 0 by omega]
      exact .inl (by simp)
  · intro cl ls' T G K C ms AF
    have r0 : Reach (updD D 0 ⟨a0, 15, 0, fs.set 1 (mkW 0 used)⟩) [[pw a0]] 0 := .root [pw a0] (pw a0) 0 _ (by simp) (by simp) hD0 rfl
    obtain ⟨c, hc⟩ : ∃ c, c = cntO ⟨a0, 15, 0, fs.set 1 (mkW 0 used)⟩ := ⟨_, rfl⟩
    have hc2 : 2 ≤ c ∧ c ≤ n := by rw [hc, hcnt]; omega
    have key : ∀ j, j ∈ ms ↔ j < n - 1 ∧ decide (j < c - 1) = true := by
      intro j
      rw [AF.md, decide_eq_true_eq]
      constructor
      · intro hr
        induction hr with
        | root l x j o b1 b2 b3 b4 =>
          simp only [List.mem_singleton] at b1
          subst b1
          simp only [List.mem_singleton] at b2
          rw [b2] at b4
          have := s2.uniq b3 hD0 (pw_inj b4.symm)
          subst this
          omega
        | field j o i q oq b1 b2 b3 b4 b5 ih =>
          by_cases hj0 : j = 0
          · subst hj0
            rw [hD0] at b2
            injection b2 with b2
            subst b2
            rw [← hc] at b3
            simp only at b5
            rcases Nat.lt_trichotomy i 1 with h1 | h1 | h1
            · rw [List.getElem?_set_ne (by omega), show i = 0 by omega, f0] at b5
              unfold pw at b5; omega
            · subst h1
              rw [List.getElem?_set_self (by omega), Option.getD_some] at b5
              rw [b5, pw_mod] at hmod
              omega
            · obtain ⟨a, q1, q2⟩ := hDi (i - 1) (by omega) (by omega)
              rw [show i - 1 + 1 = i by omega, b5] at q2
              have := s2.uniq b4 q1 (pw_inj q2)
              omega
          · obtain ⟨a, q1, _⟩ := hDi j (by omega) (by omega)
            rw [q1] at b2
            injection b2 with b2
            subst b2
            have hil := Nat.lt_of_lt_of_le b3 (cntO_le _)
            simp only [List.length_cons, List.length_nil] at hil
            rw [show i = 0 by omega] at b5
            simp only [List.getElem?_cons_zero, Option.getD_some] at b5
            unfold pw at b5; omega
      · rintro ⟨k1, k2⟩
        by_cases hj0 : j = 0
        · subst hj0; exact r0
        · obtain ⟨a, q1, q2⟩ := hDi j (by omega) (by omega)
          exact .field 0 _ (j + 1) j _ r0 hD0 (by rw [← hc]; omega) q1 q2
    have hlen := len_count _ _ ms AF.nd key
    rw [cntB_lt] at hlen
    rw [AF.lv, hlen]
    rw [hcnt] at hc
    have hfin : ((min (c - 1) (n - 1) : Nat) : Int) = 1 + max 0 (min used ((n : Int) - 2)) := by omega
    rw [hfin]
    refine ⟨by omega, fun h1 => ?_, fun h1 h3 => ?_, fun h1 => ?_⟩ <;> omega
end Go.Proofs.Ytjgndfhfiekomaa
/- Without roots: all blocks are empty, and take one great object each. No program in sight. -/
namespace Go.Proofs.Ytjgndfhfiekomaa
variable {A : Ar} {m : Nat} {G K : List Bool} {D : Nat → Option Ob}
theorem freeIn_conv (l : List (Bool × Bool)) (o n : Nat) (hl : o + n ≤ l.length) (h : freeIn l o n = n) : ∀ i, o ≤ i → i < o + n → tk l i = false := by
  induction n with
  | zero => intro i a b; omega
  | succ n ih =>
    have hs := freeIn_step l o n (by omega)
    have hle : freeIn l o n ≤ n := freeIn_le l o n
    rw [hs] at h
    have h1 : freeIn l o n = n := by
      by_cases ht : tk l (o + n) = true
      · rw [ht] at h; simp at h; omega
      · have : tk l (o + n) = false := by simpa using ht
        rw [this] at h; simp at h; omega
    have h2 : tk l (o + n) = false := by
      by_cases ht : tk l (o + n) = true
      · rw [ht] at h; simp at h; omega
      · simpa using ht
    intro i a b
    by_cases hi : i = o + n
    · subst hi; exact h2
    · exact ih (by omega) h1 i a (by omega)
theorem emptyIn_full (l : List (Bool × Bool)) (k : Nat) (h : emptyIn l k = k) : ∀ q, q < k → freeOf l q = 16 := by
  induction k with
  | zero => intro q hq; omega
  | succ k ih =>
    have hle := emptyIn_le l k
    simp only [emptyIn] at h
    intro q hq
    by_cases hk : freeOf l k = 16
    · rw [if_pos hk] at h
      by_cases hqk : q = k
      · subst hqk; exact hk
      · exact ih (by omega) q (by omega)
    · rw [if_neg hk] at h; omega
theorem swept_room (ok : A.sweep.Ok m) (he : emptyIn A.sweep.lines m = m) : Room A.sweep m m := by
  refine ⟨0, m, ⟨ok, ?_, Nat.zero_le _, Nat.le_refl _, fun i _ hi => ?_⟩, by omega⟩
  · simp [Ar.sweep]
  · have hll := ok.ll
    have hq := emptyIn_full _ m he (i / 16) (by omega)
    unfold freeOf at hq
    exact freeIn_conv _ _ 16 (by omega) hq i (by omega) (by omega)
/-- So many great objects stand in the heap, and no others. -/
structure Gr (A : Ar) (m k : Nat) (G K : List Bool) (D : Nat → Option Ob) : Prop where
  hg : HG A m G K D
  gr : ∀ j, j < k → ∃ o, D j = some o ∧ o.fs.length = 240
  no : ∀ j, k ≤ j → D j = none
theorem Gr.more {k : Nat} (h : Gr A m k G K D) {x : Int} (hx : (makeF A m 0 240).2 = some x) : ∃ G' D', Gr (makeF A m 0 240).1 m (k + 1) G' K D' := by
  obtain ⟨G', a, _, _, _, _, _, hg⟩ := h.hg.makeS hx (h.no k (Nat.le_refl _))
  refine ⟨G', _, hg, fun j hj => ?_, fun j hj => ?_⟩
  · by_cases hjk : j = k
    · subst hjk
      exact ⟨_, updD_self _ _ _, by simp only [List.length_replicate]; rfl⟩
    · rw [updD_ne _ _ hjk]
      exact h.gr j (by omega)
  · rw [updD_ne _ _ (by omega)]
    exact h.no j (by omega)
/-- One block holds one of them. -/
theorem Gr.le {k : Nat} (h : Gr A m k G K D) : k ≤ m := by
  rcases Nat.lt_or_ge m k with hlt | hle
  · exfalso
    have key : ∀ n, n ≤ k → ∃ l : List Nat, l.length = n ∧ l.Nodup ∧ (∀ q, q ∈ l → q < m ∧ ∃ j o, j < n ∧ D j = some o ∧ q = o.a / 256) := by
      intro n
      induction n with
      | zero => intro _; exact ⟨[], rfl, List.nodup_nil, by simp⟩
      | succ n ih =>
        intro hn
        obtain ⟨l, h1, h2, h3⟩ := ih (by omega)
        obtain ⟨o, ho, hl⟩ := h.gr n (by omega)
        have hob := h.hg.ob n o ho
        have he := o.ee
        have hb := hob.b
        have hbk := hob.bk
        refine ⟨o.a / 256 :: l, by simp [h1], List.nodup_cons.2 ⟨fun hm => ?_, h2⟩, ?_⟩
        · obtain ⟨_, j, p, hj, hp, hq⟩ := h3 _ hm
          obtain ⟨p', hp', hpl⟩ := h.gr j (by omega)
          rw [hp] at hp'
          injection hp' with hp'
          subst hp'
          have hpob := h.hg.ob j p hp
          have hpe := p.ee
          have hpbk := hpob.bk
          have hap := h.hg.ap n j o p (by omega) ho hp
          rcases Nat.lt_or_ge o.a p.a with hc | hc
          · exact hap p.a (by omega) (by omega) (by omega) (by omega)
          · exact hap o.a (by omega) (by omega) (by omega) (by omega)
        · intro q hq
          rcases List.mem_cons.1 hq with hq | hq
          · exact ⟨by omega, n, o, by omega, ho, hq⟩
          · obtain ⟨a1, j, p, a2, a3, a4⟩ := h3 q hq
            exact ⟨a1, j, p, by omega, a3, a4⟩
    obtain ⟨l, h1, h2, h3⟩ := key k (Nat.le_refl _)
    have hc := len_count (fun j => decide (j ∈ l)) m l h2 (fun j => by
      constructor
      · intro hj; exact ⟨(h3 j hj).1, by simpa using hj⟩
      · rintro ⟨_, hj⟩; simpa using hj)
    have hle : ∀ n, cntB (fun j => decide (j ∈ l)) n ≤ n := by
      intro n
      induction n with
      | zero => simp [cntB]
      | succ n ih => simp only [cntB]; split <;> omega
    have := hle m
    omega
  · exact hle
end Go.Proofs.Ytjgndfhfiekomaa
/- The law CollectFrees holds for every input: the Go function returns true and leaves its arguments as they were. No condition. -/
namespace Go.Proofs.Ytjgndfhfiekomaa.collectFrees
open Go.ChangeShapes Go.WideShapes Go.ChangeAt Go.RowKit Go.Joins
theorem early (n : Int) (a : Option Addr) (len cap : Nat) (p0 p1 : Int) (w : World) (bn : -9223372036854775808 ≤ n ∧ n ≤ 9223372036854775807) (hl : len ≤ maxLen) (h : n < 1 ∨ 8 < n ∨ 100 < len) :
    Calls Try.prog 8 #[.int .i64 n, .slice a len cap, .agg #[.int .i64 p0, .int .i64 p1]] w fun e w' => e = .returned (.bool true) ∧ Below w.heap.size w w' := by
  unfold maxLen at hl
  have FB : ∀ w', Fr [] (w.alloc (.cells #[.int .i64 p0, .int .i64 p1] 72)) w' → Below w.heap.size w w' := fun w' hF => (((Fr.refl [] w).alloc _).same hF).below
  by_cases h1 : n < 1
  · clear h
    go_enter Try.func8, Try.ntmps8
    go_wp2_with fail
    refine (collectAlive_c _).mono ?_
    rintro e w' ⟨rfl, F1⟩
    go_wp2
    go_ret
    exact ⟨rfl, FB _ F1⟩
  by_cases h2 : 8 < n
  · clear h
    go_enter Try.func8, Try.ntmps8
    go_wp2_with fail
    refine (collectAlive_c _).mono ?_
    rintro e w' ⟨rfl, F1⟩
    go_wp2
    go_ret
    exact ⟨rfl, FB _ F1⟩
  · have h3 : 100 < len := by omega
    clear h
    go_enter Try.func8, Try.ntmps8
    go_wp2_with fail
    refine (collectAlive_c _).mono ?_
    rintro e w' ⟨rfl, F1⟩
    go_wp2
    go_ret
    exact ⟨rfl, FB _ F1⟩
/-- Behind the collection without roots. -/
structure FreeK (w : World) (c : Yk) (m k : Nat) (A : Ar) (G K : List Bool) (D : Nat → Option Ob) (wx : World) : Prop where
  he : HeAt wx c.hb c.b c.wb c.lb A
  gr : Gr A m k G K D
  rm : Room A m (m - k)
  y0 : wx.cell? ⟨c.y, 0, none⟩ = some (.pointer (some ⟨c.hb, 0, none⟩))
  lo : ∀ x, x ∈ c.all → w.heap.size ≤ x
  yn : c.y ∉ [c.b, c.wb, c.lb]
  fr : Fr [] w wx
def FreeCut (w : World) (c : Yk) (m : Nat) (s10 : Value) (wx : World) : Prop :=
  ∃ (rx : Nat) (A : Ar) (G K : List Bool) (D : Nat → Option Ob), s10 = .pointer (some ⟨rx, 0, none⟩) ∧ blk wx rx = some (.cells #[.int .i64 0, .int .i64 0, .int .i64 (m : Int)] 69 (0, 0)) ∧ FreeK w c m 0 A G K D wx
theorem free_fin {w w1 wr w3 wx : World} {c : Yk} {A : Ar} {S : Ys} {m : Nat} {D : Nat → Option Ob} {cl : Int → Int} {T : Tr} {ls' : List (List Int)} {G K : List Bool} {C : Nat → Option Ob} {ms : List Nat} {rx : Nat} (hw : w.heap.size ≤ w1.heap.size) (Fw : Fr [] w w1) (Y : YAt w1 wr c A S [])
    (AF : After D m cl [] ls' T G K C ms) (H3 : HeAt w3 c.hb c.b c.wb c.lb T.A.sweep) (F4 : Fr [c.b, c.wb, c.lb] wr w3) (hrx : wr.heap.size ≤ rx) (FX : Fr [rx] w3 wx)
    (hb : blk wx rx = some (.cells #[.int .i64 0, .int .i64 0, .int .i64 (m : Int)] 69 (0, 0))) : FreeCut w c m (.pointer (some ⟨rx, 0, none⟩)) wx := by
  have hall := Y.all_lt
  have ha : ∀ x, x ∈ c.all → x ≠ rx := fun x hx he => by have := hall x hx; omega
  have mem : c.y ∈ c.all ∧ c.hb ∈ c.all ∧ c.b ∈ c.all ∧ c.wb ∈ c.all ∧ c.lb ∈ c.all := by simp [Yk.all]
  have lo : ∀ x, x ∈ c.all → w.heap.size ≤ x := fun x hx => Nat.le_trans hw (Y.lo x hx)
  obtain ⟨h1, h2, h3, h4⟩ := AF.none (by simp)
  subst h1
  have hD : keptD C [] = fun _ => none := by funext j; simp [keptD]
  have hg := AF.hg
  rw [hD] at hg
  have F5 : Fr [] wr wr := Fr.refl _ _
  refine ⟨rx, _, G, K, _, rfl, hb, H3.fr FX (by simpa using ha _ mem.2.1) (by simpa using ha _ mem.2.2.1) (by simpa using ha _ mem.2.2.2.1) (by simpa using ha _ mem.2.2.2.2), ⟨hg, fun j hj => by omega, fun _ _ => rfl⟩, swept_room hg.inv.ok h4, ?_, lo, Y.yne.1, ?_⟩
  · exact cell_fr (cell_fr Y.y0 F4 Y.yne.1) FX (by simpa using ha _ mem.1)
  · refine ((Fw.same Y.fr).trans F4 (fun x hx => .inr ?_)).trans FX (fun x hx => .inr ?_)
    · simp only [List.mem_cons, List.not_mem_nil, or_false] at hx
      rcases hx with rfl | rfl | rfl
      · exact lo _ mem.2.2.1
      · exact lo _ mem.2.2.2.1
      · exact lo _ mem.2.2.2.2
    · simp only [List.mem_singleton] at hx
      have h5 := (Fw.same Y.fr).size
      omega
theorem FreeK.made {w wx w2 : World} {c : Yk} {m k : Nat} {A : Ar} {G K : List Bool} {D : Nat → Option Ob} (h : FreeK w c m k A G K D wx) (hk : k < m) (H2 : HeAt w2 c.hb c.b c.wb c.lb (makeF A m 0 240).1) (F2 : Fr [c.b, c.wb, c.lb] wx w2) :
    ∃ G' D', FreeK w c m (k + 1) (makeF A m 0 240).1 G' K D' w2 := by
  obtain ⟨x, hx, hr⟩ := Room.makeR (r := m - (k + 1)) (h.rm.less (by omega)) 0 240 (by omega) (by omega) (by omega) (by omega)
  obtain ⟨G', D', hg⟩ := h.gr.more hx
  refine ⟨G', D', H2, hg, hr, cell_fr h.y0 F2 h.yn, h.lo, h.yn, h.fr.trans F2 (fun x hx => .inr ?_)⟩
  simp only [List.mem_cons, List.not_mem_nil, or_false] at hx
  rcases hx with rfl | rfl | rfl
  · exact h.lo _ (by simp [Yk.all])
  · exact h.lo _ (by simp [Yk.all])
  · exact h.lo _ (by simp [Yk.all])
theorem FreeK.some {w wx : World} {c : Yk} {m k : Nat} {A : Ar} {G K : List Bool} {D : Nat → Option Ob} (h : FreeK w c m k A G K D wx) (hk : k < m) : ∃ x, (makeF A m 0 240).2 = .some x := by
  obtain ⟨x, hx, _⟩ := Room.makeR (r := m - (k + 1)) (h.rm.less (by omega)) 0 240 (by omega) (by omega) (by omega) (by omega)
  exact ⟨x, hx⟩
theorem FreeK.none {w wx : World} {c : Yk} {m : Nat} {A : Ar} {G K : List Bool} {D : Nat → Option Ob} (h : FreeK w c m m A G K D wx) : (makeF A m 0 240).2 = .none := by
  cases hx : (makeF A m 0 240).2 with
  | none => rfl
  | some x =>
    obtain ⟨G', D', hg⟩ := h.gr.more hx
    have := hg.le
    omega
set_option maxRecDepth 100000 in
set_option maxHeartbeats 8000000 in
theorem main (m : Nat) (a : Option Addr) (len cap : Nat) (N : Nat → Nat → Int) (p0 p1 : Int) (w : World) (hm : 1 ≤ m ∧ m ≤ 8) (hl : len ≤ 100) (hN : IsActs16 w a len cap N) :
    Calls Try.prog 8 #[.int .i64 (m : Int), .slice a len cap, .agg #[.int .i64 p0, .int .i64 p1]] w fun e w' => e = .returned (.bool true) ∧ Below w.heap.size w w' := by
  have HM : Hid (blocksOf (m : Int) = m) := Lib.hid (by
    unfold blocksOf
    split
    · omega
    · split <;> omega)
  have HN := Lib.hid hN
  have hcap := hN.2.2.1
  have F0 := Lib.hid (show Fr [] w (w.alloc (.cells #[.int .i64 p0, .int .i64 p1] 72)) from (Fr.refl _ _).alloc _)
  have P0 := Lib.hid (b1a w (.cells #[.int .i64 p0, .int .i64 p1] 72))
  clear hN
  go_enter Try.func8, Try.ntmps8
  go_wp2_with fail
  refine (collectAlive_c _).mono ?_
  rintro e w1 ⟨rfl, F1⟩
  have P1 := Lib.hid (F1.at P0.out (by simp))
  have F1 := Lib.hid (F0.out.same F1)
  clear F0 P0
  go_wp2_with fail
  refine (ymade_c _ _ HM.out).mono ?_
  rintro e w2 ⟨c, rb, mv, rfl, YM⟩
  obtain ⟨G0, K0, D0, I0⟩ := y0_paper (m := m) rb mv (by omega) (by omega)
  have YM := Lib.hid YM
  have I0 := Lib.hid I0
  have L0 : (Y0 rb mv).objs.length = 0 := rfl
  obtain ⟨S0, hS0⟩ : ∃ S0, S0 = Y0 rb mv := ⟨_, rfl⟩
  rw [← hS0] at YM I0 L0
  have L0 := Lib.hid L0
  obtain ⟨px, hpx⟩ : ∃ px, px = w.heap.size := ⟨_, rfl⟩
  have HPX := Lib.hid hpx
  rw [← hpx] at P1 ⊢
  clear hS0 hpx
  go_wp2_with fail
  go_loopw [9, 33] (fun _ u wr => ∃ (k : Nat) (A : Ar) (S : Ys) (G K : List Bool) (D : Nat → Option Ob), k ≤ len ∧ u = .int .i64 (k : Int) ∧ Hid (YAt w1 wr c A S []) ∧ Hid (YI m A S G K D) ∧ Hid (S.objs.length ≤ k)) (fun _ u _ => len - (intOf u).toNat)
  case atStart => exact ⟨0, _, S0, _, _, _, by omega, by go_num, YM, I0, Lib.hid (by have := L0.out; omega)⟩
  case round =>
    obtain ⟨k, A, S, G, K, D, hk, rfl, YK, IK, LK⟩ := hrel
    clear YM I0 L0
    have FK := Lib.hid (F1.out.same YK.out.fr)
    by_cases hlt : k < len
    · obtain ⟨ab, ao, rfl⟩ : ∃ ab ao, a = some ⟨ab, ao, none⟩ := by
        rcases HN.out.1 with h | ⟨b, o, h, _⟩
        · omega
        · exact ⟨b, o, h⟩
      obtain ⟨a0, a1, a2, a3, a4, a5, a6, a7, hab⟩ := acts16_at HN.out.1 FK.out (by simp) k hlt
      have hsz : ab < wr.heap.size := by have := FK.out.size; omega
      have hne : ab ≠ wr.heap.size := by omega
      have hw : Hid (Wd64 (actN N k).w) := Lib.hid (by
        have := HN.out.2.1 k 5 hlt (by omega)
        have h2 := bounds_u64 this
        unfold Wd64 actN
        simp only
        omega)
      have SC := Lib.hid (fun wz (hF : Fr [] wr wz) => step_c (YK.out.keep hF) IK.out (by have := LK.out; omega) (actN N k) hw.out)
      unfold Ac.v actN at SC
      simp only at SC
      have CO : Hid (∀ e w', StepOk w1 c [] m S (actN N k) e w' → e = .returned (.bool true) ∧ ∃ A' S' G' K' D', Hid (YAt w1 w' c A' S' []) ∧ Hid (YI m A' S' G' K' D') ∧ Hid (S'.objs.length ≤ k + 1)) := Lib.hid (by
        rintro e w' ⟨ok, A', S', G', K', D', h1, h2, h3, h4⟩
        refine ⟨h1, A', S', G', K', D', Lib.hid h2, Lib.hid h3, Lib.hid ?_⟩
        have h5 := stepM_len S.md (actN N k) ok
        rw [← h4] at h5
        simp only [Ys.md, List.length_map] at h5
        have := LK.out
        omega)
      unfold actN at CO
      clear YK IK LK
      go_wp2_with fail
      refine (SC.out _ ((Fr.refl _ _).alloc _)).mono ?_
      intro e w3 hp
      obtain ⟨he, A', S', G', K', D', Y', I', L'⟩ := CO.out e w3 hp
      subst he
      clear SC CO a0 a1 a2 a3 a4 a5 a6 a7 hp
      go_wp2
      go_roundw
      case rel => exact ⟨k + 1, A', S', G', K', D', by omega, by go_num, Y', I', L'⟩
      case measure => simp [intOf]; omega
    · have HJK := Lib.hid hlt
      have PR := Lib.hid (YK.out.fr.at P1.out (by simp))
      have RN : Hid (∀ wz : World, Fr [] wr wz → Calls Try.prog 36 #[.pointer (some ⟨c.hb, 0, none⟩), .slice none 0 0, .agg #[.int .i64 p0, .int .i64 p1]] wz (RunG c.hb c.b c.wb c.lb m [] D [] p0 p1 wz)) := Lib.hid (fun wz hF =>
        run_law (YK.out.keep hF).he IK.out.hg IK.out.un IK.out.bd (by have := IK.out.mb.n; omega) IK.out.closed _ [] [] ⟨⟨_, _, rfl⟩, by simp, by simp, by intro i j r s _ h; simp at h, by simp, by simp⟩ ⟨rfl, by simp⟩ (by simp) (by simp) p0 p1)
      have hall := Lib.hid YK.out.all_lt
      have h3 : Hid (∀ x, wr.heap.size ≤ x → x ∉ [c.b, c.wb, c.lb]) := Lib.hid (fun x hx => Yk.three (fun hm => by have := hall.out x hm; omega))
      have hp3 : px ∉ [c.b, c.wb, c.lb] := Yk.three (fun hm => by
        have h1 := YK.out.lo px hm
        have h2 := lt_size P1.out
        omega)
      have hy3 : c.y ∉ [c.b, c.wb, c.lb] := YK.out.yne.1
      go_wp2_with fail
      go_cut [10] (fun s10 wx => FreeCut w c m s10 wx)
      case first =>
        have y0 : wr.cell? ⟨c.y, 0, none⟩ = _ := YK.out.y0
        have k0 := cell_of PR.out (i := 0) rfl
        have k1 := cell_of PR.out (i := 1) rfl
        have KC : Hid (∀ wz, Fr [c.b, c.wb, c.lb] wr wz → wz.cell? ⟨c.y, 0, none⟩ = some (.pointer (some ⟨c.hb, 0, none⟩)) ∧ wz.cell? ⟨px, 0, none⟩ = some (.int .i64 p0) ∧ wz.cell? ⟨px, 1, none⟩ = some (.int .i64 p1)) := Lib.hid (fun wz hF => ⟨cell_fr y0 hF hy3, cell_fr k0 hF hp3, cell_fr k1 hF hp3⟩)
        go_region_held3 (fun W => W.cell? ⟨c.y, 0, none⟩ = some (.pointer (some ⟨c.hb, 0, none⟩)) ∧ W.cell? ⟨px, 0, none⟩ = some (.int .i64 p0) ∧ W.cell? ⟨px, 1, none⟩ = some (.int .i64 p1)) (first | with_reducible assumption | exact KC.out _ (by repeat (first | with_reducible assumption | exact Fr.refl _ _ | apply Fr.drew | apply Fr.alloc | (refine Fr.setCell ?_ (.inr (by omega)) _)))) (first | (go_at_call 36; refine (RN.out _ (by repeat (first | exact Fr.refl _ _ | apply Fr.drew | apply Fr.alloc))).mono ?_; rintro e w3 ⟨cl, T, ls', G', K', C, ms, AF, hcz, rfl, H3, R3, F3⟩; have F4 : Fr [c.b, c.wb, c.lb] wr w3 := Fr.pre (by repeat (first | exact Fr.refl _ _ | apply Fr.drew | apply Fr.alloc)) F3; obtain ⟨z0, z1, z2, z3⟩ := AF.none (by simp); rw [z1, z2, z3]; first | (refine rep_then (rx := wr.heap.size) (v0 := .int .i64 0) (v1 := .int .i64 0) (v2 := .int .i64 0) (t := 69) F3 ?_ ?_ ?_; (focus (exact b1a wr _)); (exact h3.out _ (Nat.le_refl _)); rintro ⟨qb, q0, q1, q2, q3, q4, q5⟩) | skip))
        all_goals
          go_wp2_with fail
          go_meet
          first
          | exact free_fin F1.out.size F1.out YK.out AF H3 F4 F4.size ((Fr.refl [w3.heap.size] w3).alloc _) (b1a w3 _)
          | exact free_fin F1.out.size F1.out YK.out AF H3 F4 (Nat.le_refl _) ((((Fr.refl [_] w3).setCell (by simp) _).setCell (by simp) _).setCell (by simp) _) (by rw [blk_set, if_pos rfl, blk_set, if_pos rfl, blk_set, if_pos rfl, qb]; rfl)
      case rest =>
        obtain ⟨rx, A1, G1, K1, D1, rfl, RB, FK1⟩ := hcut
        have FK1 := Lib.hid FK1
        have r0 := cell_of RB (i := 0) rfl
        have r1 := cell_of RB (i := 1) rfl
        have r2 := cell_of RB (i := 2) rfl
        clear YK IK LK RN PR
        go_wp2_with fail
        go_loopw [11, 12, 13] (fun u _ _ wr => ∃ (k : Nat) (A : Ar) (G K : List Bool) (D : Nat → Option Ob), k ≤ m ∧ u = .int .i64 (k : Int) ∧ Hid (FreeK w c m k A G K D wr)) (fun u _ _ _ => m - (intOf u).toNat)
        case atStart => exact ⟨0, _, _, _, _, by omega, by go_num, FK1⟩
        case round =>
          obtain ⟨k, A, G, K, D, hk, rfl, FQ⟩ := hrel
          have y0 := FQ.out.y0
          clear FK1
          by_cases hlt2 : k < m
          · obtain ⟨x, hx⟩ := FQ.out.some hlt2
            have CM := Lib.hid (omake_c _ FQ.out.he FQ.out.gr.hg.inv.ok 0 240)
            rw [hx] at CM
            simp only [wordVal] at CM
            clear hx
            go_wp2_with fail
            refine CM.out.mono ?_
            rintro e w4 ⟨rfl, H4, F4⟩
            obtain ⟨G4, D4, FN⟩ := FQ.out.made hlt2 H4 F4
            have FN := Lib.hid FN
            clear CM H4 F4 FQ y0
            go_wp2
            go_roundw
            case rel => exact ⟨k + 1, _, _, _, _, by omega, by go_num, FN⟩
            case measure => simp [intOf]; omega
          · have hkm : k = m := by omega
            have FE := Lib.hid (show FreeK w c m m A G K D _ by have := FQ.out; rwa [hkm] at this)
            have hx := FE.out.none
            have CM := Lib.hid (omake_c _ FE.out.he FE.out.gr.hg.inv.ok 0 240)
            rw [hx] at CM
            simp only [wordVal] at CM
            have HJ2 := Lib.hid hlt2
            clear hx hkm
            go_wp2_with fail
            refine CM.out.mono ?_
            rintro e w4 ⟨rfl, H4, F4⟩
            have F5 := Lib.hid (FE.out.fr.trans F4 (fun x hx => .inr (by
              simp only [List.mem_cons, List.not_mem_nil, or_false] at hx
              rcases hx with rfl | rfl | rfl
              · exact FE.out.lo _ (by simp [Yk.all])
              · exact FE.out.lo _ (by simp [Yk.all])
              · exact FE.out.lo _ (by simp [Yk.all]))))
            clear CM H4 F4 FQ FE y0
            go_wp2
            go_ret
            exact ⟨rfl, F5.out.below⟩
/-- A plan, as an argument. -/
def zeroP : Value := .agg #[.int .i64 0, .int .i64 0]
theorem cells_plan : Try.prog.cellsOf 3 = 1 := by kernel_rfl
set_option maxRecDepth 100000 in
theorem open_plan {H : Type} {enc : TypeId × Value → H} {W : World} {d : DataW H} {p : List MemPlace} {base : Nat} {v : Value} (hv : Value.okWide Try.prog W .any base 72 v) (h : DataW.Trod enc Try.prog W 0 (fun _ => true) true 72 v d p) : ∃ z : Int × Int, v = .agg #[.int .i64 z.1, .int .i64 z.2] ∧ True := by
  obtain ⟨c0, c1, y0, y1, m, rfl, rfl, rfl, hy0, hy1⟩ := open_agg2 Try.underlying72 (by kernel_rfl) (by kernel_rfl) hv h
  obtain ⟨a, e0, _⟩ := DataW.trod_int Try.underlying3 hy0
  obtain ⟨b, e1, _⟩ := DataW.trod_int Try.underlying3 hy1
  simp at e0 e1
  subst e0 e1
  exact ⟨(a, b), rfl, trivial⟩
theorem walk (n : Int) (a : Option Addr) (len cap : Nat) (N : Nat → Nat → Int) (z : Int × Int) (w : World) (w0 : (Lit.int .i64 n).wf = true) (hN : IsActs16 w a len cap N) (_ : True) :
    Calls Try.prog 8 #[.int .i64 n, .slice a len cap, .agg #[.int .i64 z.1, .int .i64 z.2]] w fun e w' => e = .returned (.bool true) ∧ Below w.heap.size w w' := by
  have bn := bounds_i64 w0
  by_cases h : n < 1 ∨ 8 < n ∨ 100 < len
  · exact early n a len cap z.1 z.2 w bn (by have := hN.2.2; omega) h
  · have := main n.toNat a len cap N z.1 z.2 w (by omega) (by omega) hN
    rwa [show ((n.toNat : Nat) : Int) = n from by omega] at this
theorem own : ownKnob Try.prog.godebug = none := by kernel_rfl
theorem laidOut : laidOutB Try.prog = true := by kernel_rfl
set_option maxRecDepth 100000 in
theorem lifted (os : Os) (started : os.Started) (H : Type) (enc : TypeId × Value → H) :
    ReturnsInHanded {} Try.checked os 8 .any (Rows.collectFreesSpec.pre6 enc Try.prog Try.f8 Rows.collectFreesRow.domain false) (Rows.collectFreesSpec.post enc Try.prog Try.f8 false true false false) := by
  refine returnsInHanded_of_change (C := Try.checked) own started (by kernel_rfl) Try.func8
    (ChangeSpec.witness6 (enc := enc) (C := Try.checked) false ⟨#[], #[.int .i64 0, .slice none 0 0, zeroP], []⟩ 8 (by kernel_rfl) (by kernel_rfl) (by kernel_rfl) (by kernel_rfl)) ?_
  intro W base args ds gs before hval0 hW hcnd _
  have hval : ∀ (j : Nat) t v, Try.f8.params[j]? = some t → args[j]? = some v → Value.okWide Try.prog W .any base t v := hval0
  have hW' := hW
  obtain ⟨p, q, hA0, hV, rfl, hfz, hnd⟩ := hW
  have hA : DataW.TrodAll enc Try.prog W 0 (fun _ => true) true Try.f8.params.toList args.toList ds p := hA0
  rw [Try.params8] at hA hval
  obtain ⟨v0, vs0, d0, ds0, p0, q0, hargs, rfl, rfl, h0, r0⟩ := trodAll_cons hA
  obtain ⟨v1, vs1, d1, ds1, p1, q1, rfl, rfl, rfl, h1, r1⟩ := trodAll_cons r0
  obtain ⟨v2, vs2, d2, ds2, p2, q2, rfl, rfl, rfl, h2, r2⟩ := trodAll_cons r1
  obtain ⟨rfl, rfl, rfl⟩ := trodAll_nil r2
  obtain rfl : args = #[v0, v1, v2] := by cases args; simp_all
  obtain ⟨rfl, rfl⟩ := trodVars_none hV
  obtain ⟨a0, rfl, rfl, rfl, w0⟩ := open_int Try.underlying3 (hval 0 3 v0 rfl rfl) h0
  obtain ⟨a1, len1, cap1, rfl⟩ := okWide_slice Try.underlying76 (hval 1 76 v1 rfl rfl)
  have k1 := h1
  have lt1 : ∀ x ∈ p1, x.block < W.heap.size := by obtain ⟨m, hm⟩ := k1; exact DataW.trod_lt m _ _ _ hm
  obtain ⟨z1, w1⟩ := opener16 h1
  have k2 := h2
  have lt2 : ∀ x ∈ p2, x.block < W.heap.size := by obtain ⟨m, hm⟩ := k2; exact DataW.trod_lt m _ _ _ hm
  obtain ⟨z2, rfl, w2⟩ := open_plan (hval 2 72 v2 rfl rfl) h2
  clear hA0 hval0
  refine (walk a0 a1 len1 cap1 z1 z2 W w0 w1 w2).mono fun e W' ⟨he, bel⟩ => ?_
  subst he
  exact ⟨_, rfl, _, _, _, [], _, [], hW', trodAll_mk1 (shut_bool Try.underlying4 _), (trodAll_cons_mk (shut_int Try.underlying3 w0) (trodAll_cons_mk (Below.trod laidOut (by kernel_rfl) (of_decide_eq_true (by kernel_rfl)) k1 bel lt1) (trodAll_cons_mk (Below.trod laidOut (by kernel_rfl) (of_decide_eq_true (by kernel_rfl)) k2 bel lt2) trodAll_mk0))), rfl, bel.frame _, fun h => by cases h⟩
theorem over : Rows.collectFreesRow.holds Try.pinned (OpenSpec.ofChange Rows.collectFreesSpec) :=
  OpenClaim.holds_of_wide 8 Try.f8 rfl rfl rfl rfl rfl rfl rfl ⟨rfl, rfl, rfl, rfl, rfl⟩ rfl rfl rfl rfl rfl (by kernel_rfl) Try.func8 (by kernel_rfl)
    (of_decide_eq_true (by kernel_rfl)) (by unfold Func.isWrapper; first | (rw [if_pos (by decide +kernel)]; kernel_rfl) | (rw [if_neg (by decide +kernel)]; exact ⟨rfl, rfl⟩))
    (fun os started H enc _ => lifted os started H enc)
/-- THE STATEMENT -/
theorem proved : Rows.CollectFreesSaid := over
#print axioms proved
end Go.Proofs.Ytjgndfhfiekomaa.collectFrees
