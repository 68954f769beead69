/- Room for small objects; a stack whose fields tell objects. No program in sight. -/
import Derived.Test.YtjgndfhfiekomaaColW
import Derived.Test.YtjgndfhfiekomaaRoomA
namespace Go.Proofs.Ytjgndfhfiekomaa
variable {A A' : Ar} {m W : Nat}
/-- So many more objects of two words can be made. -/
def Small2 (A : Ar) (m W : Nat) : Prop := ∃ p q, Rm A m p q ∧ W ≤ (A.st - A.sf) / 2 + 128 * (q - p)
theorem Small2.of (h : Room A m W) : Small2 A m (128 * W) := by
  obtain ⟨p, q, h1, h2⟩ := h
  exact ⟨p, q, h1, by omega⟩
theorem Small2.less (h : Small2 A m W) {V : Nat} (hv : V ≤ W) : Small2 A m V := by
  obtain ⟨p, q, h1, h2⟩ := h
  exact ⟨p, q, h1, by omega⟩
theorem Small2.set (h : Small2 A m W) (i : Nat) (v : Int) : Small2 (A.set i v) m W := by
  obtain ⟨p, q, h, h1⟩ := h
  exact ⟨p, q, ⟨h.ok.set i v, h.nx, h.pq, h.qm, h.fr⟩, h1⟩
theorem Small2.fill (h : Small2 A m W) (p : Nat) (v : Int) (k : Nat) : Small2 (fillW A p v k) m W := by
  induction k with
  | zero => exact h
  | succ k ih => exact ih.set _ _
theorem Small2.setF (h : Small2 A m W) (x i v : Int) : Small2 (setF A m x i v).1 m W := by
  unfold Go.Proofs.Ytjgndfhfiekomaa.setF
  cases hAt A m x with
  | none => exact h
  | some o => simp only; split; exact h; exact h.set _ _
theorem Small2.alloc (h : Small2 A m (W + 1)) : ∃ k, (A.alloc m 2).2 = some k ∧ Small2 (A.alloc m 2).1 m W := by
  obtain ⟨p, q, ⟨ok, nx, pq, qm, fr⟩, hr⟩ := h
  have ok' := Ar.Ok.alloc ok 2
  have hll := ok.ll
  unfold Ar.alloc at ok' ⊢
  rw [if_neg (by omega), if_neg (by omega)] at ok' ⊢
  rw [show (2 : Int).toNat = 2 from rfl] at ok' ⊢
  unfold Ar.smallA at ok' ⊢
  by_cases hf : 2 ≤ A.st - A.sf
  · rw [if_pos hf] at ok' ⊢
    refine ⟨_, rfl, p, q, ⟨ok', nx, pq, qm, fr⟩, ?_⟩
    simp only
    omega
  · rw [if_neg hf] at ok' ⊢
    cases hx : find A.lines A.next 1 with
    | none =>
      have := find_none1 A.lines A.next hx (16 * p) nx (by omega)
      rw [fr (16 * p) (Nat.le_refl _) (by omega)] at this
      cases this
    | some ft =>
      obtain ⟨f, t⟩ := ft
      rw [hx] at ok'
      obtain ⟨e1, e2, e3, e4, e5⟩ := find_spec A.lines A.next 1 (by omega) f t hx
      have e6 : f ≤ 16 * p := by
        rcases Nat.lt_or_ge (16 * p) f with h | h
        · have := find_skip1 A.lines A.next f t hx (16 * p) nx h
          rw [fr (16 * p) (Nat.le_refl _) (by omega)] at this
          cases this
        · exact h
      have e7 := (hole_le A.lines f (by omega)).2.2
      by_cases hfp : f = 16 * p
      · have ht : 16 * p + 16 ≤ t := by
          rcases Nat.lt_or_ge t (16 * p + 16) with h | h
          · have := (hole_test A.lines f t (by omega) (by omega)).2 ⟨by omega, by omega, fr t (by omega) (by omega)⟩
            omega
          · exact h
        refine ⟨_, rfl, p + 1, q, ⟨ok', ?_, by omega, qm, fun i a c => ?_⟩, ?_⟩
        · show t ≤ 16 * (p + 1)
          omega
        · show tk (claimed A.lines _ _) i = false
          rw [tk_claimed', if_neg (by omega)]
          exact fr i (by omega) c
        · simp only
          omega
      · refine ⟨_, rfl, p, q, ⟨ok', ?_, by omega, qm, fun i a c => ?_⟩, ?_⟩
        · show t ≤ 16 * p
          omega
        · show tk (claimed A.lines _ _) i = false
          rw [tk_claimed', if_neg (by omega)]
          exact fr i (by omega) c
        · simp only
          omega
theorem Small2.make (h : Small2 A m (W + 1)) : ∃ x, (makeF A m 0 1).2 = some x ∧ Small2 (makeF A m 0 1).1 m W := by
  obtain ⟨k, h1, h2⟩ := h.alloc
  unfold makeF
  rw [if_neg (by omega), show (1 : Int) + 1 = 2 from rfl, h1]
  exact ⟨_, rfl, (h2.set _ _).fill _ _ _⟩
theorem Room.fill2 {r : Nat} (h : Room A m r) (p : Nat) (v : Int) (k : Nat) : Room (fillW A p v k) m r := by
  induction k with
  | zero => exact h
  | succ k ih => exact ih.set _ _
theorem Room.makeR {r : Nat} (h : Room A m (r + 1)) (kind n : Int) (k0 : 0 ≤ kind) (k1 : kind < 32) (n0 : 0 ≤ n) (n1 : n ≤ 240) : ∃ x, (makeF A m kind n).2 = some x ∧ Room (makeF A m kind n).1 m r := by
  obtain ⟨k, h1, h2⟩ := h.alloc (n + 1) (by omega) (by omega)
  unfold makeF
  rw [if_neg (by omega), h1]
  exact ⟨_, rfl, (h2.set _ _).fill2 _ _ _⟩
/-- A stack at a0, of whose fields k tell objects. -/
def Stk (A : Ar) (n k a0 : Nat) : Prop := ∃ G D fs, HG A 20 G (List.replicate (20 * 16) false) D ∧ Unmarked A 20 ∧ Small2 A 20 (300 - k) ∧ D 0 = some ⟨a0, 15, 0, fs⟩ ∧ fs.length = n ∧ fs[0]?.getD 0 = 45 ∧ fs[1]?.getD 0 = 45 ∧
  (∀ i, 1 ≤ i → i ≤ k → ∃ a, D i = some ⟨a, 0, 0, [45]⟩ ∧ fs[i + 1]?.getD 0 = pw a) ∧ ∀ j, k < j → D j = none
theorem Stk.start (n : Nat) (h2 : 2 ≤ n) (hn : n ≤ 200) : ∃ a0, (makeF (Ar.new 20) 20 15 n).2 = some (pw a0) ∧ Stk (makeF (Ar.new 20) 20 15 n).1 n 0 a0 := by
  have hr := Room.new (m := 20) (by omega) (by omega)
  obtain ⟨x, h1, h3⟩ := Room.makeR (r := 19) hr 15 n (by omega) (by omega) (by omega) (by omega)
  have h0 := HG.start (m := 20) (by omega) (by omega)
  obtain ⟨G', a, e1, e2, e3, e4, e5, hg⟩ := h0.makeS h1 (j := 0) rfl
  refine ⟨a, by rw [h1, e1], G', _, _, hg, (Unmarked.start 20).make h0 _ _ (j := 0) rfl, (Small2.of h3).less (by omega), updD_self _ _ _, by simp, ?_, ?_, by intro i a b; omega, fun j hj => by rw [updD_ne _ _ (by omega)]⟩
  · simp only [List.getElem?_replicate]
    rw [if_pos (by omega)]; rfl
  · simp only [List.getElem?_replicate]
    rw [if_pos (by omega)]; rfl
theorem Stk.step {n k a0 : Nat} (h : Stk A n k a0) (hk : k + 2 < n) (hn : n ≤ 200) :
    ∃ x, (makeF A 20 0 1).2 = some x ∧ (0 ≤ x ∧ x < 18446744073709551616) ∧ (makeF A 20 0 1).1.Wd ∧ (makeF A 20 0 1).1.Ok 20 ∧ (setF (makeF A 20 0 1).1 20 (pw a0) ((k + 2 : Nat) : Int) x).2 = 0 ∧ Stk (setF (makeF A 20 0 1).1 20 (pw a0) ((k + 2 : Nat) : Int) x).1 n (k + 1) a0 := by
  obtain ⟨G, D, fs, hg, un, sm, d0, hl, f0, f1, hi, hj⟩ := h
  obtain ⟨W, hW⟩ : ∃ W, 300 - k = W + 1 := ⟨299 - k, by omega⟩
  rw [hW] at sm
  obtain ⟨x, h1, h2⟩ := sm.make
  obtain ⟨G', a, e1, _, _, _, _, hg2⟩ := hg.makeS h1 (j := k + 1) (hj _ (by omega))
  subst e1
  have d0' : updD D (k + 1) ⟨a, (0 : Int).toNat, 0, List.replicate (1 : Int).toNat (emptyW 0)⟩ 0 = some ⟨a0, 15, 0, fs⟩ := by rw [updD_ne _ _ (by omega)]; exact d0
  have hx := hg2.pwb (updD_self _ _ _)
  obtain ⟨s1, s2⟩ := hg2.setS d0' (k + 2) (by simp only; omega) hx.1 hx.2
  refine ⟨pw a, h1, hx, hg2.wd, hg2.inv.ok, s1, G', _, fs.set (k + 2) (pw a), s2, ((un.make hg 0 1 (hj (k + 1) (by omega))).set _ _ _), (h2.less (V := 300 - (k + 1)) (by omega)).setF _ _ _, updD_self _ _ _, by simpa using hl, ?_, ?_, ?_, ?_⟩
  · rw [List.getElem?_set_ne (by omega)]; exact f0
  · rw [List.getElem?_set_ne (by omega)]; exact f1
  · intro i i1 i2
    by_cases hik : i = k + 1
    · subst hik
      refine ⟨a, by rw [updD_ne _ _ (by omega), updD_self]; rfl, ?_⟩
      rw [List.getElem?_set_self (by omega)]; rfl
    · obtain ⟨b, q1, q2⟩ := hi i i1 (by omega)
      refine ⟨b, by rw [updD_ne _ _ (by omega), updD_ne _ _ hik]; exact q1, ?_⟩
      rw [List.getElem?_set_ne (by omega)]; exact q2
  · intro j hj2
    rw [updD_ne _ _ (by omega), updD_ne _ _ (by omega)]
    exact hj j (by omega)
theorem cntB_lt (k N : Nat) : cntB (fun j => decide (j < k)) N = min k N := by
  induction N with
  | zero => simp [cntB]
  | succ N ih =>
    simp only [cntB, ih, decide_eq_true_eq]
    split <;> omega
theorem Stk.end {n a0 : Nat} (h : Stk A n (n - 2) a0) (h2 : 2 ≤ n) (hn : n ≤ 200) {used : Int} (u0 : -5 ≤ used) (u1 : used ≤ 300) :
    ∃ G D, (0 ≤ pw a0 ∧ pw a0 < 18446744073709551616) ∧ A.Wd ∧ A.Ok 20 ∧ HG (setF A 20 (pw a0) 1 (mkW 0 used)).1 20 G (List.replicate (20 * 16) false) D ∧ Unmarked (setF A 20 (pw a0) 1 (mkW 0 used)).1 20 ∧ (∀ j o, D j = some o → j < n - 1) ∧ Closed D ∧ (∃ o, D 0 = some o ∧ pw a0 = pw o.a) ∧
      ∀ cl ls' T G K C ms, After D 20 cl [[pw a0]] ls' T G K C ms → (0 ≤ T.live ∧ T.live ≤ 1000) ∧ ((n : Int) - 2 < used → T.live = 1 + ((n : Int) - 2)) ∧ (used ≤ (n : Int) - 2 → 0 < used → T.live = 1 + used) ∧ (used ≤ 0 → T.live = 1) := by
  obtain ⟨G, D, fs, hg, un, sm, d0, hl, f0, f1, hi, hj⟩ := h
  have hu : 0 ≤ mkW 0 used ∧ mkW 0 used < 18446744073709551616 := by unfold mkW; omega
  obtain ⟨s1, s2⟩ := hg.setS d0 1 (by simp only; omega) hu.1 hu.2
  have hwv : wVal (mkW 0 used) = used := by
    unfold wVal mkW
    split <;> omega
  have hmod : mkW 0 used % 8 = 0 := by unfold mkW; omega
  have hcnt : cntO ⟨a0, 15, 0, fs.set 1 (mkW 0 used)⟩ = (2 + max 0 (min used ((n : Int) - 2))).toNat := by
    unfold cntO countF
    simp only [List.length_set, hl]
    rw [List.getElem?_set_self (by omega)]
    simp only [Option.getD_some, hwv, hmod]
    rw [if_neg (by omega), if_neg (by omega)]
    split <;> omega
  have hD0 : updD D 0 ⟨a0, 15, 0, fs.set 1 (mkW 0 used)⟩ 0 = some ⟨a0, 15, 0, fs.set 1 (mkW 0 used)⟩ := updD_self _ _ _
  have hDi : ∀ i, 1 ≤ i → i ≤ n - 2 → ∃ a, updD D 0 ⟨a0, 15, 0, fs.set 1 (mkW 0 used)⟩ i = some ⟨a, 0, 0, [45]⟩ ∧ (fs.set 1 (mkW 0 used))[i + 1]?.getD 0 = pw a := by
    intro i i1 i2
    obtain ⟨a, q1, q2⟩ := hi i i1 i2
    exact ⟨a, by rw [updD_ne _ _ (by omega)]; exact q1, by rw [List.getElem?_set_ne (by omega)]; exact q2⟩
  have hbd : ∀ j o, updD D 0 ⟨a0, 15, 0, fs.set 1 (mkW 0 used)⟩ j = some o → j < n - 1 := by
    intro j o ho
    apply Classical.byContradiction
    intro hn1
    rw [updD_ne _ _ (by omega), hj j (by omega)] at ho
    simp at ho
  refine ⟨G, _, hg.pwb d0, hg.wd, hg.inv.ok, s2, un.set _ _ _, hbd, ?_, ⟨_, hD0, rfl⟩, ?_⟩
  · intro j o i ho hic
    have hil := Nat.lt_of_lt_of_le hic (cntO_le o)
    by_cases hj0 : j = 0
    · subst hj0
      rw [hD0] at ho
      injection ho with ho
      subst ho
      simp only [List.length_set, hl] at hil
      rcases Nat.lt_trichotomy i 1 with h1 | h1 | h1
      · refine .inl ?_
        simp only
        rw [List.getElem?_set_ne (by omega), show i = 0 by omega, f0]
        omega
      · refine .inl ?_
        subst h1
        simp only
        rw [List.getElem?_set_self (by omega), Option.getD_some, hmod]
        omega
      · obtain ⟨a, q1, q2⟩ := hDi (i - 1) (by omega) (by omega)
        refine .inr ⟨i - 1, _, q1, ?_⟩
        rw [show i - 1 + 1 = i by omega] at q2
        exact q2
    · have hjn := hbd j o ho
      obtain ⟨a, q1, _⟩ := hDi j (by omega) (by omega)
      rw [q1] at ho
      injection ho with ho
      subst ho
      simp only [List.length_cons, List.length_nil] at hil
      rw [show i = 0 by omega]
      exact .inl (by simp)
  · intro cl ls' T G K C ms AF
    have r0 : Reach (updD D 0 ⟨a0, 15, 0, fs.set 1 (mkW 0 used)⟩) [[pw a0]] 0 := .root [pw a0] (pw a0) 0 _ (by simp) (by simp) hD0 rfl
    obtain ⟨c, hc⟩ : ∃ c, c = cntO ⟨a0, 15, 0, fs.set 1 (mkW 0 used)⟩ := ⟨_, rfl⟩
    have hc2 : 2 ≤ c ∧ c ≤ n := by rw [hc, hcnt]; omega
    have key : ∀ j, j ∈ ms ↔ j < n - 1 ∧ decide (j < c - 1) = true := by
      intro j
      rw [AF.md, decide_eq_true_eq]
      constructor
      · intro hr
        induction hr with
        | root l x j o b1 b2 b3 b4 =>
          simp only [List.mem_singleton] at b1
          subst b1
          simp only [List.mem_singleton] at b2
          rw [b2] at b4
          have := s2.uniq b3 hD0 (pw_inj b4.symm)
          subst this
          omega
        | field j o i q oq b1 b2 b3 b4 b5 ih =>
          by_cases hj0 : j = 0
          · subst hj0
            rw [hD0] at b2
            injection b2 with b2
            subst b2
            rw [← hc] at b3
            simp only at b5
            rcases Nat.lt_trichotomy i 1 with h1 | h1 | h1
            · rw [List.getElem?_set_ne (by omega), show i = 0 by omega, f0] at b5
              unfold pw at b5; omega
            · subst h1
              rw [List.getElem?_set_self (by omega), Option.getD_some] at b5
              rw [b5, pw_mod] at hmod
              omega
            · obtain ⟨a, q1, q2⟩ := hDi (i - 1) (by omega) (by omega)
              rw [show i - 1 + 1 = i by omega, b5] at q2
              have := s2.uniq b4 q1 (pw_inj q2)
              omega
          · obtain ⟨a, q1, _⟩ := hDi j (by omega) (by omega)
            rw [q1] at b2
            injection b2 with b2
            subst b2
            have hil := Nat.lt_of_lt_of_le b3 (cntO_le _)
            simp only [List.length_cons, List.length_nil] at hil
            rw [show i = 0 by omega] at b5
            simp only [List.getElem?_cons_zero, Option.getD_some] at b5
            unfold pw at b5; omega
      · rintro ⟨k1, k2⟩
        by_cases hj0 : j = 0
        · subst hj0; exact r0
        · obtain ⟨a, q1, q2⟩ := hDi j (by omega) (by omega)
          exact .field 0 _ (j + 1) j _ r0 hD0 (by rw [← hc]; omega) q1 q2
    have hlen := len_count _ _ ms AF.nd key
    rw [cntB_lt] at hlen
    rw [AF.lv, hlen]
    rw [hcnt] at hc
    have hfin : ((min (c - 1) (n - 1) : Nat) : Int) = 1 + max 0 (min used ((n : Int) - 2)) := by omega
    rw [hfin]
    refine ⟨by omega, fun h1 => ?_, fun h1 h3 => ?_, fun h1 => ?_⟩ <;> omega
end Go.Proofs.Ytjgndfhfiekomaa
