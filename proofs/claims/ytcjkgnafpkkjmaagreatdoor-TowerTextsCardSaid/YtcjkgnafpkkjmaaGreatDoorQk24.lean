/- The texts and numbers of numbers: a part of the walk. No condition. -/
import Derived.Test.YtcjkgnafpkkjmaaGreatDoorQk23
set_option linter.all false
section
namespace Go.Proofs.YtcjkgnafpkkjmaaGreatDoor
namespace Rdf
structure Shp (bt : Nat → Nat) (n a m x y : Nat) : Prop where
  n_eq : n = a + m + x
  a1 : a ≤ 1
  s1 : a = 1 → bt 0 = 43 ∨ bt 0 = 45
  m1 : 1 ≤ m
  mb : ∀ j, j < m → bt (a + j) = 46 ∨ (48 ≤ bt (a + j) ∧ bt (a + j) ≤ 57)
  one : ∀ j k, j < k → k < m → bt (a + k) = 46 → bt (a + j) ≠ 46
  dg : ∃ j, j < m ∧ bt (a + j) ≠ 46
  e0 : x = 0 ∨ ((bt (a + m) = 69 ∨ bt (a + m) = 101) ∧ y ≤ 1 ∧ (y = 1 → bt (a + m + 1) = 43 ∨ bt (a + m + 1) = 45) ∧ a + m + 1 + y < n ∧ n ≤ a + m + 1 + y + 4 ∧ ∀ i, a + m + 1 + y ≤ i → i < n → 48 ≤ bt i ∧ bt i ≤ 57)
def bt (l : List UInt8) (i : Nat) : Nat := (l[i]?.getD 0).toNat
theorem bt_app_left {l m : List UInt8} {i : Nat} (h : i < l.length) : bt (l ++ m) i = bt l i := by
  unfold bt; rw [List.getElem?_append_left h]
theorem bt_app_right {l m : List UInt8} {i : Nat} : bt (l ++ m) (l.length + i) = bt m i := by
  unfold bt; rw [List.getElem?_append_right (by omega)]; congr 3; omega
theorem isD_bt {l : List UInt8} (h : ∀ c ∈ l, Rgt.isD c = true) {i : Nat} (hi : i < l.length) : 48 ≤ bt l i ∧ bt l i ≤ 57 := by
  have := h l[i] (List.getElem_mem hi)
  unfold Rgt.isD at this
  simp only [Bool.and_eq_true, decide_eq_true_eq] at this
  unfold bt
  rw [List.getElem?_eq_getElem hi]
  exact this
theorem shp_of {s : List UInt8} (h : Rgt.floRight s = true) : ∃ a m x y, Shp (bt s) s.length a m x y := by
  obtain ⟨sg, I, F, ex, dot, M⟩ := Rgt.made_of s h
  obtain ⟨B, hB⟩ : ∃ B, B = I ++ (if dot then 46 :: F else []) := ⟨_, rfl⟩
  have hs : s = sg ++ (B ++ ex) := by rw [M.eq, hB, List.append_assoc]
  have ha : sg.length ≤ 1 := by rcases M.sgn with h | ⟨c, h, _⟩ <;> rw [h] <;> simp
  have hBt : ∀ j, j < B.length → bt s (sg.length + j) = bt B j := fun j hj => by
    rw [hs, bt_app_right, bt_app_left hj]
  have hBI : ∀ j, j < I.length → 48 ≤ bt B j ∧ bt B j ≤ 57 := fun j hj => by
    rw [hB, bt_app_left hj]; exact isD_bt M.dI hj
  have hBp : dot = true → bt B I.length = 46 := fun hd => by
    have := bt_app_right (l := I) (m := 46 :: F) (i := 0)
    rw [hB, if_pos hd]
    exact this
  have hBF : dot = true → ∀ j, j < F.length → 48 ≤ bt B (I.length + (j + 1)) ∧ bt B (I.length + (j + 1)) ≤ 57 := fun hd j hj => by
    rw [hB, if_pos hd, bt_app_right]
    exact isD_bt M.dF hj
  have hlen : B.length = I.length + (if dot then F.length + 1 else 0) := by rw [hB, List.length_append]; cases dot <;> simp
  have hmb : ∀ j, j < B.length → (j = I.length ∧ dot = true ∧ bt B j = 46) ∨ (48 ≤ bt B j ∧ bt B j ≤ 57) := fun j hj => by
    by_cases h1 : j < I.length
    · exact .inr (hBI j h1)
    · cases hd : dot with
      | false => rw [hlen, hd] at hj; simp at hj; omega
      | true =>
        rw [hlen, hd] at hj
        simp at hj
        by_cases h2 : j = I.length
        · exact .inl ⟨h2, rfl, by rw [h2]; exact hBp hd⟩
        · obtain ⟨k, hk⟩ : ∃ k, j = I.length + (k + 1) := ⟨j - I.length - 1, by omega⟩
          rw [hk]
          exact .inr (hBF hd k (by omega))
  have hfd : dot = false → F.length = 0 := fun hd => by rw [M.fF hd]; rfl
  have hsome := M.some
  have hB1 : 1 ≤ B.length := by
    rw [hlen]
    cases hd : dot with
    | false => have := hfd hd; simp; omega
    | true => simp; omega
  have hdg : ∃ j, j < B.length ∧ bt B j ≠ 46 := by
    by_cases h1 : 0 < I.length
    · exact ⟨0, by omega, by have := hBI 0 h1; omega⟩
    · cases hd : dot with
      | false => have := hfd hd; omega
      | true => exact ⟨I.length + (0 + 1), by rw [hlen, hd]; simp; omega, by have := hBF hd 0 (by omega); omega⟩
  have hsl : s.length = sg.length + B.length + ex.length := by rw [hs]; simp; omega
  have common : ∀ y, (ex.length = 0 ∨ ((bt s (sg.length + B.length) = 69 ∨ bt s (sg.length + B.length) = 101) ∧ y ≤ 1 ∧ (y = 1 → bt s (sg.length + B.length + 1) = 43 ∨ bt s (sg.length + B.length + 1) = 45) ∧ sg.length + B.length + 1 + y < s.length ∧ s.length ≤ sg.length + B.length + 1 + y + 4 ∧ ∀ i, sg.length + B.length + 1 + y ≤ i → i < s.length → 48 ≤ bt s i ∧ bt s i ≤ 57)) → Shp (bt s) s.length sg.length B.length ex.length y := fun y he => {
    n_eq := hsl
    a1 := ha
    s1 := fun h1 => by
      rcases M.sgn with h | ⟨c, h, hc⟩
      · rw [h] at h1; simp at h1
      · rw [hs, h]; exact hc
    m1 := hB1
    mb := fun j hj => by
      rw [hBt j hj]
      rcases hmb j hj with h | h
      · exact .inl h.2.2
      · exact .inr h
    one := fun j k hjk hk h46 => by
      rw [hBt k hk] at h46
      rw [hBt j (by omega)]
      have hk2 : k = I.length := by
        rcases hmb k hk with h | h
        · exact h.1
        · omega
      have := hBI j (by omega)
      omega
    dg := by obtain ⟨j, h1, h2⟩ := hdg; exact ⟨j, h1, by rw [hBt j h1]; exact h2⟩
    e0 := he }
  rcases M.exp with h | ⟨e, s2, D, h, he, hs2, hD, hD1, hD4⟩
  · exact ⟨_, _, _, 0, common 0 (.inl (by rw [h]; rfl))⟩
  · have hEx : ∀ i, bt s (sg.length + B.length + i) = bt ex i := fun i => by
      rw [hs, Nat.add_assoc, bt_app_right, bt_app_right]
    have hy : s2.length ≤ 1 := by rcases hs2 with h | ⟨c, h, _⟩ <;> rw [h] <;> simp
    have hexl : ex.length = 1 + s2.length + D.length := by rw [h]; simp; omega
    refine ⟨_, _, _, s2.length, common s2.length (.inr ⟨?_, hy, ?_, by omega, by omega, ?_⟩)⟩
    · have := hEx 0
      rw [Nat.add_zero] at this
      rw [this, h]
      exact he
    · intro h1
      rw [hEx 1, h]
      rcases hs2 with h2 | ⟨c, h2, hc⟩
      · rw [h2] at h1; simp at h1
      · rw [h2]; exact hc
    · intro i h1 h2
      obtain ⟨k, hk⟩ : ∃ k, i = sg.length + B.length + (1 + s2.length + k) := ⟨i - (sg.length + B.length + (1 + s2.length)), by omega⟩
      have e1 : bt ex (1 + s2.length + k) = bt D k := by
        rw [h]
        have := bt_app_right (l := e :: s2) (m := D) (i := k)
        rw [List.length_cons] at this
        rw [show 1 + s2.length + k = s2.length + 1 + k by omega]
        exact this
      rw [hk, hEx, e1]
      exact isD_bt hD (by omega)
structure St where
  sd : Bool
  sg : Bool
  nd : Nat
  nm : Nat
  dp : Int
  mt : Nat
  tr : Bool
def St.step (q : St) (c : Nat) : St :=
  if c = 46 then { q with sd := true, dp := q.nd }
  else if c = 48 ∧ q.nd = 0 then { q with sg := true, dp := q.dp - 1 }
  else if q.nm < 19 then { q with sg := true, nd := q.nd + 1, mt := q.mt * 10 + (c - 48), nm := q.nm + 1 }
  else { q with sg := true, nd := q.nd + 1, tr := q.tr || decide (c ≠ 48) }
def St.run (f : Nat → Nat) : Nat → St
  | 0 => ⟨false, false, 0, 0, 0, 0, false⟩
  | j + 1 => (St.run f j).step (f j)
structure Ok (q : St) (j : Nat) : Prop where
  nd : q.nd ≤ j
  nm : q.nm ≤ q.nd
  n19 : q.nm ≤ 19
  d1 : -(j : Int) ≤ q.dp
  d2 : q.dp ≤ (j : Int)
  mt : q.mt < 10 ^ q.nm
theorem Ok.step {q : St} {j c : Nat} (h : Ok q j) (hc : c = 46 ∨ (48 ≤ c ∧ c ≤ 57)) : Ok (q.step c) (j + 1) := by
  have h1 := h.nd
  have h2 := h.nm
  have h3 := h.n19
  have h4 := h.d1
  have h5 := h.d2
  have h6 := h.mt
  unfold St.step
  split
  · exact ⟨by simp only; omega, h2, h3, by simp only; omega, by simp only; omega, h6⟩
  · split
    · exact ⟨by simp only; omega, h2, h3, by simp only; omega, by simp only; omega, h6⟩
    · split
      · exact ⟨by simp only; omega, by simp only; omega, by simp only; omega, by simp only; omega, by simp only; omega, by simp only; rw [Nat.pow_succ]; omega⟩
      · exact ⟨by simp only; omega, by simp only; omega, h3, by simp only; omega, by simp only; omega, h6⟩
theorem ok_run {f : Nat → Nat} {m : Nat} (hf : ∀ j, j < m → f j = 46 ∨ (48 ≤ f j ∧ f j ≤ 57)) : ∀ j, j ≤ m → Ok (St.run f j) j := by
  intro j
  induction j with
  | zero => intro _; exact ⟨Nat.le_refl _, Nat.le_refl _, Nat.zero_le _, Int.le_refl _, Int.le_refl _, Nat.zero_lt_one⟩
  | succ j ih => intro hj; exact (ih (by omega)).step (hf j (by omega))
theorem step_sd (q : St) (c : Nat) : (q.step c).sd = (q.sd || decide (c = 46)) := by
  unfold St.step
  split
  · rename_i h; simp [h]
  · rename_i h
    rw [decide_eq_false h, Bool.or_false]
    split
    · rfl
    · split <;> rfl
theorem step_sg (q : St) (c : Nat) : (q.step c).sg = (q.sg || decide (c ≠ 46)) := by
  unfold St.step
  split
  · rename_i h; simp [h]
  · rename_i h
    rw [decide_eq_true h, Bool.or_true]
    split
    · rfl
    · split <;> rfl
theorem sd_run {f : Nat → Nat} {m : Nat} (one : ∀ j k, j < k → k < m → f k = 46 → f j ≠ 46) (j : Nat) (hj : j < m) (h46 : f j = 46) : (St.run f j).sd = false := by
  have key : ∀ i, i ≤ j → (St.run f i).sd = false := by
    intro i
    induction i with
    | zero => intro _; rfl
    | succ i ih =>
      intro hi
      show ((St.run f i).step (f i)).sd = false
      rw [step_sd, ih (by omega), decide_eq_false (one i j (by omega) hj h46)]; rfl
  exact key j (Nat.le_refl _)
theorem sg_run {f : Nat → Nat} {m : Nat} (hdg : ∃ j, j < m ∧ f j ≠ 46) : (St.run f m).sg = true := by
  obtain ⟨j, hj, hne⟩ := hdg
  have key : ∀ i, j < i → (St.run f i).sg = true := by
    intro i
    induction i with
    | zero => intro h; omega
    | succ i ih =>
      intro hi
      show ((St.run f i).step (f i)).sg = true
      rw [step_sg]
      by_cases e : i = j
      · rw [e, decide_eq_true hne, Bool.or_true]
      · rw [ih (by omega)]; rfl
  exact key m hj
def expN (f : Nat → Nat) : Nat → Nat
  | 0 => 0
  | k + 1 => expN f k * 10 + (f k - 48)
theorem expN_lt {f : Nat → Nat} {K : Nat} (hf : ∀ k, k < K → 48 ≤ f k ∧ f k ≤ 57) : ∀ k, k ≤ K → expN f k < 10 ^ k := by
  intro k
  induction k with
  | zero => intro _; exact Nat.zero_lt_one
  | succ k ih =>
    intro hk
    have := ih (by omega)
    have := hf k (by omega)
    show expN f k * 10 + (f k - 48) < _
    rw [Nat.pow_succ]; omega
end Rdf
end Go.Proofs.YtcjkgnafpkkjmaaGreatDoor
end
section
namespace Go.Proofs.YtcjkgnafpkkjmaaGreatDoor
open Go.ChangeShapes Go.WideShapes Go.RowKit Go.Shelf
set_option maxRecDepth 100000 in
theorem prefix_g (c : UInt8) (r : List UInt8) (hr : r.length ≤ 800) (hc : c.toNat < 65) (w : World) : Calls Tryz.prog 217 #[.string (ba (c :: r)), .string ⟨#[105, 110, 102, 105, 110, 105, 116, 121]⟩] w fun e w' => e = .returned (.int .i64 0) ∧ w = w' := by
  have hsz : (ba (c :: r)).size = r.length + 1 := by rw [ba_size]; simp
  have SI : ∀ W : World, (Instr.index 9 (.string (ba (c :: r))) (.int .i64 0)).run Tryz.prog W = .ok (.int .u8 (c.toNat : Int)) W := fun W => run_str_at (c :: r) 0 (by simp) W
  have s8 : (ByteArray.mk #[105, 110, 102, 105, 110, 105, 116, 121]).size = 8 := rfl
  have P0 : ∀ W : World, (Instr.index 9 (.string (⟨#[105, 110, 102, 105, 110, 105, 116, 121]⟩ : ByteArray)) (.int .i64 0)).run Tryz.prog W = .ok (.int .u8 105) W := fun W => run_str_at [105, 110, 102, 105, 110, 105, 116, 121] 0 (by simp) W
  generalize ba (c :: r) = S at *
  generalize (ByteArray.mk #[105, 110, 102, 105, 110, 105, 116, 121]) = T at *
  generalize c.toNat = cn at *
  generalize r.length = rl at *
  obtain ⟨k, hk⟩ : ∃ k : Nat, min (8 : Int) ((rl : Int) + 1) = (k : Int) := ⟨(min (8 : Int) ((rl : Int) + 1)).toNat, by omega⟩
  have hk0 : 0 < k := by omega
  have g65 : ¬ (65 : Int) ≤ (cn : Int) := by omega
  have gne : ((cn : Int) != 105) = true := by rw [bne_iff_ne]; omega
  clear hc
  go_enter Tryz.func217, Tryz.ntmps217
  go_wp2_with fail
  refine wp_loop_rounds 1 ?_
  rw [rounds_succ]
  go_wp2_with fail
  go_ret
  exact ⟨rfl, rfl⟩
set_option maxRecDepth 100000 in
theorem special_g (l : List UInt8) (a m x y : Nat) (hS : Rdf.Shp (Rdf.bt l) l.length a m x y) (hl : l.length ≤ 800) (w : World) : Calls Tryz.prog 173 #[.string (ba l)] w fun e w' => e = .returned (.tuple #[.float .f64 0, .int .i64 0, .bool false]) ∧ w = w' := by
  have n_eq := hS.n_eq
  have m1 := hS.m1
  have a1 := hS.a1
  cases l with
  | nil => simp at n_eq; omega
  | cons c r =>
    have hsz : (ba (c :: r)).size = r.length + 1 := by rw [ba_size]; simp
    have hrl : r.length ≤ 800 := by simp at hl; omega
    have SI : ∀ W : World, (Instr.index 9 (.string (ba (c :: r))) (.int .i64 0)).run Tryz.prog W = .ok (.int .u8 (c.toNat : Int)) W := fun W => run_str_at (c :: r) 0 (by simp) W
    have b0 : Rdf.bt (c :: r) 0 = c.toNat := rfl
    by_cases ha : a = 1
    · have h1 := hS.s1 ha
      rw [b0] at h1
      have h2 := hS.mb 0 (by omega)
      rw [ha] at h2
      cases r with
      | nil => simp at n_eq; omega
      | cons d t =>
        have hd : Rdf.bt (c :: d :: t) (1 + 0) = d.toNat := rfl
        rw [hd] at h2
        have CP := Lib.hid (fun w1 => prefix_g d t (by simp at hrl; omega) (by omega) w1)
        have XT := ba_tail c (d :: t)
        have hrs : (ba (d :: t)).size = (d :: t).length := rfl
        generalize ba (c :: d :: t) = S at *
        generalize ba (d :: t) = T at *
        generalize (d :: t).length = rl at *
        generalize c.toNat = cn at *
        clear h2 hd b0 n_eq m1 a1 hS ha hl
        rcases h1 with h1 | h1
        · subst h1
          go_enter Tryz.func173, Tryz.ntmps173
          go_wp2_with fail
          refine (CP.out _).mono ?_
          rintro e w' ⟨rfl, rfl⟩
          go_wp2_with fail
          go_ret3
          exact ⟨rfl, rfl⟩
        · subst h1
          go_enter Tryz.func173, Tryz.ntmps173
          go_wp2_with fail
          refine (CP.out _).mono ?_
          rintro e w' ⟨rfl, rfl⟩
          go_wp2_with fail
          go_ret3
          exact ⟨rfl, rfl⟩
    · have h2 := hS.mb 0 (by omega)
      rw [show a + 0 = 0 by omega, b0] at h2
      generalize ba (c :: r) = S at *
      generalize c.toNat = cn at *
      generalize r.length = rl at *
      have g43 : ((cn : Int) == 43) = false := by rw [beq_eq_false_iff_ne]; omega
      have g45 : ((cn : Int) == 45) = false := by rw [beq_eq_false_iff_ne]; omega
      have g105 : ((cn : Int) == 105) = false := by rw [beq_eq_false_iff_ne]; omega
      have g73 : ((cn : Int) == 73) = false := by rw [beq_eq_false_iff_ne]; omega
      have g110 : ((cn : Int) == 110) = false := by rw [beq_eq_false_iff_ne]; omega
      have g78 : ((cn : Int) == 78) = false := by rw [beq_eq_false_iff_ne]; omega
      clear h2 b0 n_eq m1 a1 hS ha hl
      go_enter Tryz.func173, Tryz.ntmps173
      go_wp2_with fail
      go_ret3
      exact ⟨rfl, rfl⟩
end Go.Proofs.YtcjkgnafpkkjmaaGreatDoor
end
