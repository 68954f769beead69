/- The texts and numbers of numbers: a part of the walk. No condition. -/
import Derived.Test.YtcjkgnafpkkjmaaGreatDoorQk30
import Derived.ScopeJumps
set_option linter.all false
section
namespace Go.Proofs.YtcjkgnafpkkjmaaGreatDoor
open Go.ChangeShapes Go.WideShapes Go.RowKit Go.Shelf
namespace Dg
structure Sd where
  ds : List Nat
  dp : Int
  tr : Bool
structure Gs (x : Sd) : Prop where
  gd : Gd x.ds
  pos : 0 < x.ds.length
def lsS (k : Nat) (x : Sd) : Sd := ⟨lsD x.ds k, x.dp + (lsd x.ds k : Int), trF (pv x.ds x.ds.length * 2 ^ k) (x.ds.length + lsd x.ds k) x.tr (x.ds.length + lsd x.ds k)⟩
def rsS (k : Nat) (x : Sd) : Sd := ⟨rsD x.ds k, x.dp - ((rs0 x.ds k : Int) - 1), trR x.ds k x.tr (rsJ x.ds k)⟩
theorem lsd_le {ds : List Nat} {k : Nat} (h1 : 1 ≤ k) (hk : k ≤ 60) : lsd ds k ≤ k := by
  obtain ⟨q1, q2, q3, q4, q5, q6, q7, q8⟩ := cut_facts k h1 hk
  unfold lsd
  split <;> omega
theorem rs0_le {ds : List Nat} (hf : 1 ≤ dz ds 0) {k : Nat} (hk : k ≤ 60) : rs0 ds k ≤ k + 1 := by
  obtain ⟨a1, a2, a3, a4⟩ := rs0_spec hf k hk
  rcases Nat.lt_or_ge (k + 1) (rs0 ds k) with h | h
  · exfalso
    have b1 := a2 (k + 1) h
    have b2 := pv_first hf k
    have b3 : 2 ^ k ≤ 10 ^ k := Nat.pow_le_pow_left (by decide) k
    omega
  · exact h
theorem lsS_ok {x : Sd} (h : Gs x) {k : Nat} (h1 : 1 ≤ k) (hk : k ≤ 60) : Gs (lsS k x) ∧ x.dp ≤ (lsS k x).dp ∧ (lsS k x).dp ≤ x.dp + (k : Int) := by
  obtain ⟨a1, a2, _⟩ := lsD_gd h.gd h.pos h1 hk
  have := lsd_le (ds := x.ds) h1 hk
  refine ⟨⟨a1, a2⟩, ?_, ?_⟩
  · show x.dp ≤ x.dp + (lsd x.ds k : Int); omega
  · show x.dp + (lsd x.ds k : Int) ≤ _; omega
theorem rsS_ok {x : Sd} (h : Gs x) {k : Nat} (hk : k ≤ 60) : Gs (rsS k x) ∧ x.dp - (k : Int) ≤ (rsS k x).dp ∧ (rsS k x).dp ≤ x.dp := by
  have hf := h.gd.first h.pos
  obtain ⟨a1, a2, _⟩ := rsD_gd h.gd h.pos hk
  have := rs0_le hf hk
  obtain ⟨_, _, _, b4⟩ := rs0_spec hf k hk
  refine ⟨⟨a1, a2⟩, ?_, ?_⟩
  · show _ ≤ x.dp - ((rs0 x.ds k : Int) - 1); omega
  · show x.dp - ((rs0 x.ds k : Int) - 1) ≤ x.dp; omega
def shL : Nat → Nat → Sd → Sd
  | 0, _, x => x
  | f + 1, k, x => if 60 < k then shL f (k - 60) (lsS 60 x) else lsS k x
def shR : Nat → Nat → Sd → Sd
  | 0, _, x => x
  | f + 1, k, x => if 60 < k then shR f (k - 60) (rsS 60 x) else rsS k x
theorem shL_ok (f k : Nat) (x : Sd) (h : Gs x) (h1 : 1 ≤ k) (hk : k ≤ f) : Gs (shL f k x) ∧ x.dp ≤ (shL f k x).dp ∧ (shL f k x).dp ≤ x.dp + (k : Int) := by
  induction f generalizing k x with
  | zero => omega
  | succ f ih =>
    unfold shL
    by_cases h6 : 60 < k
    · rw [if_pos h6]
      obtain ⟨a1, a2, a3⟩ := lsS_ok h (k := 60) (by decide) (by decide)
      obtain ⟨b1, b2, b3⟩ := ih (k - 60) _ a1 (by omega) (by omega)
      exact ⟨b1, by omega, by omega⟩
    · rw [if_neg h6]
      exact lsS_ok h h1 (by omega)
theorem shR_ok (f k : Nat) (x : Sd) (h : Gs x) (h1 : 1 ≤ k) (hk : k ≤ f) : Gs (shR f k x) ∧ x.dp - (k : Int) ≤ (shR f k x).dp ∧ (shR f k x).dp ≤ x.dp := by
  induction f generalizing k x with
  | zero => omega
  | succ f ih =>
    unfold shR
    by_cases h6 : 60 < k
    · rw [if_pos h6]
      obtain ⟨a1, a2, a3⟩ := rsS_ok h (k := 60) (by decide)
      obtain ⟨b1, b2, b3⟩ := ih (k - 60) _ a1 (by omega) (by omega)
      exact ⟨b1, by omega, by omega⟩
    · rw [if_neg h6]
      exact rsS_ok h (by omega)
end Dg
def Ds (w : World) (k : Nat) (x : Dg.Sd) (ng : Bool) : Prop := Dc w k x.ds x.dp ng x.tr
theorem Ds.fr {w w' : World} {k : Nat} {x : Dg.Sd} {ng : Bool} (h : Ds w k x ng) (hF : Fr [] w w') : Ds w' k x ng := Dc.fr h hF
theorem ls_c (w : World) (k : Nat) (x : Dg.Sd) (ng : Bool) (s : Nat) (hG : Dg.Gs x) (hs1 : 1 ≤ s) (hs : s ≤ 60) (hd1 : -1099511627776 ≤ x.dp) (hd2 : x.dp ≤ 1099511627776) (hZ : LdZ w k) (h : Ds w k x ng) :
    Calls Tryz.prog 201 #[.pointer (some ⟨k, 0, none⟩), .int .u64 (s : Int)] w fun e w' => e = .returned (.tuple #[]) ∧ Ds w' k (Dg.lsS s x) ng ∧ Fr [k] w w' := by
  obtain ⟨f1, f2, f3⟩ := Dg.lsd_fit hG.gd hG.pos hs1 hs
  obtain ⟨_, _, _, g4⟩ := Dg.lsD_gd hG.gd hG.pos hs1 hs
  have := ls_walk w k x.ds x.dp ng x.tr s (Dg.lsd x.ds s) (decide (Dg.pv x.ds x.ds.length * 10 ^ (Dg.cut s).length < Dg.pv (Dg.cut s) (Dg.cut s).length * 10 ^ x.ds.length)) hG.gd hG.pos hs1 hs hd1 hd2 hZ h (by rw [decide_eq_true_iff]; exact Iff.rfl) (by
    unfold Dg.lsd
    by_cases hc : Dg.pv x.ds x.ds.length * 10 ^ (Dg.cut s).length < Dg.pv (Dg.cut s) (Dg.cut s).length * 10 ^ x.ds.length
    · rw [if_pos hc, if_pos (decide_eq_true hc)]
    · rw [if_neg hc, if_neg (by rw [decide_eq_false hc]; simp)]) _ rfl f1 f2
  rw [g4] at this
  exact this
theorem rsx_c (w : World) (k : Nat) (x : Dg.Sd) (ng : Bool) (s : Nat) (hG : Dg.Gs x) (hs1 : 1 ≤ s) (hs : s ≤ 60) (hd1 : -1099511627776 ≤ x.dp) (hd2 : x.dp ≤ 1099511627776) (h : Ds w k x ng) :
    Calls Tryz.prog 202 #[.pointer (some ⟨k, 0, none⟩), .int .u64 (s : Int)] w fun e w' => e = .returned (.tuple #[]) ∧ Ds w' k (Dg.rsS s x) ng ∧ Fr [k] w w' :=
  rs_c w k x.ds x.dp ng x.tr s hG.gd hG.pos hs1 hs hd1 hd2 h
set_option maxRecDepth 100000 in
set_option maxHeartbeats 1000000 in
theorem shl_c (w : World) (k : Nat) (x : Dg.Sd) (ng : Bool) (K : Nat) (hG : Dg.Gs x) (hK1 : 1 ≤ K) (hK : K ≤ 100000000) (hd1 : -1000000000 ≤ x.dp) (hd2 : x.dp ≤ 1000000000) (hZ : LdZ w k) (h : Ds w k x ng) :
    Calls Tryz.prog 149 #[.pointer (some ⟨k, 0, none⟩), .int .i64 (K : Int)] w fun e w' => e = .returned (.tuple #[]) ∧ Ds w' k (Dg.shL K K x) ng ∧ Fr [k] w w' := by
  have c0 : w.cell? ⟨k, 800, none⟩ = some (.int .i64 (x.ds.length : Int)) := h.cells.2.1
  have kl := h.cells.2.2.2.2.2.1
  obtain ⟨n, hn⟩ : ∃ n, n = x.ds.length := ⟨_, rfl⟩
  have n0 : ((n : Int) == 0) = false := by rw [beq_eq_false_iff_ne]; have := hG.pos; omega
  rw [← hn] at c0
  have g0 : decide (0 < K) = true := decide_eq_true (by omega)
  have HG := Lib.hid hG
  have HZ := Lib.hid hZ
  have HD := Lib.hid h
  have HB : Hid (-1000000000 ≤ x.dp ∧ x.dp ≤ 1000000000) := Lib.hid ⟨hd1, hd2⟩
  clear hG hZ h hn hd1 hd2
  go_enter Tryz.func149, Tryz.ntmps149
  go_wp2_with fail
  go_loopw [1] (fun s1 wr => ∃ (f j : Nat) (y : Dg.Sd), s1 = .int .i64 (j : Int) ∧ 1 ≤ j ∧ j ≤ K ∧ j ≤ f ∧ Hid (Dg.Gs y) ∧ Hid (x.dp ≤ y.dp ∧ y.dp + (j : Int) ≤ x.dp + (K : Int)) ∧ Hid (Dg.shL f j y = Dg.shL K K x) ∧ Hid (Ds wr k y ng) ∧ Hid (Fr [k] w wr)) (fun a _ => (RowKit.intOf a).toNat)
  case atStart => exact ⟨K, K, x, rfl, hK1, Nat.le_refl _, Nat.le_refl _, HG, Lib.hid ⟨Int.le_refl _, Int.le_refl _⟩, Lib.hid rfl, HD, Lib.hid (Fr.refl _ _)⟩
  case round =>
    obtain ⟨f, j, y, rfl, hj1, hjK, hjf, HGy, HBy, HE, HDy, HF⟩ := hrel
    clear c0 n0 g0
    by_cases h6 : 60 < j
    · have CL := Lib.hid (ls_c wr k y ng 60 HGy.out (by decide) (by decide) (by have := HB.out; have := HBy.out; omega) (by have := HB.out; have := HBy.out; omega) (HZ.out.fr HF.out) HDy.out)
      obtain ⟨f', hf'⟩ : ∃ f', f = f' + 1 := ⟨f - 1, by omega⟩
      have HE2 : Hid (Dg.shL f' (j - 60) (Dg.lsS 60 y) = Dg.shL K K x) := Lib.hid (by
        rw [← HE.out, hf']
        show _ = if 60 < j then _ else _
        rw [if_pos h6])
      have HB2 : Hid (x.dp ≤ (Dg.lsS 60 y).dp ∧ (Dg.lsS 60 y).dp + ((j - 60 : Nat) : Int) ≤ x.dp + (K : Int)) := Lib.hid (by
        have := (Dg.lsS_ok HGy.out (k := 60) (by decide) (by decide)).2
        have := HBy.out
        omega)
      have HG2 := Lib.hid (Dg.lsS_ok HGy.out (k := 60) (by decide) (by decide)).1
      have HJF : Hid (j - 60 ≤ f') := Lib.hid (by omega)
      have g6 : (60 : Int) < (j : Int) := by omega
      clear hjf hf' HE HBy HGy
      go_wp2_with fail
      refine CL.out.mono ?_
      rintro e w2 ⟨rfl, D2, F2⟩
      have D2 := Lib.hid D2
      have F2 := Lib.hid F2
      go_wp2_with fail
      go_roundw
      case rel => exact ⟨f', j - 60, Dg.lsS 60 y, congrArg (Value.int .i64) (by omega), by omega, by omega, HJF.out, HG2, HB2, HE2, D2, Lib.hid (HF.out.same F2.out)⟩
      case measure => simp [RowKit.intOf] <;> omega
    · have CL := Lib.hid (ls_c wr k y ng j HGy.out hj1 (by omega) (by have := HB.out; have := HBy.out; omega) (by have := HB.out; have := HBy.out; omega) (HZ.out.fr HF.out) HDy.out)
      obtain ⟨f', hf'⟩ : ∃ f', f = f' + 1 := ⟨f - 1, by omega⟩
      have HE2 : Hid (Dg.lsS j y = Dg.shL K K x) := Lib.hid (by
        rw [← HE.out, hf']
        show _ = if 60 < j then _ else _
        rw [if_neg h6])
      have g6 : ¬ (60 : Int) < (j : Int) := by omega
      have w1 : IntKind.u64.wrap (j : Int) = (j : Int) := fw_u64 _ (by omega) (by omega)
      clear hjf hf' HE HBy HGy h6
      go_wp2_with fail
      refine CL.out.mono ?_
      rintro e w2 ⟨rfl, D2, F2⟩
      have D2 := Lib.hid D2
      have F2 := Lib.hid F2
      go_wp2_with fail
      go_end0
      rw [← HE2.out]
      exact ⟨rfl, D2.out, HF.out.same F2.out⟩
set_option maxRecDepth 100000 in
set_option maxHeartbeats 1000000 in
theorem shr_c (w : World) (k : Nat) (x : Dg.Sd) (ng : Bool) (K : Nat) (hG : Dg.Gs x) (hK1 : 1 ≤ K) (hK : K ≤ 100000000) (hd1 : -1000000000 ≤ x.dp) (hd2 : x.dp ≤ 1000000000) (h : Ds w k x ng) :
    Calls Tryz.prog 149 #[.pointer (some ⟨k, 0, none⟩), .int .i64 (-(K : Int))] w fun e w' => e = .returned (.tuple #[]) ∧ Ds w' k (Dg.shR K K x) ng ∧ Fr [k] w w' := by
  have c0 : w.cell? ⟨k, 800, none⟩ = some (.int .i64 (x.ds.length : Int)) := h.cells.2.1
  have kl := h.cells.2.2.2.2.2.1
  obtain ⟨n, hn⟩ : ∃ n, n = x.ds.length := ⟨_, rfl⟩
  have n0 : ((n : Int) == 0) = false := by rw [beq_eq_false_iff_ne]; have := hG.pos; omega
  rw [← hn] at c0
  have g0 : ¬ (0 : Int) < -(K : Int) := by omega
  have g1 : -(K : Int) < 0 := by omega
  have HG := Lib.hid hG
  have HD := Lib.hid h
  have HB : Hid (-1000000000 ≤ x.dp ∧ x.dp ≤ 1000000000) := Lib.hid ⟨hd1, hd2⟩
  clear hG h hn hd1 hd2
  go_enter Tryz.func149, Tryz.ntmps149
  go_wp2_with fail
  go_loopw [1] (fun s1 wr => ∃ (f j : Nat) (y : Dg.Sd), s1 = .int .i64 (-(j : Int)) ∧ 1 ≤ j ∧ j ≤ K ∧ j ≤ f ∧ Hid (Dg.Gs y) ∧ Hid (x.dp - (K : Int) ≤ y.dp - (j : Int) ∧ y.dp ≤ x.dp) ∧ Hid (Dg.shR f j y = Dg.shR K K x) ∧ Hid (Ds wr k y ng) ∧ Hid (Fr [k] w wr)) (fun a _ => (-(RowKit.intOf a)).toNat)
  case atStart => exact ⟨K, K, x, rfl, hK1, Nat.le_refl _, Nat.le_refl _, HG, Lib.hid ⟨Int.le_refl _, Int.le_refl _⟩, Lib.hid rfl, HD, Lib.hid (Fr.refl _ _)⟩
  case round =>
    obtain ⟨f, j, y, rfl, hj1, hjK, hjf, HGy, HBy, HE, HDy, HF⟩ := hrel
    clear c0 n0 g0 g1
    by_cases h6 : 60 < j
    · have CL := Lib.hid (rsx_c wr k y ng 60 HGy.out (by decide) (by decide) (by have := HB.out; have := HBy.out; omega) (by have := HB.out; have := HBy.out; omega) HDy.out)
      obtain ⟨f', hf'⟩ : ∃ f', f = f' + 1 := ⟨f - 1, by omega⟩
      have HE2 : Hid (Dg.shR f' (j - 60) (Dg.rsS 60 y) = Dg.shR K K x) := Lib.hid (by
        rw [← HE.out, hf']
        show _ = if 60 < j then _ else _
        rw [if_pos h6])
      have HB2 : Hid (x.dp - (K : Int) ≤ (Dg.rsS 60 y).dp - ((j - 60 : Nat) : Int) ∧ (Dg.rsS 60 y).dp ≤ x.dp) := Lib.hid (by
        have := (Dg.rsS_ok HGy.out (k := 60) (by decide)).2
        have := HBy.out
        omega)
      have HG2 := Lib.hid (Dg.rsS_ok HGy.out (k := 60) (by decide)).1
      have HJF : Hid (j - 60 ≤ f') := Lib.hid (by omega)
      have g6 : -(j : Int) < -60 := by omega
      clear hjf hf' HE HBy HGy
      go_wp2_with fail
      refine CL.out.mono ?_
      rintro e w2 ⟨rfl, D2, F2⟩
      have D2 := Lib.hid D2
      have F2 := Lib.hid F2
      go_wp2_with fail
      go_roundw
      case rel => exact ⟨f', j - 60, Dg.rsS 60 y, congrArg (Value.int .i64) (by omega), by omega, by omega, HJF.out, HG2, HB2, HE2, D2, Lib.hid (HF.out.same F2.out)⟩
      case measure => simp [RowKit.intOf] <;> omega
    · have CL := Lib.hid (rsx_c wr k y ng j HGy.out hj1 (by omega) (by have := HB.out; have := HBy.out; omega) (by have := HB.out; have := HBy.out; omega) HDy.out)
      obtain ⟨f', hf'⟩ : ∃ f', f = f' + 1 := ⟨f - 1, by omega⟩
      have HE2 : Hid (Dg.rsS j y = Dg.shR K K x) := Lib.hid (by
        rw [← HE.out, hf']
        show _ = if 60 < j then _ else _
        rw [if_neg h6])
      have g6 : ¬ -(j : Int) < -60 := by omega
      have w1 : IntKind.u64.wrap (j : Int) = (j : Int) := fw_u64 _ (by omega) (by omega)
      clear hjf hf' HE HBy HGy h6
      go_wp2_with fail
      refine CL.out.mono ?_
      rintro e w2 ⟨rfl, D2, F2⟩
      have D2 := Lib.hid D2
      have F2 := Lib.hid F2
      go_wp2_with fail
      go_end0
      rw [← HE2.out]
      exact ⟨rfl, D2.out, HF.out.same F2.out⟩
end Go.Proofs.YtcjkgnafpkkjmaaGreatDoor
end
section
namespace Go.Proofs.YtcjkgnafpkkjmaaGreatDoor
namespace Dg
def pw (d : Nat) : Nat := if 9 ≤ d then 27 else powtabN.getD d 0
theorem pw_b (d : Nat) : 1 ≤ pw d ∧ pw d ≤ 27 ∧ (1 ≤ d → 3 ≤ pw d) := by
  have key : ∀ d : Fin 9, 1 ≤ powtabN.getD d.val 0 ∧ powtabN.getD d.val 0 ≤ 27 ∧ (1 ≤ d.val → 3 ≤ powtabN.getD d.val 0) := by decide
  unfold pw
  split
  · omega
  · exact key ⟨d, by omega⟩
def m1 (x : Sd) : Nat := 2 * x.dp.toNat + (if 8 ≤ dz x.ds 0 then 1 else 0)
def m2 (x : Sd) : Nat := 10 * (1 - x.dp).toNat + (9 - dz x.ds 0)
theorem pv_one (ds : List Nat) : pv ds 1 = dz ds 0 := by show pv ds 0 * 10 + dz ds 0 = _; rw [show pv ds 0 = 0 from rfl]; omega
theorem m1_less {x : Sd} (h : Gs x) (hd : 0 < x.dp) {n : Nat} (h3 : 3 ≤ n) (hn : n ≤ 60) : m1 (rsS n x) < m1 x := by
  have hf := h.gd.first h.pos
  obtain ⟨a1, a2, a3, a4⟩ := rs0_spec hf n hn
  obtain ⟨_, _, c3, _⟩ := rsD_gd h.gd h.pos hn
  have e1 : (rsS n x).dp = x.dp - ((rs0 x.ds n : Int) - 1) := rfl
  have e2 : (rsS n x).ds = rsD x.ds n := rfl
  have d9 := dz_le h.gd.dg 0
  unfold m1
  rw [e1, e2, c3]
  by_cases h1 : rs0 x.ds n = 1
  · have hp : 2 ^ n ≤ dz x.ds 0 := by rw [h1, pv_one] at a1; exact a1
    have h8 : 8 ≤ 2 ^ n := Nat.le_trans (show 8 ≤ 2 ^ 3 by decide) (Nat.pow_le_pow_right (by decide) h3)
    rw [h1, pv_one, if_pos (show 8 ≤ dz x.ds 0 by omega), if_neg (by
      have : dz x.ds 0 / 2 ^ n ≤ dz x.ds 0 / 8 := Nat.div_le_div_left h8 (by decide)
      omega)]
    omega
  · split <;> split <;> omega
theorem m2_less {x : Sd} (h : Gs x) (hd : x.dp ≤ 0) {n : Nat} (h1 : 1 ≤ n) (hn : n ≤ 60) : m2 (lsS n x) < m2 x := by
  obtain ⟨a1, a2, a3, _⟩ := lsD_gd h.gd h.pos h1 hn
  have e1 : (lsS n x).dp = x.dp + (lsd x.ds n : Int) := rfl
  have e2 : (lsS n x).ds = lsD x.ds n := rfl
  have d9 := dz_le h.gd.dg 0
  have d9' := dz_le a1.dg 0
  have hf := h.gd.first h.pos
  unfold m2
  rw [e1, e2]
  by_cases h0 : lsd x.ds n = 0
  · have := a3 h0
    rw [h0]
    omega
  · omega
def fb1 : Nat → Sd → Int → Sd × Int
  | 0, x, e => (x, e)
  | f + 1, x, e => if 0 < x.dp then fb1 f (rsS (pw x.dp.toNat) x) (e + (pw x.dp.toNat : Int)) else (x, e)
def fb2 : Nat → Sd → Int → Sd × Int
  | 0, x, e => (x, e)
  | f + 1, x, e => if x.dp < 0 ∨ (x.dp = 0 ∧ dz x.ds 0 < 5) then fb2 f (lsS (pw (-x.dp).toNat) x) (e - (pw (-x.dp).toNat : Int)) else (x, e)
theorem shL_small {k : Nat} {x : Sd} (h1 : 1 ≤ k) (hk : k ≤ 60) : shL k k x = lsS k x := by
  obtain ⟨f, hf⟩ : ∃ f, k = f + 1 := ⟨k - 1, by omega⟩
  rw [hf]; unfold shL
  rw [if_neg (by omega)]
theorem shR_small {k : Nat} {x : Sd} (h1 : 1 ≤ k) (hk : k ≤ 60) : shR k k x = rsS k x := by
  obtain ⟨f, hf⟩ : ∃ f, k = f + 1 := ⟨k - 1, by omega⟩
  rw [hf]; unfold shR
  rw [if_neg (by omega)]
theorem fb1_step {f : Nat} {x : Sd} {e : Int} (h : 0 < x.dp) : fb1 (f + 1) x e = fb1 f (rsS (pw x.dp.toNat) x) (e + (pw x.dp.toNat : Int)) := by
  show (if _ then _ else _) = _
  rw [if_pos h]
theorem fb1_end {f : Nat} {x : Sd} {e : Int} (h : ¬ 0 < x.dp) : fb1 f x e = (x, e) := by
  cases f with
  | zero => rfl
  | succ f => show (if _ then _ else _) = _; rw [if_neg h]
theorem fb2_step {f : Nat} {x : Sd} {e : Int} (h : x.dp < 0 ∨ (x.dp = 0 ∧ dz x.ds 0 < 5)) : fb2 (f + 1) x e = fb2 f (lsS (pw (-x.dp).toNat) x) (e - (pw (-x.dp).toNat : Int)) := by
  show (if _ then _ else _) = _
  rw [if_pos h]
theorem fb2_end {f : Nat} {x : Sd} {e : Int} (h : ¬ (x.dp < 0 ∨ (x.dp = 0 ∧ dz x.ds 0 < 5))) : fb2 f x e = (x, e) := by
  cases f with
  | zero => rfl
  | succ f => show (if _ then _ else _) = _; rw [if_neg h]
def fbE (x : Sd) (e : Int) : Sd := if e < -1022 then shR (-1022 - e).toNat (-1022 - e).toNat x else x
def fbD (x : Sd) (e : Int) : Nat × Nat × Bool :=
  if 1024 ≤ max e (-1022) then (0, 2047, true)
  else if riN (shL 53 53 (fbE x e)).ds (shL 53 53 (fbE x e)).dp (shL 53 53 (fbE x e)).tr = 9007199254740992 then
    (if 1024 ≤ max e (-1022) + 1 then (0, 2047, true) else (4503599627370496, (max e (-1022) + 1024).toNat, false))
  else if riN (shL 53 53 (fbE x e)).ds (shL 53 53 (fbE x e)).dp (shL 53 53 (fbE x e)).tr / 4503599627370496 % 2 = 0 then (riN (shL 53 53 (fbE x e)).ds (shL 53 53 (fbE x e)).dp (shL 53 53 (fbE x e)).tr, 0, false)
  else (riN (shL 53 53 (fbE x e)).ds (shL 53 53 (fbE x e)).dp (shL 53 53 (fbE x e)).tr, (max e (-1022) + 1023).toNat, false)
def fbP (x : Sd) : Sd × Int := fb1 (m1 x) x 0
def fbQ (x : Sd) : Sd × Int := fb2 (m2 (fbP x).1) (fbP x).1 (fbP x).2
def fbN (x : Sd) : Nat × Nat × Bool :=
  if x.ds.length = 0 then (0, 0, false)
  else if 310 < x.dp then (0, 2047, true)
  else if x.dp < -330 then (0, 0, false)
  else fbD (fbQ x).1 ((fbQ x).2 - 1)
def oA (m : Nat) : Nat := (bits BinOp.and IntKind.u64 (m : Int) 4503599627370495).toNat
def oS (E : Nat) : Nat := (IntKind.u64.wrap ((E : Int) * 4503599627370496)).toNat
def oC (m E : Nat) : Nat := (bits BinOp.or IntKind.u64 (oA m : Int) (oS E : Int)).toNat
def oN (m E : Nat) : Nat := (bits BinOp.or IntKind.u64 (oC m E : Int) 9223372036854775808).toNat
def oB (m E : Nat) (ng : Bool) : Nat := if ng then oN m E else oC m E
end Dg
theorem wrap_nat (z : Int) : IntKind.u64.wrap z = ((IntKind.u64.wrap z).toNat : Int) ∧ (IntKind.u64.wrap z).toNat < 18446744073709551616 := by
  rw [IntKind.wrap_u64]; omega
theorem oA_eq (m : Nat) : bits BinOp.and IntKind.u64 (m : Int) 4503599627370495 = (Dg.oA m : Int) := (wrap_nat _).1
theorem oS_eq (E : Nat) : IntKind.u64.wrap ((E : Int) * 4503599627370496) = (Dg.oS E : Int) := (wrap_nat _).1
theorem oC_eq (m E : Nat) : bits BinOp.or IntKind.u64 (Dg.oA m : Int) (Dg.oS E : Int) = (Dg.oC m E : Int) := (wrap_nat _).1
theorem oN_eq (m E : Nat) : bits BinOp.or IntKind.u64 (Dg.oC m E : Int) 9223372036854775808 = (Dg.oN m E : Int) := (wrap_nat _).1
theorem oB_lt (m E : Nat) (ng : Bool) : Dg.oB m E ng < 18446744073709551616 := by
  have key : ∀ x y : Int, (bits BinOp.or IntKind.u64 x y).toNat < 18446744073709551616 := fun x y => by
    obtain ⟨n, h1, h2⟩ := or_some x y
    rw [h2, Int.toNat_natCast]; exact h1
  cases ng
  · exact key _ _
  · exact key _ _
end Go.Proofs.YtcjkgnafpkkjmaaGreatDoor
end
section
namespace Go.Proofs.YtcjkgnafpkkjmaaGreatDoor
def exitAt (l : Nat) (J : Act → World → Prop) (Q : Exit → Act → World → Prop) : Exit → Act → World → Prop
  | .goto l', a, w => if l' = l then J a w else Q (.goto l') a w
  | e, a, w => Q e a w
section
variable {P : Program} {a : Act} {w : World} {Q : Exit → Act → World → Prop} {l : Nat} {J : Act → World → Prop}
@[go_sem] theorem exitAt_ret : exitAt l J Q .ret a w = Q .ret a w := rfl
theorem exitAt_here (h : J a w) : exitAt l J Q (.goto l) a w := by simp [exitAt, h]
theorem exitAt_there {l' : Nat} (hl : l' ≠ l) (h : Q (.goto l') a w) : exitAt l J Q (.goto l') a w := by simp [exitAt, hl, h]
theorem then_goto {K : Act → World → Prop} {l' : Nat} (h : Q (.goto l') a w) : Exit.then K Q (.goto l') a w := h
theorem scope_straight {c r : Code} (h : r.wp P (Exit.noGoto Q) a w) (b : Frame) (k : List Item) (cs : List Frame) : ∃ e a' w', Q e a' w' ∧ Arrives P (lone (b.at a (.code r :: .inScope c :: k)) cs w) b k cs e a' w' := by
  obtain ⟨e, a₁, w₁, hq, harr⟩ := h b (.inScope c :: k) cs
  cases e with
  | normal => exact ⟨.normal, a₁, w₁, hq, Steps.trans harr (.one step_inScope)⟩
  | exit id => exact ⟨.exit id, a₁, w₁, hq, fun k' hk => harr k' (by simp [exitTo, hk])⟩
  | goto l' => exact hq.elim
  | ret => exact ⟨_, a₁, w₁, hq, harr⟩
  | panic ch => exact ⟨_, a₁, w₁, hq, harr⟩
  | outgrown => exact ⟨_, a₁, w₁, hq, harr⟩
theorem scope_one {c r r0 : Code} {l0 : Nat} (h0 : findLabel c l0 = some r0) (h : r.wp P (exitAt l0 (fun a w => r0.wp P (Exit.noGoto Q) a w) (Exit.noGoto Q)) a w) (b : Frame) (k : List Item) (cs : List Frame) : ∃ e a' w', Q e a' w' ∧ Arrives P (lone (b.at a (.code r :: .inScope c :: k)) cs w) b k cs e a' w' := by
  have hg : gotoIn l0 (.inScope c :: k) = some (.code r0 :: .inScope c :: k) := by simp [gotoIn, h0]
  obtain ⟨e, a₁, w₁, hq, harr⟩ := h b (.inScope c :: k) cs
  cases e with
  | normal => exact ⟨.normal, a₁, w₁, hq, Steps.trans harr (.one step_inScope)⟩
  | exit id => exact ⟨.exit id, a₁, w₁, hq, fun k' hk => harr k' (by simp [exitTo, hk])⟩
  | goto l' =>
    by_cases e : l' = l0
    · subst e
      have hq : r0.wp P (Exit.noGoto Q) a₁ w₁ := by simpa [exitAt] using hq
      obtain ⟨e₂, a₂, w₂, hq₂, harr₂⟩ := scope_straight (c := c) hq b k cs
      exact ⟨e₂, a₂, w₂, hq₂, .of_steps (harr _ hg) harr₂⟩
    · have hq : Exit.noGoto Q (.goto l') a₁ w₁ := by simpa [exitAt, e] using hq
      exact hq.elim
  | ret => exact ⟨_, a₁, w₁, hq, harr⟩
  | panic ch => exact ⟨_, a₁, w₁, hq, harr⟩
  | outgrown => exact ⟨_, a₁, w₁, hq, harr⟩
theorem wp_scope_two {c r0 r1 : Code} (l0 l1 : Nat) (h0 : findLabel c l0 = some r0) (h1 : findLabel c l1 = some r1)
    (h : c.wp P (exitAt l1 (fun a w => r1.wp P (exitAt l0 (fun a w => r0.wp P (Exit.noGoto Q) a w) (Exit.noGoto Q)) a w) (exitAt l0 (fun a w => r0.wp P (Exit.noGoto Q) a w) (Exit.noGoto Q))) a w) : (Code.scope c).wp P Q a w := by
  intro b k cs
  have hg0 : gotoIn l0 (.inScope c :: k) = some (.code r0 :: .inScope c :: k) := by simp [gotoIn, h0]
  have hg1 : gotoIn l1 (.inScope c :: k) = some (.code r1 :: .inScope c :: k) := by simp [gotoIn, h1]
  obtain ⟨e, a₁, w₁, hq, harr⟩ := h b (.inScope c :: k) cs
  cases e with
  | normal => exact ⟨.normal, a₁, w₁, hq, .head step_scope (Steps.trans harr (.one step_inScope))⟩
  | exit id => exact ⟨.exit id, a₁, w₁, hq, fun k' hk => .head step_scope (harr k' (by simp [exitTo, hk]))⟩
  | goto l' =>
    by_cases e : l' = l1
    · subst e
      have hq : r1.wp P (exitAt l0 (fun a w => r0.wp P (Exit.noGoto Q) a w) (Exit.noGoto Q)) a₁ w₁ := by simpa [exitAt] using hq
      obtain ⟨e₂, a₂, w₂, hq₂, harr₂⟩ := scope_one (c := c) h0 hq b k cs
      exact ⟨e₂, a₂, w₂, hq₂, .of_steps (.head step_scope (harr _ hg1)) harr₂⟩
    · by_cases e0 : l' = l0
      · subst e0
        have hq : r0.wp P (Exit.noGoto Q) a₁ w₁ := by simpa [exitAt, e] using hq
        obtain ⟨e₂, a₂, w₂, hq₂, harr₂⟩ := scope_straight (c := c) hq b k cs
        exact ⟨e₂, a₂, w₂, hq₂, .of_steps (.head step_scope (harr _ hg0)) harr₂⟩
      · have hq : Exit.noGoto Q (.goto l') a₁ w₁ := by simpa [exitAt, e, e0] using hq
        exact hq.elim
  | ret => exact ⟨_, a₁, w₁, hq, .of_steps (.one step_scope) harr⟩
  | panic ch => exact ⟨_, a₁, w₁, hq, .of_steps (.one step_scope) harr⟩
  | outgrown => exact ⟨_, a₁, w₁, hq, .of_steps (.one step_scope) harr⟩
end
end Go.Proofs.YtcjkgnafpkkjmaaGreatDoor
end
section
namespace Go.Proofs.YtcjkgnafpkkjmaaGreatDoor
open Go.ChangeShapes Go.WideShapes Go.RowKit Go.Shelf
theorem and_2047 (E : Nat) (h : E ≤ 2047) : bits BinOp.and IntKind.i64 (E : Int) 2047 = (E : Int) := by
  have key : ∀ E : Fin 2048, bits BinOp.and IntKind.i64 (E.val : Int) 2047 = (E.val : Int) := by decide +kernel
  exact key ⟨E, by omega⟩
theorem out_facts (m E : Nat) (hE : E ≤ 2047) : ∃ A B C D : Nat, bits BinOp.and IntKind.u64 (m : Int) 4503599627370495 = (A : Int) ∧ IntKind.u64.wrap (E : Int) = (E : Int) ∧ IntKind.u64.wrap ((E : Int) * 4503599627370496) = (B : Int) ∧ bits BinOp.or IntKind.u64 (A : Int) (B : Int) = (C : Int) ∧ bits BinOp.or IntKind.u64 (C : Int) 9223372036854775808 = (D : Int) ∧ ∀ ng, Dg.oB m E ng = if ng then D else C :=
  ⟨Dg.oA m, Dg.oS E, Dg.oC m E, Dg.oN m E, oA_eq m, fw_u64 _ (by omega) (by omega), oS_eq E, oC_eq m E, oN_eq m E, fun _ => rfl⟩
set_option maxRecDepth 100000 in
set_option maxHeartbeats 4000000 in
theorem fb_nil (w : World) (k : Nat) (x : Dg.Sd) (ng : Bool) (h0 : x.ds.length = 0) (hZ : LdZ w k) (h : Ds w k x ng) : Calls Tryz.prog 181 #[.pointer (some ⟨k, 0, none⟩), .pointer (some ⟨6, 0, none⟩)] w fun e w' => e = .returned (.tuple #[.int .u64 (Dg.oB 0 0 ng : Int), .bool false]) ∧ Fr [k] w w' := by
  obtain ⟨n, hn⟩ : ∃ n, n = x.ds.length := ⟨_, rfl⟩
  have c0 : w.cell? ⟨k, 800, none⟩ = some (.int .i64 (n : Int)) := by rw [hn]; exact h.cells.2.1
  have hn0 : n = 0 := by rw [hn]; exact h0
  have c1 : w.cell? ⟨k, 801, none⟩ = some (.int .i64 x.dp) := h.cells.2.2.1
  have c2 : w.cell? ⟨k, 802, none⟩ = some (.bool ng) := h.cells.2.2.2.1
  have kl := h.cells.2.2.2.2.2.1
  obtain ⟨i0, i1, i2⟩ := hZ.info
  obtain ⟨E, hE⟩ : ∃ E, E = 0 := ⟨_, rfl⟩
  obtain ⟨A, B, C, D, e1, eE, e2, e3, e4, HR⟩ := out_facts 0 E (by omega)
  have e1 : bits BinOp.and IntKind.u64 0 4503599627370495 = (A : Int) := e1
  have e0 : bits BinOp.and IntKind.i64 0 2047 = (E : Int) := by rw [hE]; exact and_2047 0 (by decide)
  have HR : Hid (Dg.oB 0 0 ng = if ng then D else C) := Lib.hid (by rw [← HR ng, hE])
  have n0 : ((n : Int) == 0) = true := by simpa using (show (n : Int) = 0 by omega)
  clear hZ h h0 hE hn hn0
  go_enter Tryz.func181, Tryz.ntmps181
  go_wp2_with fail
  refine wp_scope_two 0 1 rfl rfl ?_
  go_wp2_with fail
  go_step3
  refine then_goto ?_
  refine exitAt_there (l := 1) (l' := 0) (by decide) ?_
  refine exitAt_here (l := 0) ?_
  go_wp2_with fail
  go_quiet (fail)
  cases ng
  · go_wp2_with fail
    rw [Exit.noGoto_ret]
    go_ret2
    rw [HR.out]
    exact ⟨rfl, by repeat (first | exact Fr.refl _ _ | apply Fr.drewN | apply Fr.drew)⟩
  · go_wp2_with fail
    go_quiet (fail)
    go_wp2_with fail
    rw [Exit.noGoto_ret]
    go_ret2
    rw [HR.out]
    exact ⟨rfl, by repeat (first | exact Fr.refl _ _ | apply Fr.drewN | apply Fr.drew)⟩
set_option maxRecDepth 100000 in
set_option maxHeartbeats 4000000 in
theorem fb_over (w : World) (k : Nat) (x : Dg.Sd) (ng : Bool) (h0 : 0 < x.ds.length) (h3 : 310 < x.dp) (hZ : LdZ w k) (h : Ds w k x ng) : Calls Tryz.prog 181 #[.pointer (some ⟨k, 0, none⟩), .pointer (some ⟨6, 0, none⟩)] w fun e w' => e = .returned (.tuple #[.int .u64 (Dg.oB 0 2047 ng : Int), .bool true]) ∧ Fr [k] w w' := by
  obtain ⟨n, hn⟩ : ∃ n, n = x.ds.length := ⟨_, rfl⟩
  have c0 : w.cell? ⟨k, 800, none⟩ = some (.int .i64 (n : Int)) := by rw [hn]; exact h.cells.2.1
  have c1 : w.cell? ⟨k, 801, none⟩ = some (.int .i64 x.dp) := h.cells.2.2.1
  have c2 : w.cell? ⟨k, 802, none⟩ = some (.bool ng) := h.cells.2.2.2.1
  have kl := h.cells.2.2.2.2.2.1
  obtain ⟨i0, i1, i2⟩ := hZ.info
  obtain ⟨E, hE⟩ : ∃ E, E = 2047 := ⟨_, rfl⟩
  obtain ⟨A, B, C, D, e1, eE, e2, e3, e4, HR⟩ := out_facts 0 E (by omega)
  have e1 : bits BinOp.and IntKind.u64 0 4503599627370495 = (A : Int) := e1
  have e0 : bits BinOp.and IntKind.i64 2047 2047 = (E : Int) := by rw [hE]; exact and_2047 2047 (by decide)
  have HR : Hid (Dg.oB 0 2047 ng = if ng then D else C) := Lib.hid (by rw [← HR ng, hE])
  have n0 : ((n : Int) == 0) = false := by rw [beq_eq_false_iff_ne]; omega
  clear hZ h h0 hE hn
  go_enter Tryz.func181, Tryz.ntmps181
  go_wp2_with fail
  refine wp_scope_two 0 1 rfl rfl ?_
  go_wp2_with fail
  go_step3
  refine then_goto ?_
  refine exitAt_here (l := 1) ?_
  go_wp2_with fail
  go_quiet (fail)
  go_wp2_with fail
  go_step3
  go_wp2_with fail
  go_quiet (fail)
  cases ng
  · go_wp2_with fail
    rw [exitAt_ret, Exit.noGoto_ret]
    go_ret2
    rw [HR.out]
    exact ⟨rfl, by repeat (first | exact Fr.refl _ _ | apply Fr.drewN | apply Fr.drew)⟩
  · go_wp2_with fail
    go_quiet (fail)
    go_wp2_with fail
    rw [exitAt_ret, Exit.noGoto_ret]
    go_ret2
    rw [HR.out]
    exact ⟨rfl, by repeat (first | exact Fr.refl _ _ | apply Fr.drewN | apply Fr.drew)⟩
set_option maxRecDepth 100000 in
set_option maxHeartbeats 4000000 in
theorem fb_zero (w : World) (k : Nat) (x : Dg.Sd) (ng : Bool) (h0 : 0 < x.ds.length) (h3 : x.dp < -330) (hZ : LdZ w k) (h : Ds w k x ng) : Calls Tryz.prog 181 #[.pointer (some ⟨k, 0, none⟩), .pointer (some ⟨6, 0, none⟩)] w fun e w' => e = .returned (.tuple #[.int .u64 (Dg.oB 0 0 ng : Int), .bool false]) ∧ Fr [k] w w' := by
  obtain ⟨n, hn⟩ : ∃ n, n = x.ds.length := ⟨_, rfl⟩
  have c0 : w.cell? ⟨k, 800, none⟩ = some (.int .i64 (n : Int)) := by rw [hn]; exact h.cells.2.1
  have c1 : w.cell? ⟨k, 801, none⟩ = some (.int .i64 x.dp) := h.cells.2.2.1
  have c2 : w.cell? ⟨k, 802, none⟩ = some (.bool ng) := h.cells.2.2.2.1
  have kl := h.cells.2.2.2.2.2.1
  obtain ⟨i0, i1, i2⟩ := hZ.info
  obtain ⟨E, hE⟩ : ∃ E, E = 0 := ⟨_, rfl⟩
  obtain ⟨A, B, C, D, e1, eE, e2, e3, e4, HR⟩ := out_facts 0 E (by omega)
  have e1 : bits BinOp.and IntKind.u64 0 4503599627370495 = (A : Int) := e1
  have e0 : bits BinOp.and IntKind.i64 0 2047 = (E : Int) := by rw [hE]; exact and_2047 0 (by decide)
  have HR : Hid (Dg.oB 0 0 ng = if ng then D else C) := Lib.hid (by rw [← HR ng, hE])
  have n0 : ((n : Int) == 0) = false := by rw [beq_eq_false_iff_ne]; omega
  have h4 : ¬ 310 < x.dp := by omega
  clear hZ h h0 hE hn
  go_enter Tryz.func181, Tryz.ntmps181
  go_wp2_with fail
  refine wp_scope_two 0 1 rfl rfl ?_
  go_wp2_with fail
  go_step3
  refine then_goto ?_
  refine exitAt_there (l := 1) (l' := 0) (by decide) ?_
  refine exitAt_here (l := 0) ?_
  go_wp2_with fail
  go_quiet (fail)
  cases ng
  · go_wp2_with fail
    rw [Exit.noGoto_ret]
    go_ret2
    rw [HR.out]
    exact ⟨rfl, by repeat (first | exact Fr.refl _ _ | apply Fr.drewN | apply Fr.drew)⟩
  · go_wp2_with fail
    go_quiet (fail)
    go_wp2_with fail
    rw [Exit.noGoto_ret]
    go_ret2
    rw [HR.out]
    exact ⟨rfl, by repeat (first | exact Fr.refl _ _ | apply Fr.drewN | apply Fr.drew)⟩
end Go.Proofs.YtcjkgnafpkkjmaaGreatDoor
end
