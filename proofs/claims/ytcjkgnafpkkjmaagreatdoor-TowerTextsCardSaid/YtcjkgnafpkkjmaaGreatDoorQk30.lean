/- The texts and numbers of numbers: a part of the walk. No condition. -/
import Derived.Test.YtcjkgnafpkkjmaaGreatDoorQk29
set_option linter.all false
section
namespace Go.Proofs.YtcjkgnafpkkjmaaGreatDoor
namespace Dg
def lst (p : Nat → Bool) : Nat → Nat → Nat
  | 0, r => r
  | f + 1, r => if p r then r else lst p f (r + 1)
theorem lst_spec (p : Nat → Bool) (f r : Nat) (h : ∀ x, x < r → p x = false) (hf : p (r + f) = true) : p (lst p f r) = true ∧ (∀ x, x < lst p f r → p x = false) ∧ lst p f r ≤ r + f := by
  induction f generalizing r with
  | zero => exact ⟨hf, h, Nat.le_refl _⟩
  | succ f ih =>
    unfold lst
    by_cases hp : p r = true
    · rw [if_pos hp]; exact ⟨hp, h, by omega⟩
    · rw [if_neg hp]
      obtain ⟨h1, h2, h3⟩ := ih (r + 1) (fun x hx => by
        by_cases e : x = r
        · subst e; simpa using hp
        · exact h x (by omega)) (by rw [show r + 1 + f = r + (f + 1) by omega]; exact hf)
      exact ⟨h1, h2, by omega⟩
theorem pv_beyond {ds : List Nat} (t : Nat) : pv ds (ds.length + t) = pv ds ds.length * 10 ^ t := by
  induction t with
  | zero => simp
  | succ t ih =>
    show pv ds (ds.length + t) * 10 + dz ds (ds.length + t) = _
    rw [ih, dz_out (by omega), Nat.pow_succ, Nat.mul_assoc, Nat.add_zero]
def rs0 (ds : List Nat) (k : Nat) : Nat := lst (fun r => decide (2 ^ k ≤ pv ds r)) 20 0
theorem rs0_spec {ds : List Nat} (h1 : 1 ≤ dz ds 0) (k : Nat) (hk : k ≤ 60) : 2 ^ k ≤ pv ds (rs0 ds k) ∧ (∀ r, r < rs0 ds k → pv ds r < 2 ^ k) ∧ rs0 ds k ≤ 20 ∧ 1 ≤ rs0 ds k := by
  have h19 := pv_first h1 19
  have hp : 2 ^ k ≤ 2 ^ 60 := Nat.pow_le_pow_right (by decide) hk
  obtain ⟨a1, a2, a3⟩ := lst_spec (fun r => decide (2 ^ k ≤ pv ds r)) 20 0 (fun x hx => absurd hx (by omega)) (decide_eq_true (by
    rw [Nat.zero_add]
    exact Nat.le_trans hp (Nat.le_trans (by decide) h19)))
  have a1 := of_decide_eq_true a1
  refine ⟨a1, fun r hr => Nat.lt_of_not_le (of_decide_eq_false (a2 r hr)), (by rw [Nat.zero_add] at a3; exact a3), ?_⟩
  rcases Nat.eq_zero_or_pos (rs0 ds k) with e | e
  · exfalso
    have a4 : 2 ^ k ≤ pv ds (rs0 ds k) := a1
    rw [e] at a4
    have : 0 < 2 ^ k := Nat.pow_pos (by decide)
    have e0 : pv ds 0 = 0 := rfl
    omega
  · exact e
def rem (ds : List Nat) (k r : Nat) : Nat := pv ds r % (2 ^ k * 10)
theorem rem_lt (ds : List Nat) (k r : Nat) : rem ds k r < 2 ^ k * 10 := Nat.mod_lt _ (Nat.mul_pos (Nat.pow_pos (by decide)) (by decide))
theorem rem_first {ds : List Nat} (hd : Fmt.Dig ds) (h1 : 1 ≤ dz ds 0) (k : Nat) (hk : k ≤ 60) : rem ds k (rs0 ds k) = pv ds (rs0 ds k) := by
  obtain ⟨a1, a2, a3, a4⟩ := rs0_spec h1 k hk
  apply Nat.mod_eq_of_lt
  obtain ⟨r, hr⟩ : ∃ r, rs0 ds k = r + 1 := ⟨rs0 ds k - 1, by omega⟩
  have := a2 r (by omega)
  have hz := dz_le hd r
  rw [hr]
  show pv ds r * 10 + dz ds r < _
  omega
theorem rem_next {ds : List Nat} (hd : Fmt.Dig ds) (k r : Nat) : rem ds k (r + 1) = rem ds k r % 2 ^ k * 10 + dz ds r := by
  have hz := dz_le hd r
  have hM : 0 < 2 ^ k := Nat.pow_pos (by decide)
  unfold rem
  rw [Nat.mod_mul_right_mod]
  show (pv ds r * 10 + dz ds r) % _ = _
  generalize pv ds r = x
  generalize dz ds r = d at hz
  generalize 2 ^ k = M at hM
  have e := Nat.mod_add_div x M
  have hm := Nat.mod_lt x hM
  have e2 : x * 10 + d = (x % M * 10 + d) + M * 10 * (x / M) := by
    have : x * 10 = (x % M + M * (x / M)) * 10 := by rw [e]
    rw [this, Nat.add_mul, Nat.mul_right_comm]; omega
  rw [e2, Nat.add_mul_mod_self_left, Nat.mod_eq_of_lt (by omega)]
def rdg (ds : List Nat) (k j : Nat) : Nat := rem ds k (rs0 ds k + j) / 2 ^ k
theorem rdg_le (ds : List Nat) (k j : Nat) : rdg ds k j ≤ 9 := by
  have := rem_lt ds k (rs0 ds k + j)
  have : rdg ds k j < 10 := Nat.div_lt_of_lt_mul this
  omega
def rsJ (ds : List Nat) (k : Nat) : Nat := lst (fun j => decide (ds.length ≤ rs0 ds k + j ∧ rem ds k (rs0 ds k + j) = 0)) (ds.length + 61) 0
theorem rem_end (ds : List Nat) (k r : Nat) (h : ds.length + k + 1 ≤ r) : rem ds k r = 0 := by
  obtain ⟨t, ht⟩ : ∃ t, r = ds.length + (k + 1 + t) := ⟨r - (ds.length + k + 1), by omega⟩
  unfold rem
  rw [ht, pv_beyond]
  have e : pv ds ds.length * 10 ^ (k + 1 + t) = 2 ^ k * 10 * (pv ds ds.length * 5 ^ k * 10 ^ t) := by
    have : (10 : Nat) ^ k = 2 ^ k * 5 ^ k := by rw [← Nat.mul_pow]
    rw [Nat.pow_add, Nat.pow_succ, this]
    generalize pv ds ds.length = D
    generalize 2 ^ k = A
    generalize 5 ^ k = B
    generalize 10 ^ t = T
    rw [Nat.mul_comm D, Nat.mul_comm D B, Nat.mul_assoc A 10, Nat.mul_assoc A B 10, Nat.mul_assoc A (B * 10) T, Nat.mul_assoc A]
    congr 1
    rw [Nat.mul_comm B 10, Nat.mul_assoc 10, Nat.mul_assoc 10]
    congr 1
    rw [Nat.mul_assoc, Nat.mul_assoc, Nat.mul_comm T D]
  rw [e]; exact Nat.mul_mod_right _ _
theorem rsJ_spec {ds : List Nat} (hd : Fmt.Dig ds) (h1 : 1 ≤ dz ds 0) (k : Nat) (hk : k ≤ 60) : ds.length ≤ rs0 ds k + rsJ ds k ∧ rem ds k (rs0 ds k + rsJ ds k) = 0 ∧ (∀ j, j < rsJ ds k → ds.length ≤ rs0 ds k + j → rem ds k (rs0 ds k + j) ≠ 0) ∧ rsJ ds k ≤ ds.length + 61 ∧ 1 ≤ rsJ ds k := by
  obtain ⟨a1, a2, a3, a4⟩ := rs0_spec h1 k hk
  obtain ⟨b1, b2, b3⟩ := lst_spec (fun j => decide (ds.length ≤ rs0 ds k + j ∧ rem ds k (rs0 ds k + j) = 0)) (ds.length + 61) 0 (fun x hx => absurd hx (by omega)) (decide_eq_true ⟨by omega, rem_end ds k _ (by omega)⟩)
  have b1 := of_decide_eq_true b1
  refine ⟨b1.1, b1.2, fun j hj hl e => of_decide_eq_false (b2 j hj) ⟨hl, e⟩, (by rw [Nat.zero_add] at b3; exact b3), ?_⟩
  rcases Nat.eq_zero_or_pos (rsJ ds k) with e | e
  · exfalso
    have b4 : rem ds k (rs0 ds k + rsJ ds k) = 0 := b1.2
    rw [e, Nat.add_zero, rem_first hd h1 k hk] at b4
    have : 0 < 2 ^ k := Nat.pow_pos (by decide)
    omega
  · exact e
def trR (ds : List Nat) (k : Nat) (tr : Bool) : Nat → Bool
  | 0 => tr
  | j + 1 => if 800 ≤ j ∧ 0 < rdg ds k j then true else trR ds k tr j
def rdigs (ds : List Nat) (k n : Nat) : List Nat := (List.range n).map (fun j => rdg ds k j + 48)
theorem rdigs_len (ds : List Nat) (k n : Nat) : (rdigs ds k n).length = n := by simp [rdigs]
theorem rdigs_at (ds : List Nat) (k n j : Nat) (h : j < n) : (rdigs ds k n)[j]?.getD 0 = rdg ds k j + 48 := by simp [rdigs, h]
theorem rdigs_dig (ds : List Nat) (k n : Nat) : Fmt.Dig (rdigs ds k n) := by
  intro d hd
  simp only [rdigs, List.mem_map] at hd
  obtain ⟨j, _, rfl⟩ := hd
  have := rdg_le ds k j
  omega
theorem rdigs_first {ds : List Nat} (hd : Fmt.Dig ds) (h1 : 1 ≤ dz ds 0) {k n : Nat} (hk : k ≤ 60) (hn : 0 < n) : dz (rdigs ds k n) 0 = pv ds (rs0 ds k) / 2 ^ k ∧ 1 ≤ pv ds (rs0 ds k) / 2 ^ k := by
  have e := dz_in (rdigs_dig ds k n) (i := 0) (by rw [rdigs_len]; exact hn)
  rw [rdigs_at _ _ _ _ hn] at e
  have e2 : rdg ds k 0 = pv ds (rs0 ds k) / 2 ^ k := by
    unfold rdg
    rw [Nat.add_zero, rem_first hd h1 k hk]
  obtain ⟨a1, _⟩ := rs0_spec h1 k hk
  refine ⟨by omega, (Nat.le_div_iff_mul_le (Nat.pow_pos (by decide))).mpr (by omega)⟩
def rsD (ds : List Nat) (k : Nat) : List Nat := trimZ (rdigs ds k (min (rsJ ds k) 800))
theorem rsD_gd {ds : List Nat} (h : Gd ds) (h0 : 0 < ds.length) {k : Nat} (hk : k ≤ 60) : Gd (rsD ds k) ∧ 0 < (rsD ds k).length ∧ dz (rsD ds k) 0 = pv ds (rs0 ds k) / 2 ^ k ∧ ∀ dp, trimD (rdigs ds k (min (rsJ ds k) 800)) dp = dp := by
  have hf := h.first h0
  obtain ⟨_, _, _, _, b5⟩ := rsJ_spec h.dg hf k hk
  obtain ⟨c1, c2⟩ := rdigs_first h.dg hf (k := k) (n := min (rsJ ds k) 800) hk (by omega)
  obtain ⟨t1, t2, t3⟩ := trim_first (ds := rdigs ds k (min (rsJ ds k) 800)) (by omega) (by rw [rdigs_len]; omega)
  refine ⟨trim_gd (rdigs_dig _ _ _) (by rw [rdigs_len]; omega) (by omega) (by rw [rdigs_len]; omega), t2, by unfold rsD; rw [t1]; exact c1, t3⟩
def lsd (ds : List Nat) (k : Nat) : Nat := if pv ds ds.length * 10 ^ (cut k).length < pv (cut k) (cut k).length * 10 ^ ds.length then dlt k - 1 else dlt k
def lsD (ds : List Nat) (k : Nat) : List Nat := trimZ (digs (pv ds ds.length * 2 ^ k) (ds.length + lsd ds k) (min (ds.length + lsd ds k) 800))
theorem lsd_fit {ds : List Nat} (h : Gd ds) (h0 : 0 < ds.length) {k : Nat} (h1 : 1 ≤ k) (hk : k ≤ 60) : 10 ^ (ds.length + lsd ds k - 1) ≤ pv ds ds.length * 2 ^ k ∧ pv ds ds.length * 2 ^ k < 10 ^ (ds.length + lsd ds k) ∧ lsd ds k ≤ 19 := by
  obtain ⟨q1, q2, q3, q4, q5, q6, q7, q8⟩ := cut_facts k h1 hk
  have hf := h.first h0
  have f1 := pv_first hf (ds.length - 1)
  rw [show ds.length - 1 + 1 = ds.length by omega] at f1
  have f2 := pv_lt h.dg ds.length
  have g1 := pv_first q6 ((cut k).length - 1)
  rw [show (cut k).length - 1 + 1 = (cut k).length by omega] at g1
  have g2 := pv_lt q1 (cut k).length
  have := fit (d := lsd ds k) (k := k) q4 h0 f1 f2 g1 g2 q2 q3 (by
    unfold lsd
    by_cases hc : pv ds ds.length * 10 ^ (cut k).length < pv (cut k) (cut k).length * 10 ^ ds.length
    · left; rw [if_pos hc]; exact ⟨hc, by omega⟩
    · right; rw [if_neg hc]; exact ⟨hc, by omega⟩)
  refine ⟨this.1, this.2, ?_⟩
  unfold lsd
  split <;> omega
theorem lsD_gd {ds : List Nat} (h : Gd ds) (h0 : 0 < ds.length) {k : Nat} (h1 : 1 ≤ k) (hk : k ≤ 60) : Gd (lsD ds k) ∧ 0 < (lsD ds k).length ∧ (lsd ds k = 0 → 2 * dz ds 0 ≤ dz (lsD ds k) 0) ∧ ∀ dp, trimD (digs (pv ds ds.length * 2 ^ k) (ds.length + lsd ds k) (min (ds.length + lsd ds k) 800)) dp = dp := by
  obtain ⟨a1, a2, a3⟩ := lsd_fit h h0 h1 hk
  obtain ⟨c1, c2⟩ := digs_first (n := min (ds.length + lsd ds k) 800) (by omega) (by omega) a1 a2
  obtain ⟨t1, t2, t3⟩ := trim_first (ds := digs (pv ds ds.length * 2 ^ k) (ds.length + lsd ds k) (min (ds.length + lsd ds k) 800)) (by omega) (by rw [digs_len]; omega)
  refine ⟨trim_gd (digs_dig _ _ _) (by rw [digs_len]; omega) (by omega) (by rw [digs_len]; omega), t2, fun e => ?_, t3⟩
  unfold lsD
  rw [t1, c1, e, Nat.add_zero]
  obtain ⟨m, hm⟩ : ∃ m, ds.length = m + 1 := ⟨ds.length - 1, by omega⟩
  have e1 := pv_div h.dg ds.length m (by omega)
  rw [show ds.length - m = 1 by omega] at e1
  have e2 : pv ds 1 = dz ds 0 := by show pv ds 0 * 10 + dz ds 0 = _; rw [show pv ds 0 = 0 from rfl]; omega
  rw [show ds.length - 1 = m by omega]
  have p : 0 < 10 ^ m := Nat.pow_pos (by decide)
  rw [Nat.le_div_iff_mul_le p, ← e2, ← e1]
  have hle := Nat.div_mul_le_self (pv ds ds.length) (10 ^ m)
  have h2k : 2 ≤ 2 ^ k := Nat.le_trans (show 2 ≤ 2 ^ 1 by decide) (Nat.pow_le_pow_right (by decide) h1)
  calc 2 * (pv ds ds.length / 10 ^ m) * 10 ^ m = pv ds ds.length / 10 ^ m * 10 ^ m * 2 := by rw [Nat.mul_assoc, Nat.mul_comm]
    _ ≤ pv ds ds.length * 2 ^ k := Nat.mul_le_mul hle h2k
end Dg
end Go.Proofs.YtcjkgnafpkkjmaaGreatDoor
end
section
namespace Go.Proofs.YtcjkgnafpkkjmaaGreatDoor
open Go.ChangeShapes Go.WideShapes Go.RowKit Go.Shelf
def Kr (ds : List Nat) (s n r j : Nat) (i x : Nat) : Prop := (r ≤ i ∧ i < n ∧ x = ds[i]?.getD 0) ∨ (i < j ∧ i < 800 ∧ x = Dg.rdg ds s i + 48)
theorem kr_lt {ds : List Nat} {s n r j i x : Nat} (hn : n ≤ 800) (h : Kr ds s n r j i x) : i < 800 := by
  rcases h with ⟨_, a1, _⟩ | ⟨_, a2, _⟩ <;> omega
theorem kr_put {ds : List Nat} {s n r j : Nat} (hjr : j < r + 1) (i x : Nat) (h : Kr ds s n (r + 1) (j + 1) i x) : (i = j ∧ x = Dg.rdg ds s j + 48) ∨ (i ≠ j ∧ Kr ds s n r j i x) := by
  rcases h with ⟨a1, a2, a3⟩ | ⟨a1, a2, a3⟩
  · exact .inr ⟨by omega, .inl ⟨by omega, a2, a3⟩⟩
  · by_cases e : i = j
    · exact .inl ⟨e, by rw [a3, e]⟩
    · exact .inr ⟨e, .inr ⟨by omega, a2, a3⟩⟩
theorem kr_put2 {ds : List Nat} {s n t : Nat} (i x : Nat) (h : Kr ds s n n (t + 1) i x) : (i = t ∧ x = Dg.rdg ds s t + 48) ∨ (i ≠ t ∧ Kr ds s n n t i x) := by
  rcases h with ⟨a1, a2, a3⟩ | ⟨a1, a2, a3⟩
  · omega
  · by_cases e : i = t
    · exact .inl ⟨e, by rw [a3, e]⟩
    · exact .inr ⟨e, .inr ⟨by omega, a2, a3⟩⟩
theorem kr_skip2 {ds : List Nat} {s n t : Nat} (ht : 800 ≤ t) (i x : Nat) (h : Kr ds s n n (t + 1) i x) : Kr ds s n n t i x := by
  rcases h with ⟨a1, a2, a3⟩ | ⟨a1, a2, a3⟩
  · omega
  · exact .inr ⟨by omega, a2, a3⟩
theorem and_mask (N s : Nat) (hN : N < 18446744073709551616) (hs : s ≤ 60) : bits BinOp.and IntKind.u64 (N : Int) ((2 ^ s - 1 : Nat) : Int) = ((N % 2 ^ s : Nat) : Int) := by
  have h : 2 ^ s ≤ 1152921504606846976 := Nat.pow_le_pow_right (by decide) (show s ≤ 60 from hs)
  rw [bits_and_u64_nat _ _ hN (by omega), Nat.and_two_pow_sub_one_eq_mod]
theorem Dg.trR_le {ds : List Nat} {k : Nat} {tr : Bool} {t : Nat} (h : t ≤ 800) : Dg.trR ds k tr t = tr := by
  induction t with
  | zero => rfl
  | succ t ih =>
    show (if _ then _ else _) = _
    rw [if_neg (by omega)]; exact ih (by omega)
set_option maxRecDepth 100000 in
set_option maxHeartbeats 1000000 in
theorem rs_c (w : World) (k : Nat) (ds : List Nat) (dp : Int) (ng tr : Bool) (s : Nat) (hG : Dg.Gd ds) (h0 : 0 < ds.length) (hs1 : 1 ≤ s) (hs : s ≤ 60) (hd1 : -1099511627776 ≤ dp) (hd2 : dp ≤ 1099511627776) (h : Dc w k ds dp ng tr) :
    Calls Tryz.prog 202 #[.pointer (some ⟨k, 0, none⟩), .int .u64 (s : Int)] w fun e w' => e = .returned (.tuple #[]) ∧ Dc w' k (Dg.rsD ds s) (dp - ((Dg.rs0 ds s : Int) - 1)) ng (Dg.trR ds s tr (Dg.rsJ ds s)) ∧ Fr [k] w w' := by
  have hf := hG.first h0
  obtain ⟨a1, a2, a3, a4⟩ := Dg.rs0_spec hf s hs
  obtain ⟨b1, b2, b3, b4, b5⟩ := Dg.rsJ_spec hG.dg hf s hs
  have a5 := Dg.rem_first hG.dg hf s hs
  obtain ⟨n, hn⟩ : ∃ n, n = ds.length := ⟨_, rfl⟩
  obtain ⟨r0, hr0⟩ : ∃ r0, r0 = Dg.rs0 ds s := ⟨_, rfl⟩
  obtain ⟨J, hJ⟩ : ∃ J, J = Dg.rsJ ds s := ⟨_, rfl⟩
  have hl8 := hG.le
  obtain ⟨M, hM⟩ : ∃ M, M = 2 ^ s := ⟨_, rfl⟩
  have hMb : M ≤ 1152921504606846976 := by rw [hM]; exact Nat.pow_le_pow_right (by decide) (show s ≤ 60 from hs)
  have hM0 : 2 ≤ M := by rw [hM]; exact Nat.le_trans (show 2 ≤ 2 ^ 1 by decide) (Nat.pow_le_pow_right (by decide) hs1)
  have c0 : w.cell? ⟨k, 800, none⟩ = some (.int .i64 (n : Int)) := by rw [hn]; exact h.cells.2.1
  have kl := h.cells.2.2.2.2.2.1
  rw [← hn] at h0 hl8 b1 b3 b4
  rw [← hr0] at a1 a2 a3 a4 a5 b1 b2 b3 ⊢
  rw [← hJ] at b1 b2 b3 b4 b5 ⊢
  have hSM : (2 : Int) ^ s = (M : Int) := by rw [hM]; push_cast; rfl
  rw [← hM] at a1 a2
  have HG := Lib.hid hG
  have HDc := Lib.hid h
  have HN := Lib.hid hn
  have HR0 := Lib.hid hr0
  have HJ := Lib.hid hJ
  have HM := Lib.hid hM
  have A1 := Lib.hid a1
  have A2 := Lib.hid a2
  have A5 := Lib.hid a5
  have B1 := Lib.hid b1
  have B2 := Lib.hid b2
  have B3 := Lib.hid b3
  have HF := Lib.hid hf
  clear hG h hn hr0 hJ hM a1 a2 a5 b1 b2 b3 hf
  go_enter Tryz.func202, Tryz.ntmps202
  go_upto_block 0 with fail
  go_cut [4, 6] from 12 to 48 (fun s4 s6 wx => s4 = .int .i64 (r0 : Int) ∧ s6 = .int .u64 (Dg.pv ds r0 : Int) ∧ w = wx)
  case first =>
    go_wp2_with fail
    go_loopw [4, 6] (fun s4 s6 wr => ∃ r : Nat, r ≤ r0 ∧ r ≤ n ∧ s4 = .int .i64 (r : Int) ∧ s6 = .int .u64 (Dg.pv ds r : Int) ∧ w = wr) (fun a _ _ => r0 - (RowKit.intOf a).toNat)
    case atStart => exact ⟨0, Nat.zero_le _, Nat.zero_le _, rfl, rfl, rfl⟩
    case round =>
      obtain ⟨r, hr, hrn, rfl, rfl, rfl⟩ := hrel
      obtain ⟨N, hN⟩ : ∃ N, N = Dg.pv ds r := ⟨_, rfl⟩
      rw [← hN]
      by_cases h1 : r < r0
      · have hNM : N < M := by rw [hN]; exact A2.out r h1
        have q0 : (N : Int) / (M : Int) = 0 := by exact Int.ediv_eq_zero_of_lt (by omega) (by omega)
        have HNp := Lib.hid hN
        by_cases h2 : r < n
        · have cr : w.cell? ⟨k, r, none⟩ = some (.int .u8 ((Dg.dz ds r + 48 : Nat) : Int)) := by
            rw [HDc.out.cells.1 r (by rw [← HN.out]; exact h2), Dg.dz_in HG.out.dg (by rw [← HN.out]; exact h2)]
          have dz9 := Dg.dz_le HG.out.dg r
          have HS : Hid (Dg.pv ds (r + 1) = N * 10 + Dg.dz ds r) := Lib.hid (by rw [HNp.out]; rfl)
          obtain ⟨e, he⟩ : ∃ e, e = Dg.dz ds r := ⟨_, rfl⟩
          rw [← he] at cr dz9 HS
          obtain ⟨t, ht⟩ : ∃ t, t = N * 10 := ⟨_, rfl⟩
          have w1 : IntKind.u64.wrap ((N : Int) * 10) = (t : Int) := by rw [IntKind.wrap_u64]; omega
          have w2 : IntKind.u64.wrap ((t : Int) + ((e : Int) + 48)) = (t : Int) + ((e : Int) + 48) := by rw [IntKind.wrap_u64]; omega
          have w3 : IntKind.u64.wrap ((t : Int) + ((e : Int) + 48) - 48) = ((t + e : Nat) : Int) := by rw [IntKind.wrap_u64]; omega
          have r8 : r < 800 := by omega
          have HT : Hid (Dg.pv ds (r + 1) = t + e) := Lib.hid (by rw [HS.out, ht])
          clear hN hNM he ht
          go_wp2_with fail
          go_roundw
          case rel => exact ⟨r + 1, h1, h2, by go_num, congrArg (Value.int .u64) (by rw [HT.out]; omega), trivial⟩
          case measure => simp [RowKit.intOf] <;> omega
        · have hrn2 : r = n := by omega
          have np : 0 < N := by
            rw [hN]
            obtain ⟨m, hm⟩ : ∃ m, r = m + 1 := ⟨r - 1, by omega⟩
            rw [hm]
            exact Nat.lt_of_lt_of_le (Nat.pow_pos (by decide)) (Dg.pv_first HF.out m)
          have g0 : ((N : Int) == 0) = false := by rw [beq_eq_false_iff_ne]; omega
          have HRN := Lib.hid hrn2
          clear hN hNM np hrn2
          go_wp2_with fail
          go_loopw [4, 6] (fun s4 s6 wr => ∃ r2 : Nat, r ≤ r2 ∧ r2 ≤ r0 ∧ s4 = .int .i64 (r2 : Int) ∧ s6 = .int .u64 (Dg.pv ds r2 : Int) ∧ w = wr) (fun a _ _ => r0 - (RowKit.intOf a).toNat)
          case atStart => exact ⟨r, Nat.le_refl _, hr, rfl, by rw [HNp.out], rfl⟩
          case round =>
            clear g0 q0 HNp
            obtain ⟨r2, hr1, hr2, rfl, rfl, rfl⟩ := hrel
            obtain ⟨N2, hN⟩ : ∃ N, N = Dg.pv ds r2 := ⟨_, rfl⟩
            rw [← hN]
            by_cases h3 : r2 < r0
            · have hNM : N2 < M := by rw [hN]; exact A2.out r2 h3
              have q0 : (N2 : Int) / (M : Int) = 0 := by exact Int.ediv_eq_zero_of_lt (by omega) (by omega)
              have w1 : IntKind.u64.wrap ((N2 : Int) * 10) = ((N2 * 10 : Nat) : Int) := by rw [IntKind.wrap_u64]; omega
              have HT : Hid (Dg.pv ds (r2 + 1) = N2 * 10) := Lib.hid (by
                show Dg.pv ds r2 * 10 + Dg.dz ds r2 = _
                rw [Dg.dz_out (by rw [← HN.out]; have := HRN.out; omega), hN]; rfl)
              clear hN hNM
              go_wp2_with fail
              go_roundw
              case rel => exact ⟨r2 + 1, by omega, h3, by go_num, congrArg (Value.int .u64) (by rw [HT.out]; omega), trivial⟩
              case measure => simp [RowKit.intOf] <;> omega
            · have hre : r2 = r0 := by omega
              have hNM : M ≤ N2 := by rw [hN, hre]; exact A1.out
              have g0 : ((N2 : Int) / (M : Int) == 0) = false := by
                rw [beq_eq_false_iff_ne]
                have : (1 : Int) ≤ (N2 : Int) / (M : Int) := (Int.le_ediv_iff_mul_le (by omega)).mpr (by omega)
                omega
              have HNp := Lib.hid hN
              have HRE := Lib.hid hre
              clear hN hre h3 hr2 hNM
              go_wp2_with fail
              go_meet
              exact ⟨by rw [HRE.out], by rw [HNp.out, HRE.out], rfl⟩
      · have hre : r = r0 := by omega
        have hNM : M ≤ N := by rw [hN, hre]; exact A1.out
        have g0 : ((N : Int) / (M : Int) == 0) = false := by
          rw [beq_eq_false_iff_ne]
          have : (1 : Int) ≤ (N : Int) / (M : Int) := (Int.le_ediv_iff_mul_le (by omega)).mpr (by omega)
          omega
        have HNp := Lib.hid hN
        have HRE := Lib.hid hre
        clear hN hre h1 hr hNM
        go_wp2_with fail
        go_meet
        exact ⟨by rw [HRE.out], by rw [HNp.out, HRE.out], rfl⟩
  case rest =>
    obtain ⟨rfl, rfl, rfl⟩ := hcut
    obtain ⟨dp1, hdp1⟩ : ∃ dp1 : Int, dp1 = dp - ((r0 : Int) - 1) := ⟨_, rfl⟩
    have e1 : dp - ((r0 : Int) - 1) = dp1 := hdp1.symm
    have c801 : w.cell? ⟨k, 801, none⟩ = some (.int .i64 dp) := HDc.out.cells.2.2.1
    have fz1 := HDc.out.cells.2.2.2.2.2.2 801
    have m1 : IntKind.u64.wrap (M : Int) = (M : Int) := fw_u64 _ (by omega) (by omega)
    have m2 : IntKind.u64.wrap ((M : Int) - 1) = ((M - 1 : Nat) : Int) := by rw [IntKind.wrap_u64]; omega
    have HE1 := Lib.hid hdp1
    have P5 : Hid (Dg.pv ds r0 = Dg.rem ds s (r0 + 0)) := Lib.hid (by rw [Nat.add_zero]; exact A5.out.symm)
    have HD1 : Hid (Dw (w.setCell ⟨k, 801, none⟩ (.int .i64 dp1)) k (Kr ds s n r0 0) n dp1 ng tr) := Lib.hid (by
      have H1 := HDc.out.open.weak (K' := Kr ds s n r0 0) (fun j x hj => by
        rcases hj with ⟨b1, b2, b3⟩ | ⟨b1, b2, b3⟩
        · exact ⟨by rw [← HN.out]; exact b2, b3⟩
        · omega)
      rw [← HN.out] at H1
      exact H1.setDp (fun j x h => kr_lt hl8 h) dp1)
    clear hdp1
    go_wp2_with fail
    go_loopw [4, 5, 6] (fun s4 s5 s6 wr => ∃ j : Nat, j ≤ n - r0 ∧ s4 = .int .i64 ((r0 + j : Nat) : Int) ∧ s5 = .int .i64 (j : Int) ∧ s6 = .int .u64 (Dg.rem ds s (r0 + j) : Int) ∧ Hid (Dw wr k (Kr ds s n (r0 + j) j) n dp1 ng tr) ∧ Hid (Fr [k] w wr)) (fun _ a _ _ => n - (RowKit.intOf a).toNat)
    case atStart => exact ⟨0, Nat.zero_le _, rfl, rfl, by rw [P5.out], HD1, Lib.hid ((Fr.refl _ _).setCell (by simp) _)⟩
    case round =>
      clear HD1 P5
      obtain ⟨j, hj, rfl, rfl, rfl, HI, HFr⟩ := hrel
      obtain ⟨rr, hrr⟩ : ∃ rr, rr = r0 + j := ⟨_, rfl⟩
      have HRR := Lib.hid hrr
      have c0 : wr.cell? ⟨k, 800, none⟩ = some (.int .i64 (n : Int)) := HI.out.cells.2.1
      by_cases h1 : rr < n
      · have cr : wr.cell? ⟨k, rr, none⟩ = some (.int .u8 ((Dg.dz ds rr + 48 : Nat) : Int)) := by
          rw [HI.out.cells.1 rr (ds[rr]?.getD 0) (.inl ⟨by omega, h1, rfl⟩), Dg.dz_in HG.out.dg (by rw [← HN.out]; exact h1)]
        have dz9 := Dg.dz_le HG.out.dg rr
        have hj8 : j < 800 := by omega
        have hNb := Dg.rem_lt ds s (r0 + j)
        rw [← HM.out] at hNb
        obtain ⟨N, hN⟩ : ∃ N, N = Dg.rem ds s (r0 + j) := ⟨_, rfl⟩
        rw [← hN] at hNb ⊢
        obtain ⟨q, hq⟩ : ∃ q, q = N / M := ⟨_, rfl⟩
        obtain ⟨nm, hnm⟩ : ∃ nm, nm = N % M := ⟨_, rfl⟩
        have hqi : (N : Int) / (M : Int) = (q : Int) := by rw [hq]; push_cast; rfl
        have hq9 : q ≤ 9 := by
          have : q < 10 := by rw [hq]; exact Nat.div_lt_of_lt_mul hNb
          omega
        have hnb : nm < M := by rw [hnm]; exact Nat.mod_lt _ (by omega)
        have HQ : Hid (Dg.rdg ds s j = q) := Lib.hid (by unfold Dg.rdg; rw [hq, hN, HM.out, HR0.out])
        have ha : bits BinOp.and IntKind.u64 (N : Int) ((M - 1 : Nat) : Int) = (nm : Int) := by rw [hnm, HM.out]; exact and_mask N s (by omega) hs
        have ha2 : bits BinOp.and IntKind.u64 (N : Int) ((M : Int) - 1) = (nm : Int) := by rw [← ha]; congr 1; omega
        have fr := HI.out.cells.2.2.2.2.2.2.1
        obtain ⟨v7, hv7⟩ : ∃ v7, v7 = nm * 10 := ⟨_, rfl⟩
        have u1 : IntKind.u64.wrap ((nm : Int) * 10) = (v7 : Int) := by rw [IntKind.wrap_u64]; omega
        have u4 : IntKind.u64.wrap ((q : Int) + 48) = (q : Int) + 48 := by rw [IntKind.wrap_u64]; omega
        have u5 : IntKind.u8.wrap ((q : Int) + 48) = ((q + 48 : Nat) : Int) := by rw [IntKind.wrap_u8]; omega
        have HS : Hid (Dg.rem ds s (r0 + (j + 1)) = nm * 10 + Dg.dz ds rr) := Lib.hid (by
          rw [← Nat.add_assoc, Dg.rem_next HG.out.dg, ← hN, ← HM.out, ← hnm, hrr])
        obtain ⟨e, he⟩ : ∃ e, e = Dg.dz ds rr := ⟨_, rfl⟩
        rw [← he] at cr dz9 HS
        have u2 : IntKind.u64.wrap ((v7 : Int) + ((e : Int) + 48)) = (v7 : Int) + ((e : Int) + 48) := by rw [IntKind.wrap_u64]; omega
        have u3 : IntKind.u64.wrap ((v7 : Int) + ((e : Int) + 48) - 48) = ((v7 + e : Nat) : Int) := by rw [IntKind.wrap_u64]; omega
        have u6 : IntKind.u64.wrap ((e : Int) + 48) = (e : Int) + 48 := by rw [IntKind.wrap_u64]; omega
        have r8 : rr < 800 := by omega
        have HS2 : Hid (Dg.rem ds s (r0 + (j + 1)) = v7 + e) := Lib.hid (by rw [HS.out, hv7])
        have fzj := fr j
        obtain ⟨z, _, czj⟩ := HI.out.cells.2.2.2.2.2.2.2 j hj8
        have HJR : Hid (j < rr) := Lib.hid (by omega)
        rw [← hrr]
        clear fr he hN hq hnm hv7 hNb hrr HS
        go_wp2_with fail
        go_roundw
        case rel =>
          refine ⟨j + 1, by have := HRR.out; omega, congrArg (Value.int .i64) (by have := HRR.out; omega), by go_num, congrArg (Value.int .u64) (by rw [HS2.out]; omega), Lib.hid ?_, Lib.hid (HFr.out.setCell (by simp) _)⟩
          rw [← Nat.add_assoc, ← HRR.out]
          have := HI.out
          rw [← HRR.out] at this
          exact this.setDig (i := j) (v := q + 48) hj8 (by omega) (by
            rw [← HQ.out]
            exact kr_put (by have := HJR.out; omega))
        case measure => simp [RowKit.intOf] <;> omega
      · have hjn : j = n - r0 := by omega
        have HI2 : Hid (Dw wr k (Kr ds s n n j) n dp1 ng (Dg.trR ds s tr j)) := Lib.hid (by
          rw [Dg.trR_le (by omega)]
          exact HI.out.weak (fun i x h => by
            rcases h with ⟨b1, b2, b3⟩ | ⟨b1, b2, b3⟩
            · omega
            · exact .inr ⟨b1, b2, b3⟩))
        have HJJ : Hid (j ≤ J) := Lib.hid (by have := B1.out; omega)
        have HNJ : Hid (n ≤ r0 + j) := Lib.hid (by omega)
        have HJ8 : Hid (j ≤ 800) := Lib.hid (by omega)
        rw [← hrr]
        clear hjn HI hj hrr
        go_wp2_with fail
        go_loopg [5, 6] (J - j) (fun g s5 s6 wv => ∃ t : Nat, j ≤ t ∧ t + g = J ∧ s5 = .int .i64 ((min t 800 : Nat) : Int) ∧ s6 = .int .u64 (Dg.rem ds s (r0 + t) : Int) ∧ Hid (Dw wv k (Kr ds s n n t) n dp1 ng (Dg.trR ds s tr t)) ∧ Hid (Fr [k] w wv))
        case atStart =>
          exact ⟨j, Nat.le_refl _, by have := HJJ.out; omega, by rw [Nat.min_eq_left HJ8.out], by rw [HRR.out], HI2, HFr⟩
        case round =>
          clear HI2 HFr c0 h1
          obtain ⟨t, hjt, htg, rfl, rfl, HI, HFr⟩ := hrel
          by_cases h1 : t < J
          · have hn0 := B3.out t h1 (by have := HNJ.out; omega)
            have hNb := Dg.rem_lt ds s (r0 + t)
            rw [← HM.out] at hNb
            obtain ⟨N, hN⟩ : ∃ N, N = Dg.rem ds s (r0 + t) := ⟨_, rfl⟩
            rw [← hN] at hNb ⊢
            obtain ⟨q, hq⟩ : ∃ q, q = N / M := ⟨_, rfl⟩
            obtain ⟨nm, hnm⟩ : ∃ nm, nm = N % M := ⟨_, rfl⟩
            have hqi : (N : Int) / (M : Int) = (q : Int) := by rw [hq]; push_cast; rfl
            have hq9 : q ≤ 9 := by
              have : q < 10 := by rw [hq]; exact Nat.div_lt_of_lt_mul hNb
              omega
            have hnb : nm < M := by rw [hnm]; exact Nat.mod_lt _ (by omega)
            have HQ : Hid (Dg.rdg ds s t = q) := Lib.hid (by unfold Dg.rdg; rw [hq, hN, HM.out, HR0.out])
            have ha : bits BinOp.and IntKind.u64 (N : Int) ((M - 1 : Nat) : Int) = (nm : Int) := by rw [hnm, HM.out]; exact and_mask N s (by omega) hs
            have ha2 : bits BinOp.and IntKind.u64 (N : Int) ((M : Int) - 1) = (nm : Int) := by rw [← ha]; congr 1; omega
            have fr := HI.out.cells.2.2.2.2.2.2.1
            obtain ⟨v7, hv7⟩ : ∃ v7, v7 = nm * 10 := ⟨_, rfl⟩
            have u1 : IntKind.u64.wrap ((nm : Int) * 10) = (v7 : Int) := by rw [IntKind.wrap_u64]; omega
            have u4 : IntKind.u64.wrap ((q : Int) + 48) = (q : Int) + 48 := by rw [IntKind.wrap_u64]; omega
            have u5 : IntKind.u8.wrap ((q : Int) + 48) = ((q + 48 : Nat) : Int) := by rw [IntKind.wrap_u8]; omega
            have hN0 : N ≠ 0 := by rw [hN]; exact hn0
            have hNp : (0 : Int) < (N : Int) := by omega
            have hN0b : ((N : Int) != 0) = true := by rw [bne_iff_ne]; omega
            have HS2 : Hid (Dg.rem ds s (r0 + (t + 1)) = v7) := Lib.hid (by
              rw [← Nat.add_assoc, Dg.rem_next HG.out.dg, ← hN, ← HM.out, ← hnm, Dg.dz_out (by rw [← HN.out]; have := HNJ.out; omega), hv7]; rfl)
            have fz3 := fr 803
            have c3 := HI.out.cells.2.2.2.2.1
            have HTJ : Hid (t < J) := Lib.hid h1
            by_cases h8 : t < 800
            · have HT : Hid (Dg.trR ds s tr (t + 1) = Dg.trR ds s tr t) := Lib.hid (by
                show (if _ then _ else _) = _
                rw [if_neg (by omega)])
              have hm : min t 800 = t := Nat.min_eq_left (by omega)
              rw [hm]
              have fzt := fr t
              obtain ⟨z, _, czt⟩ := HI.out.cells.2.2.2.2.2.2.2 t h8
              clear fr hN hq hnm hv7 hNb hn0 hN0 hm h1
              go_wp2_with fail
              go_roundg (gk - 1)
              case measure => have := HTJ.out; omega
              case rel =>
                refine ⟨t + 1, by omega, by have := HTJ.out; omega, congrArg (Value.int .i64) (by rw [Nat.min_eq_left (by omega)]; omega), by rw [HS2.out], Lib.hid ?_, Lib.hid (HFr.out.setCell (by simp) _)⟩
                rw [HT.out]
                exact HI.out.setDig (i := t) (v := q + 48) h8 (by omega) (by
                  rw [← HQ.out]
                  exact kr_put2)
            · have hm : min t 800 = 800 := Nat.min_eq_right (by omega)
              rw [hm]
              have HM8 : Hid (min (t + 1) 800 = 800) := Lib.hid (Nat.min_eq_right (by omega))
              by_cases h9 : q = 0
              · have HT : Hid (Dg.trR ds s tr (t + 1) = Dg.trR ds s tr t) := Lib.hid (by
                  show (if _ then _ else _) = _
                  rw [if_neg (by rw [HQ.out]; omega)])
                subst h9
                have H8 := Lib.hid h8
                clear fr hN hq hnm hv7 hNb hn0 hN0 hm h1 h8
                go_wp2_with fail
                go_roundg (gk - 1)
                case measure => have := HTJ.out; omega
                case rel =>
                  refine ⟨t + 1, by omega, by have := HTJ.out; omega, by rw [HM8.out], by rw [HS2.out], Lib.hid ?_, HFr⟩
                  rw [HT.out]
                  exact HI.out.weak (kr_skip2 (by have := H8.out; omega))
              · have HT : Hid (Dg.trR ds s tr (t + 1) = true) := Lib.hid (by
                  show (if _ then _ else _) = _
                  rw [if_pos (by rw [HQ.out]; omega)])
                have hq0 : (0 : Int) < (q : Int) := by omega
                have H8 := Lib.hid h8
                clear fr hN hq hnm hv7 hNb hn0 hN0 hm h1 h8 h9
                go_wp2_with fail
                go_roundg (gk - 1)
                case measure => have := HTJ.out; omega
                case rel =>
                  refine ⟨t + 1, by omega, by have := HTJ.out; omega, by rw [HM8.out], by rw [HS2.out], Lib.hid ?_, Lib.hid (HFr.out.setCell (by simp) _)⟩
                  rw [HT.out]
                  exact (HI.out.weak (kr_skip2 (by have := H8.out; omega))).setTr (fun j x h => kr_lt (by omega) h) true
          · have htJ : t = J := by omega
            subst htJ
            have hz := B2.out
            rw [hz]
            obtain ⟨mn, hmn⟩ : ∃ mn, mn = min t 800 := ⟨_, rfl⟩
            rw [← hmn]
            have HMN := Lib.hid hmn
            have HB4 : Hid (mn ≤ t ∧ mn ≤ 800) := Lib.hid (by omega)
            have fz0 := HI.out.cells.2.2.2.2.2.2.1 800
            have c0 : wr.cell? ⟨k, 800, none⟩ = some (.int .i64 (n : Int)) := HI.out.cells.2.1
            have kl2 := HI.out.cells.2.2.2.2.2.1
            have CT := Lib.hid (fun (w1 : World) (h : Dc w1 k (Dg.rdigs ds s mn) dp1 ng (Dg.trR ds s tr t)) => trim_c w1 k _ _ ng _ h)
            have HKL : Hid (∀ j x, Kr ds s n n t j x → j < 800) := Lib.hid (fun j x h => kr_lt hl8 h)
            have HFIN := Lib.hid (Dg.rsD_gd HG.out (by rw [← HN.out]; exact h0) hs).2.2.2
            clear hz hmn h1 htg hjt
            go_wp2_with fail
            refine (CT.out _ ((HI.out.setNd HKL.out mn).shut (by rw [Dg.rdigs_len]) HB4.out.2 (fun j hj => .inr ⟨by have := HB4.out; omega, by have := HB4.out; omega, Dg.rdigs_at _ _ _ _ hj⟩))).mono ?_
            rintro e w9 ⟨rfl, D9, F9⟩
            go_wp2_with fail
            go_end0
            have E1 : Dg.rsD ds s = trimZ (Dg.rdigs ds s mn) := by unfold Dg.rsD; rw [← HJ.out, ← HMN.out]
            have E2 := HFIN.out dp1
            rw [← HJ.out, ← HMN.out] at E2
            rw [E2] at D9
            rw [E1, ← HE1.out]
            exact ⟨rfl, D9, (HFr.out.setCell (by simp) _).same F9⟩
end Go.Proofs.YtcjkgnafpkkjmaaGreatDoor
end
