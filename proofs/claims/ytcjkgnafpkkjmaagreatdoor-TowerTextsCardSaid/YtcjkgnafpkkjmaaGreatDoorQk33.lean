/- The texts and numbers of numbers: a part of the walk. No condition. -/
import Derived.Test.YtcjkgnafpkkjmaaGreatDoorQk32
set_option linter.all false
section
namespace Go.Proofs.YtcjkgnafpkkjmaaGreatDoor
open Go.ChangeShapes Go.WideShapes Go.RowKit Go.Shelf
namespace Sdt
structure Q where
  sd : Bool
  sg : Bool
  ds : List Nat
  dp : Int
  tr : Bool
def Q.step (q : Q) (c : Nat) : Q :=
  if c = 46 then { q with sd := true, dp := q.ds.length }
  else if c = 48 ∧ q.ds.length = 0 then { q with sg := true, dp := q.dp - 1 }
  else if q.ds.length < 800 then { q with sg := true, ds := q.ds ++ [c] }
  else { q with sg := true, tr := q.tr || decide (c ≠ 48) }
def Q.run (f : Nat → Nat) : Nat → Q
  | 0 => ⟨false, false, [], 0, false⟩
  | j + 1 => (Q.run f j).step (f j)
structure Ok (q : Q) (j : Nat) : Prop where
  nd : q.ds.length ≤ j
  d1 : -(j : Int) ≤ q.dp
  d2 : q.dp ≤ (j : Int)
  gd : Dg.Gd q.ds
theorem gd_push {ds : List Nat} (h : Dg.Gd ds) {c : Nat} (hl : ds.length < 800) (hc : 48 ≤ c ∧ c ≤ 57) (h0 : ¬ (c = 48 ∧ ds.length = 0)) : Dg.Gd (ds ++ [c]) := by
  refine ⟨fun d hd => ?_, by simp; omega, fun _ => ?_⟩
  · rcases List.mem_append.1 hd with h1 | h1
    · exact h.dg d h1
    · simp at h1; omega
  · by_cases hp : 0 < ds.length
    · have := h.first hp
      unfold Dg.dz at this ⊢
      rw [List.getElem?_append_left hp]; exact this
    · have e : ds = [] := by cases ds with
        | nil => rfl
        | cons a l => simp at hp
      subst e
      unfold Dg.dz
      simp at h0 ⊢
      omega
theorem Ok.step {q : Q} {j c : Nat} (h : Ok q j) (hc : c = 46 ∨ (48 ≤ c ∧ c ≤ 57)) : Ok (q.step c) (j + 1) := by
  have h1 := h.nd
  have h4 := h.d1
  have h5 := h.d2
  unfold Q.step
  split
  · exact ⟨by simp only; omega, by simp only; omega, by simp only; omega, h.gd⟩
  · split
    · exact ⟨by simp only; omega, by simp only; omega, by simp only; omega, h.gd⟩
    · split
      · exact ⟨by simp; omega, by simp only; omega, by simp only; omega, gd_push h.gd (by assumption) (by omega) (by assumption)⟩
      · exact ⟨by simp only; omega, by simp only; omega, by simp only; omega, h.gd⟩
theorem ok_run {f : Nat → Nat} {m : Nat} (hf : ∀ j, j < m → f j = 46 ∨ (48 ≤ f j ∧ f j ≤ 57)) : ∀ j, j ≤ m → Ok (Q.run f j) j := by
  intro j
  induction j with
  | zero => exact fun _ => ⟨Nat.le_refl _, by simp [Q.run], by simp [Q.run], ⟨fun d hd => absurd hd (by simp [Q.run]), by simp [Q.run], fun h => absurd h (by simp [Q.run])⟩⟩
  | succ j ih => exact fun hj => (ih (by omega)).step (hf j (by omega))
theorem sd_some {f : Nat → Nat} : ∀ j, (Q.run f j).sd = true → ∃ i, i < j ∧ f i = 46 := by
  intro j
  induction j with
  | zero => intro h; simp [Q.run] at h
  | succ j ih =>
    intro h
    by_cases e : f j = 46
    · exact ⟨j, by omega, e⟩
    · have h2 : (Q.run f j).sd = true := by
        unfold Q.run Q.step at h
        rw [if_neg e] at h
        split at h
        · exact h
        · split at h <;> exact h
      obtain ⟨i, h3, h4⟩ := ih h2
      exact ⟨i, by omega, h4⟩
theorem sd_run {f : Nat → Nat} {m : Nat} (h : ∀ j k, j < k → k < m → f k = 46 → f j ≠ 46) : ∀ j, j < m → f j = 46 → (Q.run f j).sd = false := by
  intro j hj e
  cases hq : (Q.run f j).sd with
  | false => rfl
  | true =>
    obtain ⟨i, h1, h2⟩ := sd_some j hq
    exact absurd h2 (h i j h1 hj e)
theorem sg_step {q : Q} {c : Nat} (h : q.sg = true ∨ c ≠ 46) : (q.step c).sg = true := by
  unfold Q.step
  split
  · rename_i e
    rcases h with h | h
    · exact h
    · exact absurd e h
  · split
    · rfl
    · split <;> rfl
theorem sg_some {f : Nat → Nat} {i : Nat} (h : f i ≠ 46) : ∀ j, i < j → (Q.run f j).sg = true := by
  intro j
  induction j with
  | zero => intro h; omega
  | succ j ih =>
    intro hj
    show ((Q.run f j).step (f j)).sg = true
    by_cases e : i = j
    · subst e; exact sg_step (.inr h)
    · exact sg_step (.inl (ih (by omega)))
end Sdt
theorem Dc.setNg {w : World} {k : Nat} {ds : List Nat} {dp : Int} {ng tr : Bool} (h : Dc w k ds dp ng tr) (b : Bool) : Dc (w.setCell ⟨k, 802, none⟩ (.bool b)) k ds dp b tr := by
  have hl : ds.length ≤ 800 := by obtain ⟨_, _, h2⟩ := h; exact h2.len
  exact (h.open.setNg (fun j x hj => by omega) b).shut rfl hl (fun j hj => ⟨hj, rfl⟩)
theorem Dc.setTr {w : World} {k : Nat} {ds : List Nat} {dp : Int} {ng tr : Bool} (h : Dc w k ds dp ng tr) (b : Bool) : Dc (w.setCell ⟨k, 803, none⟩ (.bool b)) k ds dp ng b := by
  have hl : ds.length ≤ 800 := by obtain ⟨_, _, h2⟩ := h; exact h2.len
  exact (h.open.setTr (fun j x hj => by omega) b).shut rfl hl (fun j hj => ⟨hj, rfl⟩)
theorem Dc.push {w : World} {k : Nat} {ds : List Nat} {dp : Int} {ng tr : Bool} (h : Dc w k ds dp ng tr) {c n : Nat} (hn : n = ds.length) (hl : n < 800) (hc : c < 256) : Dc ((w.setCell ⟨k, n, none⟩ (.int .u8 (c : Int))).setCell ⟨k, 800, none⟩ (.int .i64 ((n + 1 : Nat) : Int))) k (ds ++ [c]) dp ng tr := by
  subst hn
  have H := h.open.setDig (K' := fun j x => j < ds.length + 1 ∧ x = (ds ++ [c])[j]?.getD 0) (i := ds.length) (v := c) hl hc (fun j x hj => by
    by_cases e : j = ds.length
    · left; refine ⟨e, ?_⟩; rw [hj.2, e]; simp
    · right; refine ⟨e, by omega, ?_⟩; rw [hj.2, List.getElem?_append_left (by omega)])
  exact (H.setNd (fun j x hj => by omega) (ds.length + 1)).shut (by simp) (by omega) (fun j hj => ⟨hj, rfl⟩)
theorem dec_zero : Tryz.zeroCells174.toList = List.replicate 800 (.int .u8 0) ++ [.int .i64 0, .int .i64 0, .bool false, .bool false] := by kernel_rfl
theorem dc_zero {w : World} {k : Nat} (h : blk w k = some (.cells Tryz.zeroCells174 174 (0, 0))) : Dc w k [] 0 false false := by
  have e : ∀ i, Tryz.zeroCells174[i]? = (List.replicate 800 (Value.int .u8 0) ++ [.int .i64 0, .int .i64 0, .bool false, .bool false])[i]? := fun i => by rw [← dec_zero, Array.getElem?_toList]
  have key : ∀ n (l : List Value) j, (List.replicate n (Value.int .u8 0) ++ l)[n + j]? = l[j]? := fun n l j => by
    rw [List.getElem?_append_right (by simp)]; simp
  refine ⟨_, h, ⟨?_, by simp, fun i hi => absurd hi (by simp), fun i hi => ⟨0, by decide, ?_⟩, ?_, ?_, ?_, ?_⟩⟩
  · rw [← Array.length_toList, dec_zero, List.length_append, List.length_replicate]; rfl
  · rw [e, List.getElem?_append_left (by rw [List.length_replicate]; exact hi), List.getElem?_replicate, if_pos hi]; rfl
  · rw [e, show (800 : Nat) = 800 + 0 from rfl, key]; rfl
  · rw [e, show (801 : Nat) = 800 + 1 from rfl, key]; rfl
  · rw [e, show (802 : Nat) = 800 + 2 from rfl, key]; rfl
  · rw [e, show (803 : Nat) = 800 + 3 from rfl, key]; rfl
end Go.Proofs.YtcjkgnafpkkjmaaGreatDoor
end
section
namespace Go.Proofs.YtcjkgnafpkkjmaaGreatDoor
open Go.ChangeShapes Go.WideShapes Go.RowKit Go.Shelf
set_option maxRecDepth 100000 in
set_option maxHeartbeats 4000000 in
theorem dset_c (l : List UInt8) (a m x y : Nat) (hS : Rdf.Shp (Rdf.bt l) l.length a m x y) (hl : l.length ≤ 800) : ∃ (ds : List Nat) (dp : Int) (neg tr : Bool), Dg.Gd ds ∧ -12000 ≤ dp ∧ dp ≤ 12000 ∧ ∀ (w : World) (k : Nat), blk w k = some (.cells Tryz.zeroCells174 174 (0, 0)) → Calls Tryz.prog 180 #[.pointer (some ⟨k, 0, none⟩), .string (ba l)] w fun e w' => e = .returned (.bool true) ∧ Dc w' k ds dp neg tr ∧ Fr [k] w w' := by
  obtain ⟨bt, hbt⟩ : ∃ bt : Nat → Nat, bt = Rdf.bt l := ⟨_, rfl⟩
  rw [← hbt] at hS
  have SI : ∀ (i : Nat), i < l.length → ∀ W : World, (Instr.index 9 (.string (ba l)) (.int .i64 (i : Int))).run Tryz.prog W = .ok (.int .u8 (bt i : Int)) W := fun i hi W => by rw [hbt]; exact run_str_at l i hi W
  have BB : ∀ i, bt i < 256 := fun i => by rw [hbt]; exact UInt8.toNat_lt _
  have hsz := ba_size l
  obtain ⟨n, hn⟩ : ∃ n, n = l.length := ⟨_, rfl⟩
  rw [← hn] at hS SI hsz hl
  generalize ba l = S at *
  clear hbt hn
  have n_eq := hS.n_eq
  have a1 := hS.a1
  have m1 := hS.m1
  obtain ⟨f, hf⟩ : ∃ f : Nat → Nat, f = fun j => bt (a + j) := ⟨_, rfl⟩
  have fb : ∀ j, j < m → f j = 46 ∨ (48 ≤ f j ∧ f j ≤ 57) := fun j hj => by rw [hf]; exact hS.mb j hj
  have OK := Lib.hid (Sdt.ok_run fb)
  have SD := Lib.hid (Sdt.sd_run (f := f) (m := m) (fun j k h1 h2 h3 => by rw [hf] at h3 ⊢; exact hS.one j k h1 h2 h3))
  have SGM : (Sdt.Q.run f m).sg = true := by
    obtain ⟨i, h1, h2⟩ := hS.dg
    exact Sdt.sg_some (i := i) (by rw [hf]; exact h2) m h1
  have HE0 := Lib.hid hS.e0
  have HS1 := Lib.hid hS.s1
  obtain ⟨neg, hneg⟩ : ∃ neg : Bool, neg = decide (bt 0 = 45) := ⟨_, rfl⟩
  obtain ⟨q, hq⟩ : ∃ q, q = Sdt.Q.run f m := ⟨_, rfl⟩
  have OKM := OK.out m (Nat.le_refl _)
  rw [← hq] at OKM SGM
  obtain ⟨o1, o2, o3, o4⟩ := OKM
  obtain ⟨dp1, hdp1⟩ : ∃ dp1 : Int, dp1 = if q.sd then q.dp else (q.ds.length : Int) := ⟨_, rfl⟩
  have hdp1b : -800 ≤ dp1 ∧ dp1 ≤ 800 := by rw [hdp1]; split <;> omega
  obtain ⟨es, hes⟩ : ∃ es : Int, es = if y = 1 ∧ bt (a + m + 1) = 45 then -1 else 1 := ⟨_, rfl⟩
  obtain ⟨K, hK⟩ : ∃ K : Nat, K = if x = 0 then 0 else n - (a + m + 1 + y) := ⟨_, rfl⟩
  obtain ⟨g, hg⟩ : ∃ g : Nat → Nat, g = fun k => bt (a + m + 1 + y + k) := ⟨_, rfl⟩
  have hK4 : K ≤ 4 := by
    rw [hK]; split
    · omega
    · rcases HE0.out with h | h
      · omega
      · omega
  have gb : ∀ k, k < K → 48 ≤ g k ∧ g k ≤ 57 := fun k hk => by
    rw [hg]
    rcases HE0.out with h | h
    · rw [hK, if_pos h] at hk; omega
    · rw [hK] at hk
      split at hk
      · omega
      · exact h.2.2.2.2.2 _ (by omega) (by omega)
  have EL := Rdf.expN_lt gb
  have ELK := EL K (Nat.le_refl _)
  have ELb : Rdf.expN g K < 10000 := Nat.lt_of_lt_of_le ELK (Nat.le_trans (Nat.pow_le_pow_right (by decide) hK4) (by decide))
  obtain ⟨dp2, hdp2⟩ : ∃ dp2 : Int, dp2 = dp1 + (Rdf.expN g K : Int) * es := ⟨_, rfl⟩
  have hdp2b : -10800 ≤ dp2 ∧ dp2 ≤ 10800 := by
    rw [hdp2, hes]; split <;> omega
  refine ⟨q.ds, dp2, neg, q.tr, o4, by omega, by omega, fun w k hB => ?_⟩
  have D0 := Lib.hid (dc_zero hB)
  have HSI := Lib.hid SI
  have HFB := Lib.hid fb
  have HF := Lib.hid hf
  have HBB := Lib.hid BB
  have HNEG := Lib.hid hneg
  have HQ := Lib.hid hq
  have HDP1 := Lib.hid hdp1
  have HDP2 := Lib.hid hdp2
  have HES := Lib.hid hes
  have HK := Lib.hid hK
  have HG := Lib.hid hg
  have HGB := Lib.hid gb
  have HEL := Lib.hid EL
  clear SI fb hf BB hS hneg hq hdp1 hdp2 hes hK hg gb EL ELK o2 o3 hB
  obtain ⟨c0, hc0⟩ : ∃ c0, c0 = bt 0 := ⟨_, rfl⟩
  have HNE := Lib.hid n_eq
  have hnp : 0 < n := by omega
  have ham : a + m ≤ n := by omega
  have I0 : ∀ W : World, (Instr.index 9 (.string S) (.int .i64 0)).run Tryz.prog W = .ok (.int .u8 (c0 : Int)) W := fun W => by rw [hc0]; exact HSI.out 0 hnp W
  clear n_eq
  have HC0 := Lib.hid hc0
  have hc0b := HBB.out 0
  rw [← hc0] at hc0b
  clear hc0
  have dn0 : decide (n = 0) = false := decide_eq_false (by omega)
  have k2 : w.cell? ⟨k, 802, none⟩ = some (.bool false) := D0.out.cells.2.2.2.1
  have k3 : w.cell? ⟨k, 803, none⟩ = some (.bool false) := D0.out.cells.2.2.2.2.1
  have kl : k < w.heap.size := D0.out.cells.2.2.2.2.2.1
  have f2 := D0.out.cells.2.2.2.2.2.2 802
  have f3 := D0.out.cells.2.2.2.2.2.2 803
  have D1 : Hid (Dc ((w.setCell ⟨k, 802, none⟩ (.bool false)).setCell ⟨k, 803, none⟩ (.bool false)) k [] 0 false false) := Lib.hid ((D0.out.setNg false).setTr false)
  have F1 : Hid (Fr [k] w ((w.setCell ⟨k, 802, none⟩ (.bool false)).setCell ⟨k, 803, none⟩ (.bool false))) := Lib.hid (((Fr.refl _ _).setCell (by simp) _).setCell (by simp) _)
  go_enter Tryz.func180, Tryz.ntmps180
  go_upto_block 0 with fail
  go_cut [5] from 22 to 33 (fun s5 wx => s5 = .int .i64 (a : Int) ∧ Hid (Dc wx k [] 0 neg false) ∧ Hid (Fr [k] w wx))
  case first =>
    by_cases ha : a = 1
    · have h1 := HS1.out ha
      rw [← HC0.out] at h1
      have HA : Hid (a = 1) := Lib.hid ha
      by_cases h43 : c0 = 43
      · have HN : Hid (neg = false) := Lib.hid (by rw [HNEG.out, ← HC0.out, h43]; rfl)
        clear h1 ha
        subst h43
        go_wp2_with fail
        go_meet
        exact ⟨by rw [HA.out]; rfl, by rw [HN.out]; exact D1, F1⟩
      · have h45 : c0 = 45 := by omega
        have HN : Hid (neg = true) := Lib.hid (by rw [HNEG.out, ← HC0.out, h45]; rfl)
        clear h1 ha h43
        subst h45
        go_wp2_with fail
        go_meet
        exact ⟨by rw [HA.out]; rfl, by rw [HN.out]; exact Lib.hid (D1.out.setNg true), Lib.hid (F1.out.setCell (by simp) _)⟩
    · have ha0 : a = 0 := by omega
      have h0 := HFB.out 0 (by omega)
      have hf0 : f 0 = c0 := by rw [HF.out, HC0.out]; simp [ha0]
      rw [hf0] at h0
      have HN : Hid (neg = false) := Lib.hid (by rw [HNEG.out, ← HC0.out]; exact decide_eq_false (by omega))
      have HA : Hid (a = 0) := Lib.hid ha0
      have g43 : ((c0 : Int) == 43) = false := by rw [beq_eq_false_iff_ne]; omega
      have g45 : ((c0 : Int) == 45) = false := by rw [beq_eq_false_iff_ne]; omega
      clear ha ha0 h0 hf0
      go_wp2_with fail
      go_meet
      exact ⟨by rw [HA.out]; rfl, by rw [HN.out]; exact D1, F1⟩
  case rest =>
    obtain ⟨rfl, D2, F2⟩ := hcut
    clear I0 k2 k3 kl f2 f3 D0 D1 F1
    go_upto_block 1 with fail
    go_cut [5, 6, 7] from 34 to 116 (fun s5 s6 s7 wx => s5 = .int .i64 ((a + m : Nat) : Int) ∧ s6 = .bool q.sd ∧ s7 = .bool true ∧ Hid (Dc wx k q.ds q.dp neg q.tr) ∧ Hid (Fr [k] w wx))
    case first =>
      go_wp2_with fail
      go_loopw [5, 6, 7] (fun s5 s6 s7 wr => ∃ (j : Nat) (sd sg : Bool) (ds : List Nat) (dp : Int) (tr : Bool), j ≤ m ∧ s5 = .int .i64 ((a + j : Nat) : Int) ∧ s6 = .bool sd ∧ s7 = .bool sg ∧ Hid (Sdt.Q.run f j = ⟨sd, sg, ds, dp, tr⟩) ∧ Hid (Dc wr k ds dp neg tr) ∧ Hid (Fr [k] w wr)) (fun s5 _ _ _ => a + m - (RowKit.intOf s5).toNat)
      case atStart => exact ⟨0, false, false, [], 0, false, Nat.zero_le _, rfl, rfl, rfl, Lib.hid rfl, D2, F2⟩
      case round =>
        obtain ⟨j, sd, sg, ds, dp, tr, hj, rfl, rfl, rfl, HR, HD, FW⟩ := hrel
        by_cases hlt : j < m
        · have hin : a + j < n := by omega
          have IJ := HSI.out (a + j) hin
          have hfj : f j = bt (a + j) := by rw [HF.out]
          rw [← hfj] at IJ
          have hfc := HFB.out j hlt
          have HST : Hid (Sdt.Q.run f (j + 1) = (⟨sd, sg, ds, dp, tr⟩ : Sdt.Q).step (f j)) := Lib.hid (by rw [← HR.out]; rfl)
          have HOK := OK.out j (by omega)
          rw [HR.out] at HOK
          have q1 : ds.length ≤ j := HOK.nd
          have q4 : -(j : Int) ≤ dp := HOK.d1
          have q5 : dp ≤ (j : Int) := HOK.d2
          have q6 : ds.length ≤ 800 := HOK.gd.le
          have HSD : Hid (f j = 46 → sd = false) := Lib.hid (fun h => by have := SD.out j hlt h; rw [HR.out] at this; exact this)
          obtain ⟨ij, hij⟩ : ∃ ij : Nat, ij = a + j := ⟨_, rfl⟩
          rw [← hij] at IJ hin ⊢
          have HIJ := Lib.hid hij
          generalize f j = c at IJ hfc HST HSD
          obtain ⟨nd, hnd⟩ : ∃ nd, nd = ds.length := ⟨_, rfl⟩
          have HND := Lib.hid hnd
          have c0 : wr.cell? ⟨k, 800, none⟩ = some (.int .i64 (nd : Int)) := by rw [hnd]; exact HD.out.cells.2.1
          have c1 : wr.cell? ⟨k, 801, none⟩ = some (.int .i64 dp) := HD.out.cells.2.2.1
          have c3 : wr.cell? ⟨k, 803, none⟩ = some (.bool tr) := HD.out.cells.2.2.2.2.1
          have kl : k < wr.heap.size := HD.out.cells.2.2.2.2.2.1
          have fz0 := HD.out.cells.2.2.2.2.2.2 800
          have fz1 := HD.out.cells.2.2.2.2.2.2 801
          have fz3 := HD.out.cells.2.2.2.2.2.2 803
          have fzn := HD.out.cells.2.2.2.2.2.2 nd
          rw [← hnd] at q1 q6
          clear hfj HOK HR hij hnd
          by_cases hc : c = 46
          · have hsd := HSD.out hc
            have H9 : Hid (Sdt.Q.run f (j + 1) = ⟨true, sg, ds, (nd : Int), tr⟩) := Lib.hid (by rw [HST.out]; unfold Sdt.Q.step; rw [if_pos hc, HND.out])
            have HD9 : Hid (Dc (wr.setCell ⟨k, 801, none⟩ (.int .i64 (nd : Int))) k ds (nd : Int) neg tr) := Lib.hid (HD.out.setDp _)
            subst hc
            subst hsd
            clear HST HSD hfc
            go_wp2_with fail
            go_roundw
            case rel => exact ⟨j + 1, true, sg, ds, (nd : Int), tr, by omega, congrArg (Value.int .i64) (by have := HIJ.out; omega), rfl, rfl, H9, HD9, Lib.hid (FW.out.setCell (by simp) _)⟩
            case measure => have := HIJ.out; simp [RowKit.intOf] <;> omega
          · have hd1 : (48 : Int) ≤ (c : Int) := by omega
            have hd2 : (c : Int) ≤ 57 := by omega
            have g95 : ((c : Int) == 95) = false := by rw [beq_eq_false_iff_ne]; omega
            have g46 : ((c : Int) == 46) = false := by rw [beq_eq_false_iff_ne]; omega
            by_cases h48 : c = 48 ∧ nd = 0
            · have H9 : Hid (Sdt.Q.run f (j + 1) = ⟨sd, true, ds, dp - 1, tr⟩) := Lib.hid (by rw [HST.out]; unfold Sdt.Q.step; rw [if_neg hc, if_pos (by rw [HND.out] at h48; exact h48)])
              have HD9 : Hid (Dc (wr.setCell ⟨k, 801, none⟩ (.int .i64 (dp - 1))) k ds (dp - 1) neg tr) := Lib.hid (HD.out.setDp _)
              have c48 : ((c : Int) == 48) = true := by simpa using (show (c : Int) = 48 by omega)
              have n0 : ((nd : Int) == 0) = true := by simpa using (show (nd : Int) = 0 by omega)
              clear HST HSD hfc hc h48
              go_wp2_with fail
              go_roundw
              case rel => exact ⟨j + 1, sd, true, ds, dp - 1, tr, by omega, congrArg (Value.int .i64) (by have := HIJ.out; omega), rfl, rfl, H9, HD9, Lib.hid (FW.out.setCell (by simp) _)⟩
              case measure => have := HIJ.out; simp [RowKit.intOf] <;> omega
            · have h48l : ¬ (c = 48 ∧ ds.length = 0) := by rw [← HND.out]; exact h48
              by_cases h19 : nd < 800
              · have H9 : Hid (Sdt.Q.run f (j + 1) = ⟨sd, true, ds ++ [c], dp, tr⟩) := Lib.hid (by rw [HST.out]; unfold Sdt.Q.step; rw [if_neg hc, if_neg h48l, if_pos (by rw [← HND.out]; exact h19)])
                have HD9 : Hid (Dc ((wr.drew.setCell ⟨k, nd, none⟩ (.int .u8 (c : Int))).setCell ⟨k, 800, none⟩ (.int .i64 ((nd + 1 : Nat) : Int))) k (ds ++ [c]) dp neg tr) := Lib.hid (HD.out.drew.push HND.out h19 (by omega))
                have HF9 : Hid (Fr [k] w ((wr.drew.setCell ⟨k, nd, none⟩ (.int .u8 (c : Int))).setCell ⟨k, 800, none⟩ (.int .i64 ((nd + 1 : Nat) : Int)))) := Lib.hid ((FW.out.drew.setCell (by simp) _).setCell (by simp) _)
                have cn : ∃ v, wr.cell? ⟨k, nd, none⟩ = some (.int .u8 v) := by
                  obtain ⟨z, _, e⟩ := HD.out.open.cells.2.2.2.2.2.2.2 nd h19
                  exact ⟨_, e⟩
                obtain ⟨v, cn⟩ := cn
                have hnd1 : ((nd + 1 : Nat) : Int) = (nd : Int) + 1 := by omega
                rw [hnd1] at HD9 HF9
                have nz : (0 : Int) ≤ (nd : Int) := by omega
                have n8 : (nd : Int) < 800 := by omega
                clear HST HSD hfc hc h48l hnd1
                by_cases e : c = 48
                · have c48 : ((c : Int) == 48) = true := by simpa using (show (c : Int) = 48 by omega)
                  have n0 : ((nd : Int) == 0) = false := by rw [beq_eq_false_iff_ne]; omega
                  clear e h48
                  go_wp2_with fail
                  go_region
                  all_goals
                    go_wp2_with fail
                    go_roundw
                    case rel => exact ⟨j + 1, sd, true, ds ++ [c], dp, tr, by omega, congrArg (Value.int .i64) (by have := HIJ.out; omega), rfl, rfl, H9, HD9, HF9⟩
                    case measure => have := HIJ.out; simp [RowKit.intOf] <;> omega
                · have c48 : ((c : Int) == 48) = false := by rw [beq_eq_false_iff_ne]; omega
                  clear e h48
                  go_wp2_with fail
                  go_region
                  all_goals
                    go_wp2_with fail
                    go_roundw
                    case rel => exact ⟨j + 1, sd, true, ds ++ [c], dp, tr, by omega, congrArg (Value.int .i64) (by have := HIJ.out; omega), rfl, rfl, H9, HD9, HF9⟩
                    case measure => have := HIJ.out; simp [RowKit.intOf] <;> omega
              · have H9 : Hid (Sdt.Q.run f (j + 1) = ⟨sd, true, ds, dp, tr || decide (c ≠ 48)⟩) := Lib.hid (by rw [HST.out]; unfold Sdt.Q.step; rw [if_neg hc, if_neg h48l, if_neg (by rw [← HND.out]; exact h19)])
                have n0 : ((nd : Int) == 0) = false := by rw [beq_eq_false_iff_ne]; omega
                have g8 : ¬ (nd : Int) < 800 := by omega
                clear HST HSD hfc hc h48l q6 h19 fzn q1
                by_cases e : c = 48
                · have c48 : ((c : Int) == 48) = true := by simpa using (show (c : Int) = 48 by omega)
                  have cne : ((c : Int) != 48) = false := by rw [bne, c48]; rfl
                  have H9 := Lib.hid H9.out
                  rw [decide_eq_false (by omega : ¬ c ≠ 48), Bool.or_false] at H9
                  clear e h48
                  go_wp2_with fail
                  go_roundw
                  case rel => exact ⟨j + 1, sd, true, ds, dp, tr, by omega, congrArg (Value.int .i64) (by have := HIJ.out; omega), rfl, rfl, H9, HD, FW⟩
                  case measure => have := HIJ.out; simp [RowKit.intOf] <;> omega
                · have c48 : ((c : Int) == 48) = false := by rw [beq_eq_false_iff_ne]; omega
                  have cne : ((c : Int) != 48) = true := by rw [bne, c48]; rfl
                  rw [decide_eq_true (by omega : c ≠ 48), Bool.or_true] at H9
                  clear e h48
                  go_wp2_with fail
                  go_roundw
                  case rel => exact ⟨j + 1, sd, true, ds, dp, true, by omega, congrArg (Value.int .i64) (by have := HIJ.out; omega), rfl, rfl, H9, Lib.hid (HD.out.setTr true), Lib.hid (FW.out.setCell (by simp) _)⟩
                  case measure => have := HIJ.out; simp [RowKit.intOf] <;> omega
        · have hjm : j = m := by omega
          have HJM := Lib.hid hjm
          have hqe : (⟨sd, sg, ds, dp, tr⟩ : Sdt.Q) = q := by rw [HQ.out, ← HR.out, hjm]
          have Q1 : Hid (q.sd = sd ∧ q.sg = sg) := Lib.hid (by rw [← hqe]; exact ⟨rfl, rfl⟩)
          have HDQ : Hid (Dc wr k q.ds q.dp neg q.tr) := Lib.hid (by rw [← hqe]; exact HD.out)
          have HSG := Lib.hid SGM
          clear hqe HR hlt
          by_cases hx : x = 0
          · have hne : ((a + j : Nat) : Int) = (n : Int) := by have := HNE.out; omega
            clear hjm
            go_wp2_with fail
            go_meet
            exact ⟨by rw [HJM.out], by rw [Q1.out.1], by rw [← HSG.out, Q1.out.2], HDQ, FW⟩
          · have hin : a + j < n := by have := HNE.out; omega
            have IJ := HSI.out (a + j) hin
            have hc : bt (a + j) = 69 ∨ bt (a + j) = 101 := by
              rcases HE0.out with h | h
              · exact absurd h hx
              · rw [hjm]; exact h.1
            generalize bt (a + j) = c at IJ hc
            obtain ⟨ij, hij⟩ : ∃ ij : Nat, ij = a + j := ⟨_, rfl⟩
            have HIJ := Lib.hid hij
            rw [← hij] at IJ hin ⊢
            have g95 : ((c : Int) == 95) = false := by rw [beq_eq_false_iff_ne]; omega
            have g46 : ((c : Int) == 46) = false := by rw [beq_eq_false_iff_ne]; omega
            have g57 : ¬ (c : Int) ≤ 57 := by omega
            have g48 : (48 : Int) ≤ (c : Int) := by omega
            clear hjm hc hij hx
            go_wp2_with fail
            go_meet
            exact ⟨by rw [HIJ.out, HJM.out], by rw [Q1.out.1], by rw [← HSG.out, Q1.out.2], HDQ, FW⟩
    case rest =>
      obtain ⟨rfl, rfl, rfl, D3, F3⟩ := hcut
      clear OK SD SGM D2 F2
      obtain ⟨i1, hi1⟩ : ∃ i1 : Nat, i1 = a + m := ⟨_, rfl⟩
      have HI1 := Lib.hid hi1
      rw [← hi1] at ham ⊢
      clear hi1
      obtain ⟨qs, hqs⟩ : ∃ qs, qs = q.sd := ⟨_, rfl⟩
      obtain ⟨qd, hqd⟩ : ∃ qd, qd = q.ds := ⟨_, rfl⟩
      obtain ⟨qp, hqp⟩ : ∃ qp, qp = q.dp := ⟨_, rfl⟩
      obtain ⟨qt, hqt⟩ : ∃ qt, qt = q.tr := ⟨_, rfl⟩
      have HD1 : Hid (dp1 = if qs then qp else (qd.length : Int)) := Lib.hid (by rw [hqs, hqd, hqp]; exact HDP1.out)
      rw [← hqs]
      rw [← hqd, ← hqp, ← hqt] at D3
      have HQD := Lib.hid hqd
      have HQT := Lib.hid hqt
      clear hqs hqd hqp hqt HDP1 HQ
      have c0 : wc.cell? ⟨k, 800, none⟩ = some (.int .i64 (qd.length : Int)) := D3.out.cells.2.1
      have c1 : wc.cell? ⟨k, 801, none⟩ = some (.int .i64 qp) := D3.out.cells.2.2.1
      have kl : k < wc.heap.size := D3.out.cells.2.2.2.2.2.1
      have fz1 := D3.out.cells.2.2.2.2.2.2 801
      obtain ⟨nd, hnd⟩ : ∃ nd, nd = qd.length := ⟨_, rfl⟩
      have HND := Lib.hid hnd
      rw [← hnd] at c0
      clear hnd
      go_upto_if 120 with fail
      go_cut [] from 121 to 127 (fun wx => Hid (Dc wx k qd dp1 neg qt) ∧ Hid (Fr [k] wc wx))
      case first =>
        cases qs
        · have H : Hid (dp1 = (nd : Int)) := Lib.hid (by rw [HD1.out, HND.out]; rfl)
          go_wp2_with fail
          go_meet
          exact ⟨by rw [H.out]; exact Lib.hid (D3.out.setDp _), Lib.hid ((Fr.refl _ _).setCell (by simp) _)⟩
        · have H : Hid (dp1 = qp) := Lib.hid (by rw [HD1.out]; rfl)
          go_wp2_with fail
          go_meet
          exact ⟨by rw [H.out]; exact D3, Lib.hid (Fr.refl _ _)⟩
      case rest =>
        obtain ⟨D4, F4⟩ := hcut
        have F5 := Lib.hid (F3.out.same F4.out)
        clear D3 F3 F4 c0 c1 kl fz1 HD1 HND
        have c1 : wc.cell? ⟨k, 801, none⟩ = some (.int .i64 dp1) := D4.out.cells.2.2.1
        have kl : k < wc.heap.size := D4.out.cells.2.2.2.2.2.1
        have fz1 := D4.out.cells.2.2.2.2.2.2 801
        obtain ⟨xb, hxb⟩ : ∃ xb : Bool, xb = decide (x ≠ 0) := ⟨_, rfl⟩
        have HXB := Lib.hid hxb
        clear hxb
        go_upto_region 32 with fail
        go_cut [138] from 128 to 137 (fun s138 wx => s138 = .bool xb ∧ wc = wx)
        case first =>
          by_cases hx : x = 0
          · have HB : Hid (xb = false) := Lib.hid (by rw [HXB.out]; exact decide_eq_false (fun h => h hx))
            have hlt : ¬ (i1 : Int) < (n : Int) := by have := HNE.out; have := HI1.out; omega
            clear hx
            go_wp2_with fail
            go_meet
            exact ⟨by rw [HB.out], rfl⟩
          · have HB : Hid (xb = true) := Lib.hid (by rw [HXB.out]; exact decide_eq_true hx)
            have hin : i1 < n := by have := HNE.out; have := HI1.out; omega
            have IJ := HSI.out i1 hin
            have hc : bt i1 = 69 ∨ bt i1 = 101 := by
              rcases HE0.out with h | h
              · exact absurd h hx
              · rw [HI1.out]; exact h.1
            generalize bt i1 = c at IJ hc
            have O := or32_e c hc
            have CL := Lib.hid (fun w1 => by have := Tryz.internal_strconv_lower (c : Int) w1; rw [O] at this; exact this)
            clear hx hc O
            go_wp2_with fail
            refine (CL.out _).mono ?_
            rintro e w' ⟨rfl, rfl⟩
            go_wp2_with fail
            go_meet
            exact ⟨by rw [HB.out], rfl⟩
        case rest =>
          obtain ⟨rfl, rfl⟩ := hcut
          go_upto_if 138 with fail
          go_cut [5, 8, 9] from 139 to 219 (fun s5 s8 s9 wx => s5 = .int .i64 (n : Int) ∧ Hid (Dc wx k qd dp2 neg qt) ∧ Hid (Fr [k] wc wx))
          case first =>
            cases xb
            · have hx : x = 0 := by
                have := of_decide_eq_false HXB.out.symm
                omega
              have hin : i1 = n := by have := HNE.out; have := HI1.out; omega
              have HD : Hid (dp2 = dp1) := Lib.hid (by
                rw [HDP2.out, show K = 0 by rw [HK.out, if_pos hx]]
                show dp1 + ((0 : Nat) : Int) * es = dp1
                simp)
              have HIN := Lib.hid hin
              clear hx hin
              go_wp2_with fail
              go_meet
              exact ⟨by rw [HIN.out], by rw [HD.out]; exact D4, Lib.hid (Fr.refl _ _)⟩
            · have hx : x ≠ 0 := of_decide_eq_true HXB.out.symm
              have HE1 : (bt (a + m) = 69 ∨ bt (a + m) = 101) ∧ y ≤ 1 ∧ (y = 1 → bt (a + m + 1) = 43 ∨ bt (a + m + 1) = 45) ∧ a + m + 1 + y < n ∧ n ≤ a + m + 1 + y + 4 ∧ ∀ i, a + m + 1 + y ≤ i → i < n → 48 ≤ bt i ∧ bt i ≤ 57 := HE0.out.resolve_left hx
              obtain ⟨_, y1, ys, yn, yn4, ydig⟩ := HE1
              rw [← HI1.out] at ys yn yn4 ydig
              have hes : es = if y = 1 ∧ bt (i1 + 1) = 45 then -1 else 1 := by rw [HI1.out]; exact HES.out
              have hgk : ∀ k, g k = bt (i1 + 1 + y + k) := fun k => by rw [HG.out, HI1.out]
              have hKn : i1 + 1 + y + K = n := by
                have := HK.out
                rw [if_neg hx, ← HI1.out] at this
                omega
              have IS := HSI.out (i1 + 1) (by omega)
              have hi11 : (((i1 + 1 : Nat)) : Int) = (i1 : Int) + 1 := by omega
              rw [hi11] at IS
              have YD := ydig (i1 + 1 + y) (Nat.le_refl _) yn
              have YI := HSI.out (i1 + 1 + y) yn
              obtain ⟨cs, hcs⟩ : ∃ cs, cs = bt (i1 + 1) := ⟨_, rfl⟩
              rw [← hcs] at IS ys hes
              obtain ⟨cy, hcy⟩ : ∃ cy, cy = bt (i1 + 1 + y) := ⟨_, rfl⟩
              rw [← hcy] at YD YI
              have HGK := Lib.hid hgk
              have HKN := Lib.hid hKn
              have HYD := Lib.hid ydig
              have HESS := Lib.hid hes
              have hn1 : i1 + 1 < n := by omega
              obtain ⟨i2, hi2⟩ : ∃ i2, i2 = i1 + 1 + y := ⟨_, rfl⟩
              rw [← hi2] at YI yn yn4
              have HI2 := Lib.hid hi2
              have HCS := Lib.hid hcs
              have HCY := Lib.hid hcy
              clear hx hgk hKn ydig hes hi11 hcs hcy hi2 HE0 HS1
              go_upto_block 4 with fail
              go_cut [5, 8] from 148 to 155 (fun s7 s19 wx => s7 = .int .i64 (i2 : Int) ∧ s19 = .int .i64 es ∧ wc = wx)
              case first =>
                by_cases hy : y = 1
                · have h4 := ys hy
                  have HI : Hid (i2 = i1 + 1 + 1) := Lib.hid (by rw [HI2.out, hy])
                  by_cases h43 : cs = 43
                  · have HE : Hid (es = 1) := Lib.hid (by rw [HESS.out, if_neg (by omega)])
                    clear h4 ys hy
                    subst h43
                    go_wp2_with fail
                    go_meet
                    exact ⟨by rw [HI.out]; exact congrArg (Value.int .i64) (by omega), by rw [HE.out], rfl⟩
                  · have h45 : cs = 45 := by omega
                    have HE : Hid (es = -1) := Lib.hid (by rw [HESS.out, if_pos ⟨hy, h45⟩])
                    clear h4 ys hy h43
                    subst h45
                    go_wp2_with fail
                    go_meet
                    exact ⟨by rw [HI.out]; exact congrArg (Value.int .i64) (by omega), by rw [HE.out], rfl⟩
                · have hy0 : y = 0 := by omega
                  have HI : Hid (i2 = i1 + 1) := Lib.hid (by rw [HI2.out, hy0])
                  have HE : Hid (es = 1) := Lib.hid (by rw [HESS.out, if_neg (by omega)])
                  have hcd : cs = cy := by rw [HCS.out, HCY.out, hy0]
                  have g43 : ((cs : Int) == 43) = false := by rw [beq_eq_false_iff_ne]; omega
                  have g45 : ((cs : Int) == 45) = false := by rw [beq_eq_false_iff_ne]; omega
                  clear ys hy hy0 hcd
                  go_wp2_with fail
                  go_meet
                  exact ⟨by rw [HI.out]; exact congrArg (Value.int .i64) (by omega), by rw [HE.out], rfl⟩
              case rest =>
                obtain ⟨rfl, rfl, rfl⟩ := hcut
                have y48 : (48 : Int) ≤ (cy : Int) := by omega
                have y57 : (cy : Int) ≤ 57 := by omega
                have y48n : ¬ (cy : Int) < 48 := by omega
                have y57n : ¬ (57 : Int) < (cy : Int) := by omega
                clear YD ys
                go_wp2_with fail
                go_loopw [5, 9] (fun s7 s20 wr => ∃ (k : Nat), k ≤ K ∧ s7 = .int .i64 ((i2 + k : Nat) : Int) ∧ s20 = .int .i64 (Rdf.expN g k : Int) ∧ wc = wr) (fun a _ _ => n - (RowKit.intOf a).toNat)
                case atStart => exact ⟨0, Nat.zero_le _, rfl, rfl, rfl⟩
                case round =>
                  obtain ⟨kk, hk, rfl, rfl, rfl⟩ := hrel
                  obtain ⟨E, hE⟩ : ∃ E, E = Rdf.expN g kk := ⟨_, rfl⟩
                  have HEE := Lib.hid hE
                  rw [← hE]
                  obtain ⟨i3, hi3⟩ : ∃ i3, i3 = i2 + kk := ⟨_, rfl⟩
                  have HI3 := Lib.hid hi3
                  rw [← hi3]
                  have hEb : E < 10000 := by
                    rw [hE]
                    exact Nat.lt_of_lt_of_le (HEL.out kk hk) (Nat.le_trans (Nat.pow_le_pow_right (by decide) (show kk ≤ 4 by omega)) (by decide))
                  clear hE hi3
                  by_cases hlt : kk < K
                  · have hin : i3 < n := by have := HKN.out; have := HI2.out; have := HI3.out; omega
                    have IK := HSI.out i3 hin
                    have hgk : bt i3 = g kk := by rw [HGK.out, HI3.out, HI2.out]
                    rw [hgk] at IK
                    have hgd := HGB.out kk hlt
                    have H9 : Hid (Rdf.expN g (kk + 1) = E * 10 + (g kk - 48)) := Lib.hid (by rw [HEE.out]; rfl)
                    generalize g kk = c at IK hgd H9
                    have d48 : (48 : Int) ≤ (c : Int) := by omega
                    have d57 : (c : Int) ≤ 57 := by omega
                    have g95 : ((c : Int) == 95) = false := by rw [beq_eq_false_iff_ne]; omega
                    have hc8 : IntKind.i64.wrap (c : Int) = (c : Int) := fw_i64 _ (by omega) (by omega)
                    clear hgk
                    go_wp2_with fail
                    go_roundw
                    case rel => exact ⟨kk + 1, by omega, congrArg (Value.int .i64) (by have := HI3.out; omega), congrArg (Value.int .i64) (by rw [H9.out]; omega), trivial⟩
                    case measure => simp [RowKit.intOf] <;> omega
                  · have hkK : kk = K := by omega
                    have hne : i3 = n := by have := HKN.out; have := HI2.out; have := HI3.out; omega
                    have HNN := Lib.hid hne
                    have HD : Hid (dp2 = dp1 + (E : Int) * es) := Lib.hid (by rw [HDP2.out, HEE.out, hkK])
                    have esb : es = 1 ∨ es = -1 := by
                      have := HESS.out
                      split at this
                      · exact .inr this
                      · exact .inl this
                    have hnlt : ¬ (i3 : Int) < (n : Int) := by omega
                    clear hkK hne hlt
                    rcases esb with rfl | rfl
                    · have HD : Hid (dp2 = dp1 + (E : Int)) := Lib.hid (by rw [HD.out]; omega)
                      go_wp2_with fail
                      go_meet
                      exact ⟨by rw [HNN.out], by rw [HD.out]; exact Lib.hid (D4.out.setDp _), Lib.hid ((Fr.refl _ _).setCell (by simp) _)⟩
                    · have HD : Hid (dp2 = dp1 + -(E : Int)) := Lib.hid (by rw [HD.out]; omega)
                      go_wp2_with fail
                      go_meet
                      exact ⟨by rw [HNN.out], by rw [HD.out]; exact Lib.hid (D4.out.setDp _), Lib.hid ((Fr.refl _ _).setCell (by simp) _)⟩
          case rest =>
            obtain ⟨rfl, D6, F6⟩ := hcut
            clear c1 kl fz1 D4
            go_wp2_with fail
            go_ret
            rw [← HQD.out, ← HQT.out]
            exact ⟨rfl, D6.out, F5.out.same F6.out⟩
end Go.Proofs.YtcjkgnafpkkjmaaGreatDoor
end
section
namespace Go.Proofs.YtcjkgnafpkkjmaaGreatDoor
open Go.ChangeShapes Go.WideShapes Go.RowKit Go.Shelf
theorem fb_c (w : World) (k : Nat) (x : Dg.Sd) (ng : Bool) (hG : Dg.Gd x.ds) (hZ : LdZ w k) (h : Ds w k x ng) : Calls Tryz.prog 181 #[.pointer (some ⟨k, 0, none⟩), .pointer (some ⟨6, 0, none⟩)] w fun e w' => e = .returned (.tuple #[.int .u64 (Dg.oB (Dg.fbN x).1 (Dg.fbN x).2.1 ng : Int), .bool (Dg.fbN x).2.2]) ∧ Fr [k] w w' := by
  by_cases h0 : x.ds.length = 0
  · have e : Dg.fbN x = (0, 0, false) := by unfold Dg.fbN; rw [if_pos h0]
    rw [e]
    exact fb_nil w k x ng h0 hZ h
  · by_cases h1 : 310 < x.dp
    · have e : Dg.fbN x = (0, 2047, true) := by unfold Dg.fbN; rw [if_neg h0, if_pos h1]
      rw [e]
      exact fb_over w k x ng (by omega) h1 hZ h
    · by_cases h2 : x.dp < -330
      · have e : Dg.fbN x = (0, 0, false) := by unfold Dg.fbN; rw [if_neg h0, if_neg h1, if_pos h2]
        rw [e]
        exact fb_zero w k x ng (by omega) h2 hZ h
      · exact fb_main w k x ng ⟨hG, by omega⟩ (by omega) (by omega) hZ h
theorem slow_of (l : List UInt8) (h : Rgt.floRight l = true) (hl : l.length ≤ 800) : Slow l := by
  obtain ⟨a, m, x, y, hS⟩ := Rdf.shp_of h
  obtain ⟨ds, dp, neg, tr, hG, _, _, C⟩ := dset_c l a m x y hS hl
  exact ⟨fun w k => Dc w k ds dp neg tr, Dg.oB (Dg.fbN ⟨ds, dp, tr⟩).1 (Dg.fbN ⟨ds, dp, tr⟩).2.1 neg, (Dg.fbN ⟨ds, dp, tr⟩).2.2, oB_lt _ _ _, C,
    fun w k hX hD => fb_c w k ⟨ds, dp, tr⟩ neg hG (ldZ_of hX hD) hD⟩
end Go.Proofs.YtcjkgnafpkkjmaaGreatDoor
end
