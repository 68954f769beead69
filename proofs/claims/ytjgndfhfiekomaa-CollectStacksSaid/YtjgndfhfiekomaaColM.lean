/- Collecting: a word's object that is met the first time. -/
import Derived.Test.YtjgndfhfiekomaaColL
namespace Go.Proofs.Ytjgndfhfiekomaa
open Go.ChangeShapes Go.WideShapes Go.RowKit Go.Maps
variable {w w' : World} {c : Tk} {m n : Nat} {cl : Int → Int} {wv : Value} {T : Tr}
theorem moveT_same (cl : Int → Int) (m : Nat) (T : Tr) (x : Int) : (moveT cl m T x).1.seen = T.seen ∧ (moveT cl m T x).1.work = T.work ∧ (moveT cl m T x).1.live = T.live ∧ (moveT cl m T x).1.least = T.least := by
  unfold moveT
  split
  · exact ⟨rfl, rfl, rfl, rfl⟩
  · cases (moveF T.A m x).2 <;> exact ⟨rfl, rfl, rfl, rfl⟩
theorem TrAt.buildWork (h : TrAt w c m n cl wv T) (y : Int) : (w.alloc (.cells #[.int .u64 y] 37)).ownsRow c.B 37 1 wv T.work.length (T.work.map (Value.int .u64)) := own_fr h.wk ((Fr.refl [] _).alloc _) (by simp)
set_option maxRecDepth 10000 in
set_option maxHeartbeats 4000000 in
theorem follow_new (h : TrAt w c m n cl wv T) (hB : c.B ≤ w.heap.size) (bd : T.Bd) (x : Int) (x0 : 0 ≤ x) (x1 : x < 18446744073709551616) (hx : x % 8 = 1) (hy : movedF T.A m x = none)
    (hz0 : 0 ≤ szI T.A m x) (hwx : wVal x < (T.seen.length : Int)) (hsx : T.seen[(wVal x).toNat]?.getD true = false) :
    Calls Try.prog 88 #[.pointer (some ⟨c.tb, 0, none⟩), .int .u64 x] w (FwDone c m n cl w (followT cl m T x)) := by
  obtain ⟨i0, hi, hz1, hz2, hz3⟩ := info_parts info_word
  have HI := Lib.hid hi
  have Z0 := Lib.hid hz1
  have Z1 := Lib.hid hz2
  have Z2 := Lib.hid hz3
  obtain ⟨b1, b2, b3⟩ := bd
  have hzb := szI_b (m := m) h.wd x0
  obtain ⟨a1, hya, ha1⟩ := moveT_at (cl := cl) h.ok h.wd x x0 hz0
  obtain ⟨s1, s2, s3, s4⟩ := moveT_same cl m T x
  have hm2 := h.ok.m2
  have hsl' := h.sl
  have FT : Hid (∀ w' wv', TrAt w' c m n cl wv' { (moveT cl m T x).1 with A := (moveT cl m T x).1.A.mark m a1 (szI T.A m x + 1), seen := (moveT cl m T x).1.seen.set a1 true, live := T.live + 1, work := T.work ++ [(moveT cl m T x).2.1] } → FB c w w' → FwDone c m n cl w (followT cl m T x) (.returned (.int .u64 (moveT cl m T x).2.1)) w') := Lib.hid (by
    intro w' wv' ht hF
    have hv : wVal (moveT cl m T x).2.1 = a1 := by rw [hya, val1 _ (by omega)]; omega
    unfold followT
    rw [if_neg (by simpa using hx), hy]
    simp only []
    rw [if_neg (by rw [hsx]; simp; omega), hv, Int.toNat_natCast, s3, s2]
    exact ⟨rfl, ⟨wv', ht⟩, hF⟩)
  have CK := Lib.hid (kind_c x w x0 x1)
  have CM := Lib.hid (omoved_c w h.h h.ok h.wd x x0 x1)
  have CV := Lib.hid (fun wa => value_c x wa x0 x1)
  have CS := Lib.hid (fun wa (hF : Fr [] w wa) => osize_c wa (h.h.keep hF) h.ok h.wd x x0 x1)
  change Hid (∀ wa, _ → Calls _ _ _ _ fun e w' => e = .returned (.int .i64 (szI T.A m x)) ∧ Fr [] wa w') at CS
  have CMV := Lib.hid (fun wa (hF : Fr [] w wa) => move_c (h.keep hF) x hx x0 x1 b2)
  obtain ⟨a, ha⟩ : ∃ a : Nat, wVal x = a := ⟨(x / 8).toNat, by rw [val1 x hx]; omega⟩
  have hab : a ≤ 2305843009213693952 := by have := val1 x hx; omega
  rw [ha] at CV hwx hsx
  rw [Int.toNat_natCast] at hsx
  have KC := Lib.hid (fun wa (hF : Fr [] w wa) => show wa.cell? ⟨c.tb, 0, none⟩ = some (.pointer (some ⟨c.hb, 0, none⟩)) ∧ wa.cell? ⟨c.tb, 4, none⟩ = some (.slice (some ⟨c.sb, 0, none⟩) T.seen.length T.seen.length) ∧ wa.cell? ⟨c.sb, a, none⟩ = some (.bool (T.seen[a]?.getD true)) from ⟨(h.keep hF).c0, (h.keep hF).c4, (h.keep hF).cs (by omega)⟩)
  have hsl : (T.seen.length : Int) ≤ 1048576 := by omega
  have k0 := h.c0
  rw [hy] at CM
  rw [hsx] at KC
  rcases hq : moveT cl m T x with ⟨T1, y, mb⟩
  rw [hq] at FT hya s1 s2 s3 s4
  simp only [] at hya s1 s2 s3 s4
  replace CMV : Hid (∀ wa, Fr [] w wa → Calls Try.prog 135 #[.pointer (some ⟨c.tb, 0, none⟩), .int .u64 x] wa (MvDone c m n cl wv wa (T1, y, mb))) := Lib.hid (fun wa hF => by have := CMV.out wa hF; rw [hq] at this; exact this)
  obtain ⟨N, hN⟩ : ∃ N : Nat, N = T.seen.length := ⟨_, rfl⟩
  have hN1 : T1.seen.length = N := by rw [s1, hN]
  have hw1 : T1.work.length < 2000000 := by rw [s2]; exact b3
  have hl1 : T1.live = T.live := s3
  have HL := Lib.hid s2
  obtain ⟨lv, hlv⟩ : ∃ l, l = T.live := ⟨_, rfl⟩
  rw [← hlv] at hl1 b1 FT
  rw [← hN] at KC hwx hsl
  have haN : a1 < N := by omega
  have y0 : 0 ≤ y ∧ y < 18446744073709551616 := by omega
  have CVY : Hid (∀ wa, Calls Try.prog 82 #[.int .u64 y] wa fun e w' => e = .returned (.int .i64 (a1 : Int)) ∧ wa = w') := Lib.hid (fun wa => by
    have := value_c y wa y0.1 y0.2
    rwa [show wVal y = (a1 : Int) by rw [hya, val1 _ (by omega)]; omega] at this)
  have HB := Lib.hid hB
  generalize szI T.A m x = z at *
  generalize followT cl m T x = r at *
  clear h hB hy hN hsx ha hq s1 s2 s3 s4 hya hlv hsl'
  have hzd : decide (z < 0) = false := by simp; omega
  go_enter Try.func88, Try.ntmps88
  go_wp2_with (go_at_call 81; refine CK.out.mono ?_; rintro e w' ⟨rfl, rfl⟩)
  refine CM.out.mono ?_
  rintro e w1 ⟨rfl, F1⟩
  have K1 := KC.out _ F1
  simp only [wordVal]
  clear CM CK
  go_wp2_with fail
  go_region_held3 (fun W => W.cell? ⟨c.tb, 0, none⟩ = some (.pointer (some ⟨c.hb, 0, none⟩)) ∧ W.cell? ⟨c.tb, 4, none⟩ = some (.slice (some ⟨c.sb, 0, none⟩) N N) ∧ W.cell? ⟨c.sb, a, none⟩ = some (.bool false)) (with_reducible first | assumption | exact KC.out _ (by assumption) | exact KC.out _ (F1.same (Fr.refl _ _).drew)) (first | (go_at_call 82; refine (CV.out _).mono ?_; rintro e w2 ⟨rfl, rfl⟩) | (go_at_call 30; refine (CS.out _ (Fr.same F1 (by repeat (first | exact Fr.refl _ _ | apply Fr.drew)))).mono ?_; rintro e w2 ⟨rfl, F2⟩; have F3 : Fr [] w w2 := F1.same (Fr.same (by repeat (first | exact Fr.refl _ _ | apply Fr.drew)) F2)))
  have F3 := Lib.hid F3
  obtain ⟨q0, q4, q5⟩ := KC.out _ F3.out
  clear F1 F2 K1 k0 CV CS KC
  go_wp2_with fail
  refine (CMV.out _ F3.out).mono ?_
  rintro e w3 ⟨rfl, H3, F4⟩
  have F4 : Hid (FB c w w3) := Lib.hid ((FB.nil F3.out HB.out).trans (FB.of F4 (Nat.le_trans HB.out F3.out.size) (by simp [Tk.own])))
  have H3 := Lib.hid H3
  have k0 := H3.out.c0
  have k4 := H3.out.c4
  rw [hN1] at k4
  have ks := H3.out.cs (i := a1) (by rw [hN1]; exact haN)
  have kf := H3.out.fs a1
  clear CMV F3 q0 q4 q5
  have H4 := Lib.hid (H3.out.setSeen a1)
  have F5 : Hid (FB c w (w3.setCell ⟨c.sb, a1, none⟩ (.bool true))) := Lib.hid (F4.out.trans (FB.of (S := [c.sb]) ((Fr.refl _ _).setCell (by simp) _) F4.out.ge (by simp [Tk.own])))
  have k1 := H4.out.c0
  go_wp2_with (go_at_call 82; refine (CVY.out _).mono ?_; rintro e w' ⟨rfl, rfl⟩)
  refine (oarena_c _ H4.out.h).mono ?_
  rintro e w' ⟨rfl, rfl⟩
  go_wp2_with fail
  refine (mark_c _ H4.out.h.ar H4.out.ok a1 (z + 1) (by omega) (by omega)).mono ?_
  rintro e w5 ⟨rfl, hA5, hF5⟩
  have H5 := Lib.hid (H4.out.setArena hA5 (H4.out.ok.mark _ _) (mark_wd H4.out.wd _ _ _) hF5)
  have F6 : Hid (FB c w w5) := Lib.hid (F5.out.trans (FB.of hF5 F5.out.ge (by simp [Tk.own])))
  clear H3 H4 F4 F5 k0 k1 k4 ks kf hA5 hF5 CVY
  have k6 := H5.out.c6
  simp only [] at k6
  rw [hl1] at k6
  have f6 := H5.out.ft 6
  have H6 := Lib.hid (H5.out.setLive (lv + 1))
  have F7 : Hid (FB c w (w5.setCell ⟨c.tb, 6, none⟩ (.int .i64 (lv + 1)))) := Lib.hid (F6.out.trans (FB.of (S := [c.tb]) ((Fr.refl _ _).setCell (by simp) _) F6.out.ge (by simp [Tk.own])))
  have k7 := H6.out.c5
  have OW := Lib.hid (H6.out.buildWork y)
  obtain ⟨wl, hwl⟩ : ∃ l, l = T1.work := ⟨_, rfl⟩
  have HLw := Lib.hid hwl
  simp only [] at OW
  rw [← hwl] at OW hw1
  have CE : Hid (∀ j u, [Value.int .u64 y][j]? = some u → ((w5.setCell ⟨c.tb, 6, none⟩ (.int .i64 (lv + 1))).alloc (.cells #[.int .u64 y] 37)).cell? ((⟨w5.heap.size, 0, none⟩ : Addr).add j) = some u) := Lib.hid (fun j u hu => by
    have hj : j = 0 := by
      rcases j with _ | j
      · rfl
      · simp at hu
    subst hj
    simp only [List.getElem?_cons_zero, Option.some.injEq] at hu
    subst hu
    exact cell_of (c := #[.int .u64 y]) (t := 37) (by rw [blk_alloc, if_pos (size_set _ _ _).symm]) rfl)
  have hBs : c.B ≤ ((w5.setCell ⟨c.tb, 6, none⟩ (.int .i64 (lv + 1))).alloc (.cells #[.int .u64 y] 37)).heap.size := by have := F7.out.ge; rw [size_alloc]; omega
  have F8 : Hid (FB c w ((w5.setCell ⟨c.tb, 6, none⟩ (.int .i64 (lv + 1))).alloc (.cells #[.int .u64 y] 37)) ) := Lib.hid (F7.out.trans (FB.nil ((Fr.refl _ _).alloc _) F7.out.ge))
  have H8 := Lib.hid (H6.out.keep ((Fr.refl [] _).alloc (.cells #[.int .u64 y] 37)))
  have k8 := H8.out.c5
  have f8 := H8.out.ft 5
  have hwl2 : (wl.map (Value.int .u64)) ++ [.int .u64 y] = (wl ++ [y]).map (Value.int .u64) := by simp
  have HW2 := Lib.hid hwl2
  have G8 := Lib.hid H8.out.ge
  have W8 : Hid (∀ q, q ∈ wl ++ [y] → 0 ≤ q ∧ q < 18446744073709551616) := Lib.hid (fun q hq => by
    rcases List.mem_append.1 hq with hq | hq
    · exact H8.out.w0 q (by rw [hwl] at hq; exact hq)
    · simp at hq; subst hq; exact y0)
  clear H5 H6 F6 F7 hwl hwl2
  go_wp2_with (at_builtin; refine wpList_append_own _ rfl _ _ 26 rfl c.B 37 i0 (.int .u64 0) 1 8 Try.underlying26 HI.out Z0.out Z1.out Z2.out rfl (by decide) wv wl.length (wl.map (Value.int .u64)) rfl OW.out ⟨w5.heap.size, 0, none⟩ 1 1 [.int .u64 y] rfl rfl CE.out (by simp [Value.oneCell']) (by unfold maxLen; omega) (by omega) hBs ?_; intro v' w9 hown hgrow hnil; obtain ⟨g5, cap5, hv5, _, _⟩ := hown.form (by omega); subst hv5; have k9 : w9.cell? ⟨c.tb, 5, none⟩ = some wv := cell_fr k8 (grown_fr hgrow) (fun hm => by have := G8.out _ hm; have := H8.out.lo; omega); have f9 : w9.frozen? ⟨c.tb, 5, none⟩ = false := (by have := (grown_fr hgrow).at H8.out.t (fun hm => by have := G8.out _ hm; have := H8.out.lo; omega); exact free_of this); have hown := Lib.hid hown; have hgrow := Lib.hid hgrow; clear hnil)
  have hown : Hid (w9.ownsRow c.B 37 1 (.slice (some ⟨g5, 0, none⟩) (wl.length + 1) cap5) (wl ++ [y]).length ((wl ++ [y]).map (Value.int .u64))) := Lib.hid (by have := hown.out; rw [HW2.out] at this; simpa using this)
  have HF := H8.out.setWork (grown_fr hgrow.out) G8.out W8.out hown.out
  have E : Hid (FwDone c m n cl w r (.returned (.int .u64 y)) (w9.setCell ⟨c.tb, 5, none⟩ (.slice (some ⟨g5, 0, none⟩) (wl.length + 1) cap5))) := Lib.hid (FT.out _ _ (by
    rw [show T.work = wl from (HLw.out.trans HL.out).symm]
    exact HF.1) (F8.out.trans (HF.2 F8.out.ge)))
  clear HF hown hgrow FT H8 F8 CE OW W8 G8 k8 f8 k7
  go_wp2
  go_ret
  exact E.out
theorem follow_c (h : TrAt w c m n cl wv T) (hB : c.B ≤ w.heap.size) (bd : T.Bd) (x : Int) (x0 : 0 ≤ x) (x1 : x < 18446744073709551616) :
    Calls Try.prog 88 #[.pointer (some ⟨c.tb, 0, none⟩), .int .u64 x] w (FwDone c m n cl w (followT cl m T x)) := by
  by_cases hx : x % 8 = 1
  · cases hy : movedF T.A m x with
    | some y => exact follow_moved h hB x x0 x1 hx y hy
    | none =>
      by_cases ho : szI T.A m x < 0 ∨ (T.seen.length : Int) ≤ wVal x ∨ T.seen[(wVal x).toNat]?.getD true = true
      · exact follow_old h hB x x0 x1 hx hy ho
      · simp only [not_or, Bool.not_eq_true] at ho
        exact follow_new h hB bd x x0 x1 hx hy (by omega) (by omega) ho.2.2
  · exact follow_other h hB x x0 x1 hx
end Go.Proofs.Ytjgndfhfiekomaa
