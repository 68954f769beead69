/- Fibers: what is done with a stack, on paper memories: taken off, once more, put on. -/
import Derived.Test.YtjgndfhfiekomaaFonA
namespace Go.Proofs.Ytjgndfhfiekomaa
open Go.ChangeShapes Go.WideShapes Go.RowKit
variable {w0 w w1 w' : World} {c : Sk} {A : Ar} {m r : Nat} {M M' : Mem} {top x s prev below hand l0 seg base : Int} {cap : Nat} {f : Frm} {fs r0 : List Frm}
/-- A segment once more, on another one. -/
theorem Hp.copy (h : Hp A m (r + 1) M) {ws : List Int} {p0 : Int} (hs : Seg M s p0 cap ws) (hp : W64 prev) :
    ∃ to, (segStep A m s prev).2 = some to ∧ M to = none ∧ W64 to ∧ ∃ M', Hp (segStep A m s prev).1 m r M' ∧ Off [] M M' ∧ Seg M' to prev (max cap 1) ws := by
  have hcp := hs.cp h
  have hrm := hs.rm h
  have hu := hs.used h
  have hle := hs.le
  have hww := hs.wsw h
  obtain ⟨to, e1, e2, e3, e4, M1, p1, O1, S1⟩ := h.segment hp (max cap 1) (by omega)
  have hne : s ≠ to := by
    rintro rfl
    obtain ⟨o, ho, _⟩ := hs.obj
    rw [e2] at ho; cases ho
  have S0 := hs.off O1 (by simp)
  obtain ⟨g, q1, q2, q3, q4⟩ := S1.ex
  have hB := p1.wr q1 (p := 2) (fun k => ws[k]?.getD 0) (fun k => growN (segF A m prev (max cap 1 : Nat)).1 m to s k) rfl ws.length (fun k hk hpk => by
    have hS := S0.off (Off.wr M1 to 2 (fun k => ws[k]?.getD 0) k) (by simpa using hne)
    simp only [growN]
    rw [hS.at hpk hk]) (by omega) (by omega) (fun k hk => hww k hk) ws.length (Nat.le_refl _)
  have hl := Mem.wr_lit 2 (fun k => ws[k]?.getD 0) q1 ws.length
  have p2 := hB.st hl (i := 1) (by omega) (by simp only; omega) (smW_w ws.length)
  have E : segStep A m s prev = (stF (growN (segF A m prev (max cap 1 : Nat)).1 m to s ws.length) m to 1 (smW ws.length), some to) := by
    unfold segStep
    rw [hrm, hu, show max (cap : Int) 1 = (max cap 1 : Nat) by omega, e1, Int.toNat_natCast]
  rw [E]
  refine ⟨to, rfl, e2, e4, _, p2, ?_, ?_⟩
  · intro y o _ ho
    have hy : y ≠ to := by rintro rfl; rw [e2] at ho; cases ho
    rw [Mem.put_ne _ _ _ hy]
    exact Off.wr _ _ _ _ _ _ _ (by simpa using hy) (O1 _ _ (by simp) ho)
  · have := S1.grow ws _ (Mem.put_lit 1 (smW ws.length) hl) (by simp; omega) ?_ ?_ ?_ ?_
    · simpa using this
    · rw [if_neg (by omega), if_neg (by omega)]; exact q2
    · rw [if_pos rfl]; simp
    · intro i hi; simp at hi
    · intro i hi
      rw [if_neg (by omega), if_pos (by simp only [List.length_nil]; omega)]
      congr 2
      simp only [List.length_nil]; omega
theorem fits_mono {cap' : Nat} (h : cap ≤ cap') : fits cap fs → fits cap' fs := by
  induction fs with
  | nil => exact fun _ => trivial
  | cons f r ih => exact fun hf => ⟨by have := hf.1; omega, hf.2.1, hf.2.2.1, hf.2.2.2.1, ih hf.2.2.2.2⟩
/-- A fiber of one segment once more. -/
theorem Hp.again (h : Hp A m (r + 2) M) (ht : Top M x s prev below hand l0 cap fs) (hpv : prev % 8 ≠ 1) :
    ∃ g, (againF A m 1 x).2 = some g ∧ M g = none ∧ W64 g ∧ SgOk A m 1 (gtF A m x 1) ∧ (∀ y, (segsF A m 1 (gtF A m x 1)).2 = some y → W64 y) ∧ ∃ M' s', Hp (againF A m 1 x).1 m r M' ∧ Off [] M M' ∧ Top M' g s' 45 45 hand l0 (max cap 1) fs ∧ M s' = none := by
  obtain ⟨to, e1, e2, e4, M1, p1, O1, S1⟩ := h.copy ht.seg w64_45
  have hg1 := (ht.fib.g h).2.1
  have htag := ht.seg.tag h
  have hg0 := ht.seg.g0 h
  have hE : segsF A m 1 (gtF A m x 1) = segStep A m s 45 := by rw [hg1, segsF_yes htag]; rfl
  have F1 := ht.fib.off O1 (by simp)
  have hF := F1.g p1
  have hhw : W64 hand := by
    rw [← (ht.fib.g h).2.2.2]
    obtain ⟨L, hk, _⟩ := h.ex
    exact gtF_w hk.wdA _ _ _
  obtain ⟨g, f1, f2, f3, f4, M2, p2, O2, gg, f5, f6⟩ := p1.obj 7 [45, to, smW (lk l0 fs), hand] (by omega) (by omega) (by simp) (by
    intro y hy
    simp at hy
    rcases hy with rfl | rfl | rfl | rfl
    · exact w64_45
    · exact e4
    · exact smW_w _
    · exact hhw)
  have hA : againF A m 1 x = objF (segStep A m s 45).1 m 7 [45, to, smW (lk l0 fs), hand] := by
    unfold againF
    rw [hE, e1]
    simp only
    rw [hF.2.2.1, hF.2.2.2]
  have hgn : M g = none := by
    cases hM : M g with
    | none => rfl
    | some o => rw [O1 _ _ (by simp) hM] at f2; cases f2
  rw [hA]
  refine ⟨g, f1, hgn, f4, ?_, ?_, M2, to, p2, O1.trans O2, ⟨⟨gg, f5, f6 0 (by simp), f6 1 (by simp), f6 2 (by simp), f6 3 (by simp)⟩, S1.off O2 (by simp), fits_mono (by omega) ht.ok⟩, e2⟩
  · rw [hg1]
    refine .inr ⟨?_, ?_, ?_, ?_, ?_⟩
    · show gtF A m s 0 % 8 ≠ 1
      rw [hg0]; exact hpv
    · show 0 ≤ nmF A m s 1
      rw [ht.used h]; omega
    · show nmF A m s 1 ≤ 1000
      have := ht.seg.cp h
      have := ht.seg.le
      rw [ht.seg.used h]; omega
    · show rmF A m s ≤ 1000
      have := ht.seg.cp h
      rw [ht.seg.rm h]; omega
    · intro y hy
      have : (45 : Int) = y := by simpa [segsF] using hy
      subst this; exact w64_45
  · intro y hy
    rw [hE, e1] at hy
    injection hy with hy
    subst hy; exact e4
theorem Res.g {n hi lo : Int} (h : Res M x n hi lo) (hp : Hp A m r M) (hn : 0 ≤ n ∧ n ≤ 100) : nmF A m x 0 = n ∧ gtF A m x 1 = hi ∧ gtF A m x 2 = lo ∧ kdF A m x = 6 ∧ szF A m x = 3 := by
  obtain ⟨g, h1, h2, h3, h4⟩ := h
  refine ⟨?_, ?_, ?_, hp.kd h1, hp.sz h1⟩
  · unfold nmF
    rw [hp.gl h1 _ (by omega) (by omega), h2]
    exact smW_val (by omega) (by omega)
  · rw [hp.gl h1 _ (by omega) (by omega), h3]
  · rw [hp.gl h1 _ (by omega) (by omega), h4]
theorem Res.fresh {hi lo : Int} (h : Res M x 0 hi lo) (hp : Hp A m r M) : freshF A m x = 0 := by
  have := h.g hp (by omega)
  unfold freshF
  rw [if_neg (by omega), if_neg (by omega)]
theorem Res.gone {hi lo : Int} (h : Res M x 1 hi lo) (hp : Hp A m r M) : freshF A m x = 201 := by
  have := h.g hp (by omega)
  unfold freshF
  rw [if_neg (by omega), if_pos (by omega)]
theorem Res.ww {n hi lo : Int} (h : Res M x n hi lo) (hp : Hp A m r M) : W64 x := by
  obtain ⟨g, h1, _⟩ := h
  exact hp.w h1
theorem sx_clone1 (h : Sx w0 w c (r + 3) M top) {rr : Int} (hr : Res M rr 0 x x) (ht : Top M x s prev 45 hand l0 cap fs) (hpv : prev % 8 ≠ 1) :
    Calls Try.prog 52 #[.pointer (some ⟨c.kb, 0, none⟩), .int .u64 rr] w fun e w' => ∃ out, e = .returned (.tuple #[.int .u64 out, .bool true, .int .i64 0]) ∧ ∃ M' g s', Sx w0 w' c r M' top ∧ Res M' out 0 g g ∧ Top M' g s' 45 45 hand l0 (max cap 1) fs ∧ M out = none ∧ M g = none ∧ M s' = none ∧ Off [] M M' := by
  obtain ⟨A, last, h, hp⟩ := h
  have hrg := hr.g hp (by omega)
  have hxw := ht.fib.w hp
  obtain ⟨g, e1, e2, e3, e4, e5, M1, s', p1, O1, T1, e6⟩ := hp.again ht hpv
  obtain ⟨out, f1, f2, f3, f4, M2, p2, O2, gg, f5, f6⟩ := p1.obj 6 [smW 0, g, g] (by omega) (by omega) (by simp) (by
    intro y hy
    simp at hy
    rcases hy with rfl | rfl
    · exact smW_w _
    · exact e3)
  have hbel := ((ht.fib.off O1 (by simp)).g p1).1
  refine (kclone_one h rr (hr.ww hp) (hr.fresh hp) x hrg.2.1 (ht.fib.tag hp) 1 e4 e5 g e1 e3 (by rw [hbel]; omega) out f1).mono ?_
  rintro e w' ⟨rfl, hS⟩
  refine ⟨out, rfl, M2, g, s', ⟨_, _, hS, p2⟩, ⟨gg, f5, f6 0 (by simp), f6 1 (by simp), f6 2 (by simp)⟩, T1.off O2 (by simp) (by simp), ?_, e2, e6, O1.trans O2⟩
  cases hM : M out with
  | none => rfl
  | some o => rw [O1 _ _ (by simp) hM] at f2; cases f2
theorem sx_clone_gone (h : Sx w0 w c r M top) {rr hi lo : Int} (hr : Res M rr 1 hi lo) :
    Calls Try.prog 52 #[.pointer (some ⟨c.kb, 0, none⟩), .int .u64 rr] w fun e w' => e = .returned (.tuple #[.int .u64 45, .bool false, .int .i64 201]) ∧ Sx w0 w' c r M top := by
  obtain ⟨A, last, h, hp⟩ := h
  have hf := hr.gone hp
  refine (kclone_no h rr (hr.ww hp) (by omega)).mono ?_
  rintro e w' ⟨rfl, hS⟩
  rw [hf]
  exact ⟨rfl, _, _, hS, hp⟩
theorem sx_resume_gone (h : Sx w0 w c r M top) {rr hi lo : Int} (hr : Res M rr 1 hi lo) :
    Calls Try.prog 53 #[.pointer (some ⟨c.kb, 0, none⟩), .int .u64 rr] w fun e w' => e = .returned (.int .i64 201) ∧ Sx w0 w' c r M top := by
  obtain ⟨A, last, h, hp⟩ := h
  have hf := hr.gone hp
  refine (kresume_no h rr (hr.ww hp) (by omega)).mono ?_
  rintro e w' ⟨rfl, hS⟩
  rw [hf]
  exact ⟨rfl, _, _, hS, hp⟩
/-- The topmost fiber is taken off; its handler stays with it. -/
theorem sx_cap0 (h : Sx w0 w c (r + 1) M x) (hf : Fib M x below seg base hand) (hb : below % 8 = 1) {ret : Int} {es : List Int} (hh : Hdl M hand true ret es) :
    Calls Try.prog 51 #[.pointer (some ⟨c.kb, 0, none⟩), .int .i64 0] w fun e w' => ∃ rr, e = .returned (.tuple #[.int .u64 rr, .bool true]) ∧ ∃ M', Sx w0 w' c r M' below ∧ Res M' rr 0 x x ∧ Fib M' x 45 seg base hand ∧ M rr = none ∧ Off [x] M M' := by
  obtain ⟨A, last, h, hp⟩ := h
  have hxw := hf.w hp
  obtain ⟨rr, f1, f2, f3, f4, M1, p1, O1, gg, f5, f6⟩ := hp.obj 6 [smW 0, x, x] (by omega) (by omega) (by simp) (by
    intro y hy
    simp at hy
    rcases hy with rfl | rfl
    · exact smW_w _
    · exact hxw)
  have F1 := hf.off O1 (by simp)
  have hF1 := F1.g p1
  obtain ⟨hg, h1, h2, h3, h4⟩ := hh.off O1 (by simp)
  obtain ⟨o, ho, hn, _⟩ := F1.obj
  have p2 := p1.st ho (i := 0) (v := 45) (by omega) (by omega) w64_45
  have hne : rr ≠ x := by
    rintro rfl
    obtain ⟨o, ho, _⟩ := hf.obj
    rw [f2] at ho; cases ho
  refine (kcapture_deep h 0 (by omega) x rr hxw f4 rfl ?_ f1 ?_ ?_).mono ?_
  · unfold lowF
    rw [(hf.g hp).1]; simp [hb]
  · unfold hasF
    rw [hF1.2.2.2, p1.tag h1]; rfl
  · rw [hF1.2.2.2]
    unfold nmF
    rw [p1.gl h1 _ (by omega) (by omega), h2, smW_val (by simp) (by simp)]
    simp
  · rintro e w' ⟨rfl, hS⟩
    rw [hF1.1] at hS
    refine ⟨rr, rfl, _, ⟨_, _, hS, p2⟩, ⟨gg, ?_, f6 0 (by simp), f6 1 (by simp), f6 2 (by simp)⟩, F1.below' 45, f2, (O1.mono (by simp)).trans (Off.put _ _ _ _)⟩
    rw [Mem.put_ne _ _ _ hne]; exact f5
/-- Fibers are put on a fiber that has frames. -/
theorem sx_resume1 (h : Sx w0 w c r M top) {rr b2 s2 base2 h2 : Int} (hr : Res M rr 0 x x) (hf : Fib M x 45 seg base hand) (ht : Fib M top b2 s2 base2 h2) (hb : 0 ≤ base2 ∧ base2 ≤ 1000) :
    Calls Try.prog 53 #[.pointer (some ⟨c.kb, 0, none⟩), .int .u64 rr] w fun e w' => e = .returned (.int .i64 0) ∧ ∃ M', Sx w0 w' c r M' x ∧ Res M' rr 1 45 45 ∧ Fib M' x top seg base hand ∧ Off [x, rr] M M' := by
  obtain ⟨A, last, h, hp⟩ := h
  have hrg := hr.g hp (by omega)
  have htg := ht.g hp
  have hon : ontoF A c.m top = top := by
    unfold ontoF
    rw [if_neg]
    rintro ⟨_, h2, _⟩
    unfold emptyF nmF at h2
    rw [htg.2.2.1, smW_val (by omega) (by omega)] at h2
    simp at h2
    omega
  obtain ⟨o, ho, hn, hk⟩ := hf.obj
  have p1 := hp.st ho (i := 0) (v := top) (by omega) (by omega) h.tw
  have F1 := hf.below' top
  obtain ⟨g, h1, h2, h3, h4⟩ := hr
  have hne : rr ≠ x := by
    rintro rfl
    rw [h1] at ho
    injection ho with ho
    subst ho
    simp at hk
  have h1' : M.put x 0 top rr = some ⟨6, 3, g⟩ := by rw [Mem.put_ne _ _ _ hne]; exact h1
  have p2 := p1.st h1' (i := 0) (v := smW 1) (by omega) (by simp only; omega) (smW_w 1)
  have q2 := Mem.put_lit 0 (smW 1) h1'
  have p3 := p2.st q2 (i := 1) (v := 45) (by omega) (by simp only; omega) w64_45
  have q3 := Mem.put_lit 1 45 q2
  have p4 := p3.st q3 (i := 2) (v := 45) (by omega) (by simp only; omega) w64_45
  have q4 := Mem.put_lit 2 45 q3
  have hE : resF A c.m top rr = stF (stF (stF (stF A c.m x 0 top) c.m rr 0 (smW 1)) c.m rr 1 45) c.m rr 2 45 := by
    unfold resF
    rw [hrg.2.2.1, hon]
  refine (kresume_yes h rr (hp.w h1) (Res.fresh ⟨g, h1, h2, h3, h4⟩ hp)).mono ?_
  rintro e w' ⟨rfl, hS⟩
  rw [hE, hrg.2.1] at hS
  refine ⟨rfl, _, ⟨_, _, hS, p4⟩, ⟨_, q4, rfl, rfl, rfl⟩, ?_, ?_⟩
  · exact ((F1.off (Off.put _ rr 0 _) (by simpa using Ne.symm hne)).off (Off.put _ rr 1 _) (by simpa using Ne.symm hne)).off (Off.put _ rr 2 _) (by simpa using Ne.symm hne)
  · exact ((((Off.put _ x 0 _).mono (by simp)).trans ((Off.put _ rr 0 _).mono (by simp))).trans ((Off.put _ rr 1 _).mono (by simp))).trans ((Off.put _ rr 2 _).mono (by simp))
/-- The topmost fiber is gone. -/
theorem sx_leave (h : Sx w0 w c r M x) (hf : Fib M x below seg (-1) hand) (hb : below % 8 = 1) {deep : Bool} {ret : Int} {es : List Int} (hh : Hdl M hand deep ret es) :
    Calls Try.prog 59 #[.pointer (some ⟨c.kb, 0, none⟩)] w fun e w' => e = .returned (.tuple #[.int .u64 ret, .bool true]) ∧ Sx w0 w' c r M below := by
  obtain ⟨A, last, h, hp⟩ := h
  have hg := hf.g hp
  obtain ⟨g, h1, h2, h3, h4⟩ := hh
  refine (kleave_yes h ?_ ?_).mono ?_
  · unfold emptyF nmF
    rw [hg.2.2.1, smW_val (by omega) (by omega)]; rfl
  · unfold lowF
    rw [hg.1]; simp [hb]
  · rintro e w' ⟨rfl, hS⟩
    rw [hg.1] at hS
    have hL : leftF A c.m x = ret := by
      unfold leftF hasF
      rw [hg.2.2.2, hp.tag h1, if_pos (by rfl), hp.gl h1 _ (by omega) (by omega), h3]
    rw [hL]
    exact ⟨rfl, _, _, hS, hp⟩
theorem sx_fibers1 (h : Sx w0 w c r M x) (hf : Fib M x below seg base hand) (hb : below % 8 ≠ 1) :
    Calls Try.prog 60 #[.pointer (some ⟨c.kb, 0, none⟩)] w fun e w' => e = .returned (.int .i64 1) ∧ Sx w0 w' c r M x := by
  obtain ⟨A, last, h, hp⟩ := h
  have hg := hf.g hp
  have hc : chF A c.m 2 x = some 1 := by
    rw [chF, if_pos (hf.tag hp), hg.1, chF, if_neg hb]; rfl
  refine (kfibers_c h 2 1 hc (by omega)).mono ?_
  rintro e w' ⟨rfl, hS⟩
  exact ⟨rfl, _, _, hS, hp⟩
end Go.Proofs.Ytjgndfhfiekomaa
