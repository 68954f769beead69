/- The document's arena: Fresh, great, Alloc: they do what the program's arena does on paper. -/
import Derived.Test.YtjgndfhfiekomaaHrD
import Derived.Test.YtjgndfhfiekomaaArenaF
import Derived.Deep.Cut
import Derived.Deep.CutBlock
import Derived.Deep.DeepCutAuto
set_option linter.all false
namespace Go.Proofs.Ytjgndfhfiekomaa
open Go.ChangeShapes Go.WideShapes Go.RowKit
variable {B0 : Nat} {w w' : World} {tb tc : Nat} {wa ma : Option Addr} {wn wc mn mc : Nat} {sf st gf gt cf ct nx : Int} {L : List (Bool × Bool)} {m : Nat} {A : Ar}
theorem blk_two {w : World} {g i j : Nat} {t : TypeId} {cs : Array Value} (h : blk w g = some (.cells cs t (0, 0))) (u v : Value) : blk ((w.setCell ⟨g, i, none⟩ u).setCell ⟨g, j, none⟩ v) g = some (.cells ((cs.setIfInBounds i u).setIfInBounds j v) t (0, 0)) := by
  rw [blk_set, if_pos rfl, blk_set, if_pos rfl, h]; rfl
theorem blk_final {W : World} {g : Nat} {t : TypeId} {o : Obj} {x0 x1 x2 x3 x4 x5 x6 x7 x8 x9 : Value} (h : blk W g = some (.cells #[x0, x1, x2, x3, x4, x5, x6, x7, x8, x9] t (0, 0))) (y0 y1 y2 y3 y4 y5 y6 y7 y8 y9 : Value) :
    blk (((((((((((W.setCell ⟨g, 0, none⟩ y0).setCell ⟨g, 1, none⟩ y1).setCell ⟨g, 2, none⟩ y2).setCell ⟨g, 3, none⟩ y3).setCell ⟨g, 4, none⟩ y4).setCell ⟨g, 5, none⟩ y5).setCell ⟨g, 6, none⟩ y6).setCell ⟨g, 7, none⟩ y7).setCell ⟨g, 8, none⟩ y8).setCell ⟨g, 9, none⟩ y9).alloc o) g = some (.cells #[y0, y1, y2, y3, y4, y5, y6, y7, y8, y9] t (0, 0)) := by
  have h10 := blk10 (y0 := y0) (y1 := y1) (y2 := y2) (y3 := y3) (y4 := y4) (y5 := y5) (y6 := y6) (y7 := y7) (y8 := y8) (y9 := y9) h
  have hlt := lt_size h10
  rw [blk_alloc, if_neg (by omega)]
  exact h10
/-- A document's arena that mirrors the program's, the place that was given, and whether there is one. -/
def GivesA (B0 : Nat) (wa : Option Addr) (wn wc : Nat) (ma : Option Addr) (mn mc : Nat) (m : Nat) (w : World) (r : Ar × Option Nat) (e : Ending) (w' : World) : Prop :=
  ∃ tb' tc', e = .returned (.tuple #[.agg #[.slice wa wn wc, .slice (some ⟨tb', 0, none⟩) (m * 16) tc', .slice ma mn mc, .int .i64 ((r.1.sf : Int)), .int .i64 ((r.1.st : Int)), .int .i64 ((r.1.gf : Int)), .int .i64 ((r.1.gt : Int)), .int .i64 ((r.1.cf : Int)), .int .i64 ((r.1.ct : Int)), .int .i64 (((r.1.next : Int) * 16))], .int .i64 ((r.2.getD 0 : Nat) : Int), .bool r.2.isSome]) ∧ BsAt B0 w' tb' tc' (tks r.1.lines) ∧ Fr [] w w'
/-- What stands ahead of the last part: a run that is wide enough. -/
def CutC (B0 : Nat) (wa : Option Addr) (wn wc : Nat) (ma : Option Addr) (mn mc : Nat) (m : Nat) (w : World) (pb : Nat) (A : Ar) (n : Nat) (wx : World) : Prop :=
  ∃ tb' tc' f t L', blk wx pb = some (.cells #[.slice wa wn wc, .slice (some ⟨tb', 0, none⟩) (m * 16) tc', .slice ma mn mc, .int .i64 ((A.sf : Int)), .int .i64 ((A.st : Int)), .int .i64 ((A.gf : Int)), .int .i64 ((A.gt : Int)), .int .i64 (((f : Nat) : Int)), .int .i64 (((t : Nat) : Int)), .int .i64 (((A.next : Int) * 16))] 31 (0, 0)) ∧ blk wx (pb + 1) = some (.cells #[.slice none 0 0, .slice none 0 0, .slice none 0 0, .int .i64 0, .int .i64 0, .int .i64 0, .int .i64 0, .int .i64 0, .int .i64 0, .int .i64 0] 31 (0, 0)) ∧ BsAt B0 wx tb' tc' (tks L') ∧ Fr [] w wx ∧ A.freshA n m = ({ A with lines := L', cf := f + n, ct := t }, some f) ∧ f ≤ 100000 ∧ tb' ≠ pb ∧ tb' ≠ pb + 1
set_option maxRecDepth 100000 in
set_option maxHeartbeats 4000000 in
theorem rfresh_in (w : World) (ok : A.Ok m) (hB : BsAt B0 w tb tc (tks A.lines)) (hm : m ≤ 100) (n : Nat) (h1 : 1 ≤ n) (h2 : n ≤ 256) :
    Calls Try.prog 80 #[.agg #[.slice wa wn wc, .slice (some ⟨tb, 0, none⟩) (m * 16) tc, .slice ma mn mc, .int .i64 ((A.sf : Int)), .int .i64 ((A.st : Int)), .int .i64 ((A.gf : Int)), .int .i64 ((A.gt : Int)), .int .i64 ((A.cf : Int)), .int .i64 ((A.ct : Int)), .int .i64 (((A.next : Int) * 16))], .int .i64 (n : Int)] w (GivesA B0 wa wn wc ma mn mc m w (A.freshA n m)) := by
  have HB := Lib.hid hB
  have OK := Lib.hid ok
  have htc : m * 16 ≤ tc := by have := hB.cp.1; rw [len_tks, ok.ll] at this; exact this
  have htc2 : tc ≤ 9223372036854775807 := by have := hB.cp.2; unfold maxLen at this; omega
  have hc1 := ok.c1
  have hc2 := ok.c2
  obtain ⟨W1, hW1⟩ : ∃ W1, W1 = (w.alloc (.cells #[.slice wa wn wc, .slice (some ⟨tb, 0, none⟩) (m * 16) tc, .slice ma mn mc, .int .i64 ((A.sf : Int)), .int .i64 ((A.st : Int)), .int .i64 ((A.gf : Int)), .int .i64 ((A.gt : Int)), .int .i64 ((A.cf : Int)), .int .i64 ((A.ct : Int)), .int .i64 (((A.next : Int) * 16))] 31)).alloc (.cells #[.slice none 0 0, .slice none 0 0, .slice none 0 0, .int .i64 0, .int .i64 0, .int .i64 0, .int .i64 0, .int .i64 0, .int .i64 0, .int .i64 0] 31) := ⟨_, rfl⟩
  have P1 := Lib.hid (show blk W1 w.heap.size = some (.cells #[.slice wa wn wc, .slice (some ⟨tb, 0, none⟩) (m * 16) tc, .slice ma mn mc, .int .i64 ((A.sf : Int)), .int .i64 ((A.st : Int)), .int .i64 ((A.gf : Int)), .int .i64 ((A.gt : Int)), .int .i64 ((A.cf : Int)), .int .i64 ((A.ct : Int)), .int .i64 (((A.next : Int) * 16))] 31 (0, 0)) by rw [hW1, blk_alloc, if_neg (by rw [size_alloc]; omega), blk_alloc, if_pos rfl])
  have R1 := Lib.hid (show blk W1 (w.heap.size + 1) = some (.cells #[.slice none 0 0, .slice none 0 0, .slice none 0 0, .int .i64 0, .int .i64 0, .int .i64 0, .int .i64 0, .int .i64 0, .int .i64 0, .int .i64 0] 31 (0, 0)) by rw [hW1, blk_alloc, if_pos (by rw [size_alloc])])
  have F1 : Hid (Fr [] w W1) := Lib.hid (by rw [hW1]; exact ((Fr.refl _ _).alloc _).alloc _)
  obtain ⟨pb, hpb⟩ : ∃ pb, pb = w.heap.size := ⟨_, rfl⟩
  have HPB := Lib.hid hpb
  rw [← hpb] at P1 R1
  have CLAST := Lib.hid (fun (w1 : World) (hF : Fr [] w w1) => rlast_c (wa := wa) (wn := wn) (wc := wc) (ma := ma) (mn := mn) (mc := mc) (sf := (A.sf : Int)) (st := (A.st : Int)) (gf := (A.gf : Int)) (gt := (A.gt : Int)) (cf := (A.cf : Int)) (ct := (A.ct : Int)) (nx := (A.next : Int) * 16) w1 (hB.keep hF) ok.ll hm)
  have CCL := Lib.hid (fun (w1 : World) (hF : Fr [] w w1) (f t : Nat) (hf : f ≤ t) (ht : t ≤ m * 16) => rclaim_m (wa := wa) (wn := wn) (wc := wc) (ma := ma) (mn := mn) (mc := mc) (sf := (A.sf : Int)) (st := (A.st : Int)) (gf := (A.gf : Int)) (gt := (A.gt : Int)) (cf := (A.cf : Int)) (ct := (A.ct : Int)) (nx := (A.next : Int) * 16) w1 (hB.keep hF) ok.ll hm f t hf ht)
  clear hB ok
  go_enter Try.func80, Try.ntmps80
  go_upto_region 3 with fail
  rw [← hW1, ← hpb]
  clear hW1 hpb
  have p0 := cell_of P1.out (i := 0) rfl
  have p1 := cell_of P1.out (i := 1) rfl
  have p2 := cell_of P1.out (i := 2) rfl
  have p3 := cell_of P1.out (i := 3) rfl
  have p4 := cell_of P1.out (i := 4) rfl
  have p5 := cell_of P1.out (i := 5) rfl
  have p6 := cell_of P1.out (i := 6) rfl
  have p7 := cell_of P1.out (i := 7) rfl
  have p8 := cell_of P1.out (i := 8) rfl
  have p9 := cell_of P1.out (i := 9) rfl
  have pf0 := free_of P1.out (i := 0)
  have pf1 := free_of P1.out (i := 1)
  have pf2 := free_of P1.out (i := 2)
  have pf3 := free_of P1.out (i := 3)
  have pf4 := free_of P1.out (i := 4)
  have pf5 := free_of P1.out (i := 5)
  have pf6 := free_of P1.out (i := 6)
  have pf7 := free_of P1.out (i := 7)
  have pf8 := free_of P1.out (i := 8)
  have pf9 := free_of P1.out (i := 9)
  have r0 := cell_of R1.out (i := 0) rfl
  have r1 := cell_of R1.out (i := 1) rfl
  have r2 := cell_of R1.out (i := 2) rfl
  have r3 := cell_of R1.out (i := 3) rfl
  have r4 := cell_of R1.out (i := 4) rfl
  have r5 := cell_of R1.out (i := 5) rfl
  have r6 := cell_of R1.out (i := 6) rfl
  have r7 := cell_of R1.out (i := 7) rfl
  have r8 := cell_of R1.out (i := 8) rfl
  have r9 := cell_of R1.out (i := 9) rfl
  have rf0 := free_of R1.out (i := 0)
  have rf1 := free_of R1.out (i := 1)
  have rf2 := free_of R1.out (i := 2)
  have rf3 := free_of R1.out (i := 3)
  have rf4 := free_of R1.out (i := 4)
  have rf5 := free_of R1.out (i := 5)
  have rf6 := free_of R1.out (i := 6)
  have rf7 := free_of R1.out (i := 7)
  have rf8 := free_of R1.out (i := 8)
  have rf9 := free_of R1.out (i := 9)
  go_upto_if 25 with fail
  go_cut [] (fun wx => CutC B0 wa wn wc ma mn mc m w pb A n wx)
  case first =>
    by_cases hc : n ≤ A.ct - A.cf
    · have hlt : ¬ (A.ct : Int) - (A.cf : Int) < (n : Int) := by omega
      go_wp2_with fail
      go_meet
      have hbl := HB.out.lt
      have hpb := HPB.out
      refine ⟨tb, tc, A.cf, A.ct, A.lines, P1.out, R1.out, HB.out.keep F1.out, F1.out, ?_, by omega, by omega, by omega⟩
      unfold Ar.freshA
      rw [if_pos hc]
    · have hlt : (A.ct : Int) - (A.cf : Int) < (n : Int) := by omega
      have hfr : A.freshA n m = match blockBelow A.lines m with | some q => ({ A.claim (q * 16) ((q + 1) * 16) with cf := q * 16 * 16 + n, ct := (q + 1) * 16 * 16 }, some (q * 16 * 16)) | none => (A, none) := by unfold Ar.freshA; rw [if_neg hc]; rfl
      have HFR := Lib.hid hfr
      clear hfr hc
      go_wp2_with fail
      refine (CLAST.out _ F1.out).mono ?_
      rintro e w5 ⟨rfl, F5⟩
      have P5 := Lib.hid (F5.at P1.out (by simp))
      have R5 := Lib.hid (F5.at R1.out (by simp))
      have F5 := Lib.hid (F1.out.same F5)
      clear p0 p1 p2 p3 p4 p5 p6 p7 p8 p9 pf0 pf1 pf2 pf3 pf4 pf5 pf6 pf7 pf8 pf9 r0 r1 r2 r3 r4 r5 r6 r7 r8 r9 rf0 rf1 rf2 rf3 rf4 rf5 rf6 rf7 rf8 rf9
      have p0 := cell_of P5.out (i := 0) rfl
      have p1 := cell_of P5.out (i := 1) rfl
      have p2 := cell_of P5.out (i := 2) rfl
      have p3 := cell_of P5.out (i := 3) rfl
      have p4 := cell_of P5.out (i := 4) rfl
      have p5 := cell_of P5.out (i := 5) rfl
      have p6 := cell_of P5.out (i := 6) rfl
      have p7 := cell_of P5.out (i := 7) rfl
      have p8 := cell_of P5.out (i := 8) rfl
      have p9 := cell_of P5.out (i := 9) rfl
      have pf0 := free_of P5.out (i := 0)
      have pf1 := free_of P5.out (i := 1)
      have pf2 := free_of P5.out (i := 2)
      have pf3 := free_of P5.out (i := 3)
      have pf4 := free_of P5.out (i := 4)
      have pf5 := free_of P5.out (i := 5)
      have pf6 := free_of P5.out (i := 6)
      have pf7 := free_of P5.out (i := 7)
      have pf8 := free_of P5.out (i := 8)
      have pf9 := free_of P5.out (i := 9)
      have r0 := cell_of R5.out (i := 0) rfl
      have r1 := cell_of R5.out (i := 1) rfl
      have r2 := cell_of R5.out (i := 2) rfl
      have r3 := cell_of R5.out (i := 3) rfl
      have r4 := cell_of R5.out (i := 4) rfl
      have r5 := cell_of R5.out (i := 5) rfl
      have r6 := cell_of R5.out (i := 6) rfl
      have r7 := cell_of R5.out (i := 7) rfl
      have r8 := cell_of R5.out (i := 8) rfl
      have r9 := cell_of R5.out (i := 9) rfl
      have rf0 := free_of R5.out (i := 0)
      have rf1 := free_of R5.out (i := 1)
      have rf2 := free_of R5.out (i := 2)
      have rf3 := free_of R5.out (i := 3)
      have rf4 := free_of R5.out (i := 4)
      have rf5 := free_of R5.out (i := 5)
      have rf6 := free_of R5.out (i := 6)
      have rf7 := free_of R5.out (i := 7)
      have rf8 := free_of R5.out (i := 8)
      have rf9 := free_of R5.out (i := 9)
      cases hb : blockBelow A.lines m with
      | none =>
        have hfr := HFR.out
        rw [hb] at hfr
        have HFR := Lib.hid hfr
        clear hfr hb
        simp only [lastI]
        go_wp2
        refine bodyPost_ret (ret_st3 rfl _ _ _ _ rfl (blk10 R5.out) rfl size_arena14 und_arena14) rfl ?_
        rw [HFR.out]
        exact ⟨tb, tc, rfl, HB.out.keep (fr10 F5.out (.inr (by rw [HPB.out]; omega))), fr10 F5.out (.inr (by rw [HPB.out]; omega))⟩
      | some q =>
        have hq := (blockBelow_lt _ _ _ hb).1
        have hfr := HFR.out
        rw [hb] at hfr
        have HFR := Lib.hid hfr
        clear hfr hb
        simp only [lastI]
        have hq0 : ¬ ((q : Int) < 0) := by omega
        have CL := CCL.out w5 F5.out (16 * q) (16 * q + 16) (by omega) (by omega)
        rw [show ((16 * q : Nat) : Int) = 16 * (q : Int) by omega, show ((16 * q + 16 : Nat) : Int) = 16 * (q : Int) + 16 by omega] at CL
        have CL := Lib.hid CL
        go_wp2_with fail
        refine CL.out.mono ?_
        rintro e w6 ⟨tb', tc', rfl, B6, F6, hbt⟩
        have htp : pb + 1 < tb' := by have := lt_size R5.out; omega
        have P6 := Lib.hid (F6.at P5.out (by simp))
        have R6 := Lib.hid (F6.at R5.out (by simp))
        have B6 := Lib.hid B6
        have F6 := Lib.hid (F5.out.same F6)
        clear p0 p1 p2 p3 p4 p5 p6 p7 p8 p9 pf0 pf1 pf2 pf3 pf4 pf5 pf6 pf7 pf8 pf9 r0 r1 r2 r3 r4 r5 r6 r7 r8 r9 rf0 rf1 rf2 rf3 rf4 rf5 rf6 rf7 rf8 rf9
        have p0 := cell_of P6.out (i := 0) rfl
        have p1 := cell_of P6.out (i := 1) rfl
        have p2 := cell_of P6.out (i := 2) rfl
        have p3 := cell_of P6.out (i := 3) rfl
        have p4 := cell_of P6.out (i := 4) rfl
        have p5 := cell_of P6.out (i := 5) rfl
        have p6 := cell_of P6.out (i := 6) rfl
        have p7 := cell_of P6.out (i := 7) rfl
        have p8 := cell_of P6.out (i := 8) rfl
        have p9 := cell_of P6.out (i := 9) rfl
        have pf0 := free_of P6.out (i := 0)
        have pf1 := free_of P6.out (i := 1)
        have pf2 := free_of P6.out (i := 2)
        have pf3 := free_of P6.out (i := 3)
        have pf4 := free_of P6.out (i := 4)
        have pf5 := free_of P6.out (i := 5)
        have pf6 := free_of P6.out (i := 6)
        have pf7 := free_of P6.out (i := 7)
        have pf8 := free_of P6.out (i := 8)
        have pf9 := free_of P6.out (i := 9)
        have r0 := cell_of R6.out (i := 0) rfl
        have r1 := cell_of R6.out (i := 1) rfl
        have r2 := cell_of R6.out (i := 2) rfl
        have r3 := cell_of R6.out (i := 3) rfl
        have r4 := cell_of R6.out (i := 4) rfl
        have r5 := cell_of R6.out (i := 5) rfl
        have r6 := cell_of R6.out (i := 6) rfl
        have r7 := cell_of R6.out (i := 7) rfl
        have r8 := cell_of R6.out (i := 8) rfl
        have r9 := cell_of R6.out (i := 9) rfl
        have rf0 := free_of R6.out (i := 0)
        have rf1 := free_of R6.out (i := 1)
        have rf2 := free_of R6.out (i := 2)
        have rf3 := free_of R6.out (i := 3)
        have rf4 := free_of R6.out (i := 4)
        have rf5 := free_of R6.out (i := 5)
        have rf6 := free_of R6.out (i := 6)
        have rf7 := free_of R6.out (i := 7)
        have rf8 := free_of R6.out (i := 8)
        have rf9 := free_of R6.out (i := 9)
        go_upto_region 8 with fail
        obtain ⟨W7, hW7⟩ : ∃ W7, W7 = ((((((((((w6.setCell ⟨pb, 0, none⟩ (.slice wa wn wc)).setCell ⟨pb, 1, none⟩ (.slice (some ⟨tb', 0, none⟩) (m * 16) tc')).setCell ⟨pb, 2, none⟩ (.slice ma mn mc)).setCell ⟨pb, 3, none⟩ (.int .i64 (A.sf : Int))).setCell ⟨pb, 4, none⟩ (.int .i64 (A.st : Int))).setCell ⟨pb, 5, none⟩ (.int .i64 (A.gf : Int))).setCell ⟨pb, 6, none⟩ (.int .i64 (A.gt : Int))).setCell ⟨pb, 7, none⟩ (.int .i64 (A.cf : Int))).setCell ⟨pb, 8, none⟩ (.int .i64 (A.ct : Int))).setCell ⟨pb, 9, none⟩ (.int .i64 ((A.next : Int) * 16))) := ⟨_, rfl⟩
        rw [← hW7]
        have P7 := Lib.hid (show blk W7 pb = some (.cells #[.slice wa wn wc, .slice (some ⟨tb', 0, none⟩) (m * 16) tc', .slice ma mn mc, .int .i64 ((A.sf : Int)), .int .i64 ((A.st : Int)), .int .i64 ((A.gf : Int)), .int .i64 ((A.gt : Int)), .int .i64 ((A.cf : Int)), .int .i64 ((A.ct : Int)), .int .i64 (((A.next : Int) * 16))] 31 (0, 0)) by rw [hW7]; exact blk10 P6.out)
        have R7 := Lib.hid (show blk W7 (pb + 1) = some (.cells #[.slice none 0 0, .slice none 0 0, .slice none 0 0, .int .i64 0, .int .i64 0, .int .i64 0, .int .i64 0, .int .i64 0, .int .i64 0, .int .i64 0] 31 (0, 0)) by rw [hW7, blk10_ne (by omega)]; exact R6.out)
        have B7 := Lib.hid (show BsAt B0 W7 tb' tc' (tks (claimed A.lines (16 * q) (16 * q + 16))) by rw [hW7]; exact B6.out.fr (fr10 (Fr.refl [pb] w6) (.inl (by simp))) (by simp; omega))
        have F7 := Lib.hid (show Fr [] w W7 by rw [hW7]; exact fr10 F6.out (.inr (by rw [HPB.out]; exact Nat.le_refl _)))
        clear hW7 P6 R6 B6 F6 P5 R5
        clear p0 p1 p2 p3 p4 p5 p6 p7 p8 p9 pf0 pf1 pf2 pf3 pf4 pf5 pf6 pf7 pf8 pf9 r0 r1 r2 r3 r4 r5 r6 r7 r8 r9 rf0 rf1 rf2 rf3 rf4 rf5 rf6 rf7 rf8 rf9
        have p0 := cell_of P7.out (i := 0) rfl
        have p1 := cell_of P7.out (i := 1) rfl
        have p2 := cell_of P7.out (i := 2) rfl
        have p3 := cell_of P7.out (i := 3) rfl
        have p4 := cell_of P7.out (i := 4) rfl
        have p5 := cell_of P7.out (i := 5) rfl
        have p6 := cell_of P7.out (i := 6) rfl
        have p7 := cell_of P7.out (i := 7) rfl
        have p8 := cell_of P7.out (i := 8) rfl
        have p9 := cell_of P7.out (i := 9) rfl
        have pf0 := free_of P7.out (i := 0)
        have pf1 := free_of P7.out (i := 1)
        have pf2 := free_of P7.out (i := 2)
        have pf3 := free_of P7.out (i := 3)
        have pf4 := free_of P7.out (i := 4)
        have pf5 := free_of P7.out (i := 5)
        have pf6 := free_of P7.out (i := 6)
        have pf7 := free_of P7.out (i := 7)
        have pf8 := free_of P7.out (i := 8)
        have pf9 := free_of P7.out (i := 9)
        have r0 := cell_of R7.out (i := 0) rfl
        have r1 := cell_of R7.out (i := 1) rfl
        have r2 := cell_of R7.out (i := 2) rfl
        have r3 := cell_of R7.out (i := 3) rfl
        have r4 := cell_of R7.out (i := 4) rfl
        have r5 := cell_of R7.out (i := 5) rfl
        have r6 := cell_of R7.out (i := 6) rfl
        have r7 := cell_of R7.out (i := 7) rfl
        have r8 := cell_of R7.out (i := 8) rfl
        have r9 := cell_of R7.out (i := 9) rfl
        have rf0 := free_of R7.out (i := 0)
        have rf1 := free_of R7.out (i := 1)
        have rf2 := free_of R7.out (i := 2)
        have rf3 := free_of R7.out (i := 3)
        have rf4 := free_of R7.out (i := 4)
        have rf5 := free_of R7.out (i := 5)
        have rf6 := free_of R7.out (i := 6)
        have rf7 := free_of R7.out (i := 7)
        have rf8 := free_of R7.out (i := 8)
        have rf9 := free_of R7.out (i := 9)
        go_wp2_with fail
        go_meet
        refine ⟨tb', tc', 256 * q, 256 * q + 256, claimed A.lines (16 * q) (16 * q + 16), ?_, ?_, ?_, ?_, ?_, by omega, by omega, by omega⟩
        · have := blk_two (i := 7) (j := 8) P7.out (.int .i64 (256 * (q : Int))) (.int .i64 (256 * (q : Int) + 256))
          rw [show ((256 * q : Nat) : Int) = 256 * (q : Int) by omega, show ((256 * q + 256 : Nat) : Int) = 256 * (q : Int) + 256 by omega]
          simpa only [List.setIfInBounds_toArray, List.set_cons_succ, List.set_cons_zero] using this
        · rw [blk_set, if_neg (by omega), blk_set, if_neg (by omega)]
          exact R7.out
        · exact B7.out.fr (((Fr.refl [pb] W7).setCell (.inl (by simp)) _).setCell (.inl (by simp)) _) (by simp; omega)
        · exact (F7.out.setCell (.inr (by rw [HPB.out]; exact Nat.le_refl _)) _).setCell (.inr (by rw [HPB.out]; exact Nat.le_refl _)) _
        · rw [HFR.out]
          unfold Ar.claim
          rw [show q * 16 * 16 = 256 * q by omega, show (q + 1) * 16 * 16 = 256 * q + 256 by omega, show q * 16 = 16 * q by omega, show (q + 1) * 16 = 16 * q + 16 by omega]
  case rest =>
    obtain ⟨tb', tc', f, t, L', P, R, BX, FX, hfr, hf, hb1, hb2⟩ := hcut
    have HFR := Lib.hid hfr
    have P := Lib.hid P
    have R := Lib.hid R
    have BX := Lib.hid BX
    have FX := Lib.hid FX
    have CO := Lib.hid (roff_c wc (f : Int) (t : Int) (n : Int) (by omega) (by omega) (by omega) (by omega))
    clear hfr CLAST CCL P1 R1 F1 HB
    clear p0 p1 p2 p3 p4 p5 p6 p7 p8 p9 pf0 pf1 pf2 pf3 pf4 pf5 pf6 pf7 pf8 pf9 r0 r1 r2 r3 r4 r5 r6 r7 r8 r9 rf0 rf1 rf2 rf3 rf4 rf5 rf6 rf7 rf8 rf9
    have p0 := cell_of P.out (i := 0) rfl
    have p1 := cell_of P.out (i := 1) rfl
    have p2 := cell_of P.out (i := 2) rfl
    have p3 := cell_of P.out (i := 3) rfl
    have p4 := cell_of P.out (i := 4) rfl
    have p5 := cell_of P.out (i := 5) rfl
    have p6 := cell_of P.out (i := 6) rfl
    have p7 := cell_of P.out (i := 7) rfl
    have p8 := cell_of P.out (i := 8) rfl
    have p9 := cell_of P.out (i := 9) rfl
    have pf0 := free_of P.out (i := 0)
    have pf1 := free_of P.out (i := 1)
    have pf2 := free_of P.out (i := 2)
    have pf3 := free_of P.out (i := 3)
    have pf4 := free_of P.out (i := 4)
    have pf5 := free_of P.out (i := 5)
    have pf6 := free_of P.out (i := 6)
    have pf7 := free_of P.out (i := 7)
    have pf8 := free_of P.out (i := 8)
    have pf9 := free_of P.out (i := 9)
    have r0 := cell_of R.out (i := 0) rfl
    have r1 := cell_of R.out (i := 1) rfl
    have r2 := cell_of R.out (i := 2) rfl
    have r3 := cell_of R.out (i := 3) rfl
    have r4 := cell_of R.out (i := 4) rfl
    have r5 := cell_of R.out (i := 5) rfl
    have r6 := cell_of R.out (i := 6) rfl
    have r7 := cell_of R.out (i := 7) rfl
    have r8 := cell_of R.out (i := 8) rfl
    have r9 := cell_of R.out (i := 9) rfl
    have rf0 := free_of R.out (i := 0)
    have rf1 := free_of R.out (i := 1)
    have rf2 := free_of R.out (i := 2)
    have rf3 := free_of R.out (i := 3)
    have rf4 := free_of R.out (i := 4)
    have rf5 := free_of R.out (i := 5)
    have rf6 := free_of R.out (i := 6)
    have rf7 := free_of R.out (i := 7)
    have rf8 := free_of R.out (i := 8)
    have rf9 := free_of R.out (i := 9)
    go_wp2_with fail
    refine CO.out.mono ?_
    rintro e w8 ⟨rfl, F8⟩
    have P8 := Lib.hid (F8.at P.out (by simp))
    have R8 := Lib.hid (F8.at R.out (by simp))
    have B8 := Lib.hid (BX.out.keep F8)
    have F9 := Lib.hid (FX.out.same F8)
    have hpl : pb + 1 < w8.heap.size := lt_size R8.out
    have hpl0 : pb < w8.heap.size := by omega
    have hpn : pb ≠ w8.heap.size := by omega
    have hpn1 : pb + 1 ≠ w8.heap.size := by omega
    clear CO F8
    clear p0 p1 p2 p3 p4 p5 p6 p7 p8 p9 pf0 pf1 pf2 pf3 pf4 pf5 pf6 pf7 pf8 pf9 r0 r1 r2 r3 r4 r5 r6 r7 r8 r9 rf0 rf1 rf2 rf3 rf4 rf5 rf6 rf7 rf8 rf9
    have p0 := cell_of P8.out (i := 0) rfl
    have p1 := cell_of P8.out (i := 1) rfl
    have p2 := cell_of P8.out (i := 2) rfl
    have p3 := cell_of P8.out (i := 3) rfl
    have p4 := cell_of P8.out (i := 4) rfl
    have p5 := cell_of P8.out (i := 5) rfl
    have p6 := cell_of P8.out (i := 6) rfl
    have p7 := cell_of P8.out (i := 7) rfl
    have p8 := cell_of P8.out (i := 8) rfl
    have p9 := cell_of P8.out (i := 9) rfl
    have pf0 := free_of P8.out (i := 0)
    have pf1 := free_of P8.out (i := 1)
    have pf2 := free_of P8.out (i := 2)
    have pf3 := free_of P8.out (i := 3)
    have pf4 := free_of P8.out (i := 4)
    have pf5 := free_of P8.out (i := 5)
    have pf6 := free_of P8.out (i := 6)
    have pf7 := free_of P8.out (i := 7)
    have pf8 := free_of P8.out (i := 8)
    have pf9 := free_of P8.out (i := 9)
    have r0 := cell_of R8.out (i := 0) rfl
    have r1 := cell_of R8.out (i := 1) rfl
    have r2 := cell_of R8.out (i := 2) rfl
    have r3 := cell_of R8.out (i := 3) rfl
    have r4 := cell_of R8.out (i := 4) rfl
    have r5 := cell_of R8.out (i := 5) rfl
    have r6 := cell_of R8.out (i := 6) rfl
    have r7 := cell_of R8.out (i := 7) rfl
    have r8 := cell_of R8.out (i := 8) rfl
    have r9 := cell_of R8.out (i := 9) rfl
    have rf0 := free_of R8.out (i := 0)
    have rf1 := free_of R8.out (i := 1)
    have rf2 := free_of R8.out (i := 2)
    have rf3 := free_of R8.out (i := 3)
    have rf4 := free_of R8.out (i := 4)
    have rf5 := free_of R8.out (i := 5)
    have rf6 := free_of R8.out (i := 6)
    have rf7 := free_of R8.out (i := 7)
    have rf8 := free_of R8.out (i := 8)
    have rf9 := free_of R8.out (i := 9)
    go_wp2
    have hle : w.heap.size ≤ pb := by rw [HPB.out]; exact Nat.le_refl _
    have RF := blk_final (W := (w8.setCell ⟨pb, 7, none⟩ (.int .i64 ((f : Int) + (n : Int)))).setCell ⟨pb, 8, none⟩ (.int .i64 (t : Int))) (g := pb + 1) (o := .cells #[.int .i64 ((f : Int) + (n : Int)), .int .i64 (t : Int)] 29) (by rw [blk_set, if_neg (by omega), blk_set, if_neg (by omega)]; exact R8.out)
    refine bodyPost_ret (ret_st3 rfl _ _ _ _ rfl (RF _ _ _ _ _ _ _ _ _ _) rfl size_arena14 und_arena14) rfl ?_
    rw [HFR.out]
    refine ⟨tb', tc', rfl, ?_, ?_⟩
    · exact B8.out.fr ((fr10 (((Fr.refl [pb, pb + 1] w8).setCell (.inl (by simp)) _).setCell (.inl (by simp)) _) (.inl (by simp))).alloc _) (by simp; omega)
    · exact (fr10 ((F9.out.setCell (.inr hle) _).setCell (.inr hle) _) (.inr (by omega))).alloc _
set_option maxRecDepth 100000 in
theorem rfresh_c (w : World) (ok : A.Ok m) (hB : BsAt B0 w tb tc (tks A.lines)) (hm : m ≤ 100) (n : Int) :
    Calls Try.prog 80 #[.agg #[.slice wa wn wc, .slice (some ⟨tb, 0, none⟩) (m * 16) tc, .slice ma mn mc, .int .i64 ((A.sf : Int)), .int .i64 ((A.st : Int)), .int .i64 ((A.gf : Int)), .int .i64 ((A.gt : Int)), .int .i64 ((A.cf : Int)), .int .i64 ((A.ct : Int)), .int .i64 (((A.next : Int) * 16))], .int .i64 n] w (GivesA B0 wa wn wc ma mn mc m w (A.fresh m n)) := by
  by_cases hn : n < 1 ∨ 256 < n
  · have hf : A.fresh m n = (A, none) := by unfold Ar.fresh; rw [if_pos hn]
    rw [hf]
    have HB := Lib.hid hB
    clear hB ok hf
    by_cases h1 : n < 1
    · clear hn
      go_enter Try.func80, Try.ntmps80
      go_wp2
      refine bodyPost_ret (ret_st3 rfl _ _ _ _ rfl (show blk ((w.alloc _).alloc _) (w.heap.size + 1) = _ by rw [blk_alloc, if_pos (by rw [size_alloc])]) rfl size_arena14 und_arena14) rfl ?_
      exact ⟨tb, tc, rfl, HB.out.keep (((Fr.refl _ _).alloc _).alloc _), ((Fr.refl _ _).alloc _).alloc _⟩
    · have h2 : 256 < n := by omega
      clear hn
      go_enter Try.func80, Try.ntmps80
      go_wp2
      refine bodyPost_ret (ret_st3 rfl _ _ _ _ rfl (show blk ((w.alloc _).alloc _) (w.heap.size + 1) = _ by rw [blk_alloc, if_pos (by rw [size_alloc])]) rfl size_arena14 und_arena14) rfl ?_
      exact ⟨tb, tc, rfl, HB.out.keep (((Fr.refl _ _).alloc _).alloc _), ((Fr.refl _ _).alloc _).alloc _⟩
  · have hf : A.fresh m n = A.freshA n.toNat m := by unfold Ar.fresh; rw [if_neg hn]
    rw [hf]
    have := rfresh_in (wa := wa) (wn := wn) (wc := wc) (ma := ma) (mn := mn) (mc := mc) w ok hB hm n.toNat (by omega) (by omega)
    rwa [show ((n.toNat : Nat) : Int) = n by omega] at this
end Go.Proofs.Ytjgndfhfiekomaa
