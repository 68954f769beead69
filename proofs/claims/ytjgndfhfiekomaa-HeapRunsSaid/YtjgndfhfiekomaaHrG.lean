/- The document's arena: Alloc. -/
import Derived.Test.YtjgndfhfiekomaaHrF
set_option linter.all false
namespace Go.Proofs.Ytjgndfhfiekomaa
open Go.ChangeShapes Go.WideShapes Go.RowKit
variable {B0 : Nat} {w w' : World} {tb tc : Nat} {wa ma : Option Addr} {wn wk mn mc : Nat} {L : List (Bool × Bool)} {m : Nat} {A : Ar}
/-- The next line to be looked at begins a hole, or none. -/
def NextOk (A : Ar) : Prop := A.next = 0 ∨ tk A.lines (A.next - 1) = true
def pickS (L : List (Bool × Bool)) (x k : Nat) : Option (Nat × Nat) := ((runs L).take k).find? fun p => decide (x ≤ p.1)
theorem pickS_yes {x k : Nat} {p : Nat × Nat} (hp : (runs L)[k]? = some p) (hn : pickS L x k = none) (hw : x ≤ p.1) : pickS L x (k + 1) = some p := by
  unfold pickS at hn ⊢
  rw [List.take_add_one, hp, List.find?_append, hn]
  simp [hw]
theorem pickS_no {x k : Nat} {p : Nat × Nat} (hp : (runs L)[k]? = some p) (hn : pickS L x k = none) (hw : ¬ x ≤ p.1) : pickS L x (k + 1) = none := by
  unfold pickS at hn ⊢
  rw [List.take_add_one, hp, List.find?_append, hn]
  simp [hw]
theorem pickS_some {x k : Nat} {p q : Nat × Nat} (hp : (runs L)[k]? = some p) (hn : pickS L x k = some q) : pickS L x (k + 1) = some q := by
  unfold pickS at hn ⊢
  rw [List.take_add_one, hp, List.find?_append, hn]
  rfl
theorem pickS_done {n : Nat} (hc : ¬ n ≤ A.st - A.sf) (hx : NextOk A) :
    A.smallA n = match pickS A.lines A.next (runs A.lines).length with
      | none => (A, none)
      | some p => ({ A.claim p.1 p.2 with sf := 16 * p.1 + n, st := 16 * p.2, next := p.2 }, some (16 * p.1)) := by
  unfold Ar.smallA pickS
  rw [if_neg hc, List.take_length]
  have hfe := find_runs A.lines 1 (by omega) A.lines.length A.next (by omega) (cut_tk hx)
  have hco : (runs A.lines).find? (fun p => decide (A.next ≤ p.1 ∧ (1 : Int) ≤ (p.2 : Int) - p.1)) = (runs A.lines).find? (fun p => decide (A.next ≤ p.1)) := by
    refine find_congr fun p hp => ?_
    have hr := ((runs_ok A.lines _).ok p (runs_mem.1 hp)).lt
    rw [decide_eq_decide]
    omega
  rw [hco] at hfe
  rw [hfe]
  cases (runs A.lines).find? (fun p => decide (A.next ≤ p.1)) with
  | none => rfl
  | some p =>
    simp only
    rw [show p.1 * 16 = 16 * p.1 by omega, show p.2 * 16 = 16 * p.2 by omega]
/-- What stands ahead of the last part: a run that is wide enough. -/
def CutS (B0 : Nat) (wa : Option Addr) (wn wk : Nat) (ma : Option Addr) (mn mc : Nat) (m : Nat) (w : World) (pb : Nat) (A : Ar) (n : Nat) (wx : World) : Prop :=
  ∃ tb' tc' f t L' x, blk wx pb = some (.cells #[.slice wa wn wk, .slice (some ⟨tb', 0, none⟩) (m * 16) tc', .slice ma mn mc, .int .i64 (((f : Nat) : Int)), .int .i64 (((t : Nat) : Int)), .int .i64 ((A.gf : Int)), .int .i64 ((A.gt : Int)), .int .i64 ((A.cf : Int)), .int .i64 ((A.ct : Int)), .int .i64 (((x : Nat) : Int) * 16)] 31 (0, 0)) ∧ blk wx (pb + 1) = some (.cells #[.slice none 0 0, .slice none 0 0, .slice none 0 0, .int .i64 0, .int .i64 0, .int .i64 0, .int .i64 0, .int .i64 0, .int .i64 0, .int .i64 0] 31 (0, 0)) ∧ BsAt B0 wx tb' tc' (tks L') ∧ Fr [] w wx ∧ A.smallA n = ({ A with lines := L', sf := f + n, st := t, next := x }, some f) ∧ f ≤ 100000 ∧ tb' ≠ pb ∧ tb' ≠ pb + 1
/-- In the loop: a hole was found, or none. -/
def LoopS (B0 : Nat) (wa : Option Addr) (wn wk : Nat) (ma : Option Addr) (mn mc : Nat) (m : Nat) (w : World) (pb : Nat) (A : Ar) (k : Nat) (b : Value) (tb tc : Nat) (wx : World) : Prop :=
  blk wx (pb + 1) = some (.cells #[.slice none 0 0, .slice none 0 0, .slice none 0 0, .int .i64 0, .int .i64 0, .int .i64 0, .int .i64 0, .int .i64 0, .int .i64 0, .int .i64 0] 31 (0, 0)) ∧ Fr [] w wx ∧
  ((b = .bool false ∧ pickS A.lines A.next k = none ∧ blk wx pb = some (.cells #[.slice wa wn wk, .slice (some ⟨tb, 0, none⟩) (m * 16) tc, .slice ma mn mc, .int .i64 ((A.sf : Int)), .int .i64 ((A.st : Int)), .int .i64 ((A.gf : Int)), .int .i64 ((A.gt : Int)), .int .i64 ((A.cf : Int)), .int .i64 ((A.ct : Int)), .int .i64 (((A.next : Int) * 16))] 31 (0, 0))) ∨
   (b = .bool true ∧ ∃ p tb' tc', pickS A.lines A.next k = some p ∧ p.2 ≤ m * 16 ∧ p.1 ≤ p.2 ∧ blk wx pb = some (.cells #[.slice wa wn wk, .slice (some ⟨tb', 0, none⟩) (m * 16) tc', .slice ma mn mc, .int .i64 (16 * (p.1 : Int)), .int .i64 (16 * (p.2 : Int)), .int .i64 ((A.gf : Int)), .int .i64 ((A.gt : Int)), .int .i64 ((A.cf : Int)), .int .i64 ((A.ct : Int)), .int .i64 (16 * (p.2 : Int))] 31 (0, 0)) ∧ BsAt B0 wx tb' tc' (tks (claimed A.lines p.1 p.2)) ∧ pb + 1 < tb'))
set_option maxRecDepth 100000 in
set_option maxHeartbeats 4000000 in
theorem rsmall_c (w : World) (ok : A.Ok m) (hB : BsAt B0 w tb tc (tks A.lines)) (hm : m ≤ 100) (hx : NextOk A) (n : Nat) (h1 : 1 ≤ n) (h2 : n ≤ 16) :
    Calls Try.prog 73 #[.agg #[.slice wa wn wk, .slice (some ⟨tb, 0, none⟩) (m * 16) tc, .slice ma mn mc, .int .i64 ((A.sf : Int)), .int .i64 ((A.st : Int)), .int .i64 ((A.gf : Int)), .int .i64 ((A.gt : Int)), .int .i64 ((A.cf : Int)), .int .i64 ((A.ct : Int)), .int .i64 (((A.next : Int) * 16))], .int .i64 (n : Int)] w (GivesA B0 wa wn wk ma mn mc m w (A.smallA n)) := by
  have HB := Lib.hid hB
  have OK := Lib.hid ok
  have htc : m * 16 ≤ tc := by have := hB.cp.1; rw [len_tks, ok.ll] at this; exact this
  have htc2 : tc ≤ 9223372036854775807 := by have := hB.cp.2; unfold maxLen at this; omega
  have hs1 := ok.s1
  have hs2 := ok.s2
  have hx1 := ok.x1
  obtain ⟨W1, hW1⟩ : ∃ W1, W1 = (w.alloc (.cells #[.slice wa wn wk, .slice (some ⟨tb, 0, none⟩) (m * 16) tc, .slice ma mn mc, .int .i64 ((A.sf : Int)), .int .i64 ((A.st : Int)), .int .i64 ((A.gf : Int)), .int .i64 ((A.gt : Int)), .int .i64 ((A.cf : Int)), .int .i64 ((A.ct : Int)), .int .i64 (((A.next : Int) * 16))] 31)).alloc (.cells #[.slice none 0 0, .slice none 0 0, .slice none 0 0, .int .i64 0, .int .i64 0, .int .i64 0, .int .i64 0, .int .i64 0, .int .i64 0, .int .i64 0] 31) := ⟨_, rfl⟩
  have P1 := Lib.hid (show blk W1 w.heap.size = some (.cells #[.slice wa wn wk, .slice (some ⟨tb, 0, none⟩) (m * 16) tc, .slice ma mn mc, .int .i64 ((A.sf : Int)), .int .i64 ((A.st : Int)), .int .i64 ((A.gf : Int)), .int .i64 ((A.gt : Int)), .int .i64 ((A.cf : Int)), .int .i64 ((A.ct : Int)), .int .i64 (((A.next : Int) * 16))] 31 (0, 0)) by rw [hW1, blk_alloc, if_neg (by rw [size_alloc]; omega), blk_alloc, if_pos rfl])
  have R1 := Lib.hid (show blk W1 (w.heap.size + 1) = some (.cells #[.slice none 0 0, .slice none 0 0, .slice none 0 0, .int .i64 0, .int .i64 0, .int .i64 0, .int .i64 0, .int .i64 0, .int .i64 0, .int .i64 0] 31 (0, 0)) by rw [hW1, blk_alloc, if_pos (by rw [size_alloc])])
  have F1 : Hid (Fr [] w W1) := Lib.hid (by rw [hW1]; exact ((Fr.refl _ _).alloc _).alloc _)
  obtain ⟨pb, hpb⟩ : ∃ pb, pb = w.heap.size := ⟨_, rfl⟩
  have HPB := Lib.hid hpb
  rw [← hpb] at P1 R1
  have CHOLES := Lib.hid (fun (w1 : World) (hF : Fr [] w w1) => rholes_c (wa := wa) (wn := wn) (wc := wk) (ma := ma) (mn := mn) (mc := mc) (sf := (A.sf : Int)) (st := (A.st : Int)) (gf := (A.gf : Int)) (gt := (A.gt : Int)) (cf := (A.cf : Int)) (ct := (A.ct : Int)) (nx := (A.next : Int) * 16) w1 (hB.keep hF) ok.ll hm)
  have CCL := Lib.hid (fun (w1 : World) (hF : Fr [] w w1) (f t : Nat) (hf : f ≤ t) (ht : t ≤ m * 16) => rclaim_m (wa := wa) (wn := wn) (wc := wk) (ma := ma) (mn := mn) (mc := mc) (sf := (A.sf : Int)) (st := (A.st : Int)) (gf := (A.gf : Int)) (gt := (A.gt : Int)) (cf := (A.cf : Int)) (ct := (A.ct : Int)) (nx := (A.next : Int) * 16) w1 (hB.keep hF) ok.ll hm f t hf ht)
  have HRL : Hid ((runs A.lines).length ≤ 1600) := Lib.hid (by unfold runs; rw [List.length_reverse]; have := runsR_len A.lines A.lines.length; rw [ok.ll] at this; rw [ok.ll]; omega)
  clear hB ok
  go_enter Try.func73, Try.ntmps73
  go_upto_region 5 with fail
  rw [← hW1, ← hpb]
  clear hW1 hpb
  have p0 := cell_of P1.out (i := 0) rfl
  have p1 := cell_of P1.out (i := 1) rfl
  have p2 := cell_of P1.out (i := 2) rfl
  have p3 := cell_of P1.out (i := 3) rfl
  have p4 := cell_of P1.out (i := 4) rfl
  have p5 := cell_of P1.out (i := 5) rfl
  have p6 := cell_of P1.out (i := 6) rfl
  have p7 := cell_of P1.out (i := 7) rfl
  have p8 := cell_of P1.out (i := 8) rfl
  have p9 := cell_of P1.out (i := 9) rfl
  have pf0 := free_of P1.out (i := 0)
  have pf1 := free_of P1.out (i := 1)
  have pf2 := free_of P1.out (i := 2)
  have pf3 := free_of P1.out (i := 3)
  have pf4 := free_of P1.out (i := 4)
  have pf5 := free_of P1.out (i := 5)
  have pf6 := free_of P1.out (i := 6)
  have pf7 := free_of P1.out (i := 7)
  have pf8 := free_of P1.out (i := 8)
  have pf9 := free_of P1.out (i := 9)
  have r0 := cell_of R1.out (i := 0) rfl
  have r1 := cell_of R1.out (i := 1) rfl
  have r2 := cell_of R1.out (i := 2) rfl
  have r3 := cell_of R1.out (i := 3) rfl
  have r4 := cell_of R1.out (i := 4) rfl
  have r5 := cell_of R1.out (i := 5) rfl
  have r6 := cell_of R1.out (i := 6) rfl
  have r7 := cell_of R1.out (i := 7) rfl
  have r8 := cell_of R1.out (i := 8) rfl
  have r9 := cell_of R1.out (i := 9) rfl
  have rf0 := free_of R1.out (i := 0)
  have rf1 := free_of R1.out (i := 1)
  have rf2 := free_of R1.out (i := 2)
  have rf3 := free_of R1.out (i := 3)
  have rf4 := free_of R1.out (i := 4)
  have rf5 := free_of R1.out (i := 5)
  have rf6 := free_of R1.out (i := 6)
  have rf7 := free_of R1.out (i := 7)
  have rf8 := free_of R1.out (i := 8)
  have rf9 := free_of R1.out (i := 9)
  go_upto_if 35 with fail
  go_cut [] (fun wx => CutS B0 wa wn wk ma mn mc m w pb A n wx)
  case first =>
    by_cases hc : n ≤ A.st - A.sf
    · have hlt : ¬ (A.st : Int) - (A.sf : Int) < (n : Int) := by omega
      go_wp2_with fail
      go_meet
      have hbl := HB.out.lt
      have hpb := HPB.out
      refine ⟨tb, tc, A.sf, A.st, A.lines, A.next, P1.out, R1.out, HB.out.keep F1.out, F1.out, ?_, by omega, by omega, by omega⟩
      unfold Ar.smallA
      rw [if_pos hc]
    · have hlt : (A.st : Int) - (A.sf : Int) < (n : Int) := by omega
      have HDN := Lib.hid (pickS_done (n := n) hc hx)
      clear hc hx
      go_wp2_with fail
      refine (CHOLES.out _ F1.out).mono ?_
      rintro e w6 ⟨hg, hcap, rfl, OH, F6⟩
      obtain ⟨H, hH⟩ : ∃ H, H = (runs A.lines).length := ⟨_, rfl⟩
      rw [← hH] at OH HRL HDN ⊢
      have HGB : Hid (pb + 1 < hg) := Lib.hid (by have h1 := own_base OH; have h2 := lt_size R1.out; omega)
      have OH := Lib.hid OH
      have HHL := Lib.hid hH
      have hcapH := (own_cap OH.out).1
      have hH1 := HRL.out
      have P6 := Lib.hid (F6.at P1.out (by simp))
      have R6 := Lib.hid (F6.at R1.out (by simp))
      have F6 := Lib.hid (F1.out.same F6)
      have L0 : Hid (LoopS B0 wa wn wk ma mn mc m w pb A 0 (.bool false) tb tc w6) := Lib.hid ⟨R6.out, F6.out, .inl ⟨rfl, rfl, P6.out⟩⟩
      clear hH P1 R1 F1 P6 R6
      clear p0 p1 p2 p3 p4 p5 p6 p7 p8 p9
      clear pf0 pf1 pf2 pf3 pf4 pf5 pf6 pf7 pf8 pf9
      clear r0 r1 r2 r3 r4 r5 r6 r7 r8 r9
      clear rf0 rf1 rf2 rf3 rf4 rf5 rf6 rf7 rf8 rf9
      go_wp2_with fail
      go_loopw [7, 9, 39] (fun b _ u wr => ∃ k : Nat, k ≤ H ∧ u = .int .i64 (k : Int) ∧ Hid (LoopS B0 wa wn wk ma mn mc m w pb A k b tb tc wr) ∧ Hid (Fr [pb] w6 wr)) (fun _ _ u _ => H - (intOf u).toNat)
      case atStart => exact ⟨0, by omega, by go_num, L0, Lib.hid (Fr.refl _ _)⟩
      case round =>
        obtain ⟨k, hk, rfl, LK, F⟩ := hrel
        clear L0
        have hl := LK.out
        have R := Lib.hid hl.1
        have FW := Lib.hid hl.2.1
        have hpw1 : pb + 1 < wr.heap.size := lt_size R.out
        have hpw : pb < wr.heap.size := by omega
        have hpn : pb ≠ wr.heap.size := by omega
        by_cases hlt : k < H
        · obtain ⟨p, hp⟩ : ∃ p, (runs A.lines)[k]? = some p := ⟨(runs A.lines)[k]'(by rw [← HHL.out]; exact hlt), by rw [List.getElem?_eq_getElem]⟩
          have OHW := own_fr OH.out F.out (by simp [Value.ownBlock]; have := HGB.out; omega)
          have d0 := own_cell OHW (runCells_get _ k p hp).1
          have d1 := own_cell OHW (runCells_get _ k p hp).2
          have hgl := own_lt OHW
          have hgn : hg ≠ wr.heap.size := by omega
          have hr := (runs_ok A.lines _).ok p (runs_mem.1 (List.mem_of_getElem? hp))
          have hrl := hr.lt
          have hre := hr.le
          rw [OK.out.ll] at hre
          rcases hl.2.2 with ⟨rfl, hn, hP⟩ | ⟨rfl, q, tb', tc', hn, hq1, hq2, hP, hBq, hbq⟩
          · have P := Lib.hid hP
            by_cases hw : A.next ≤ p.1
            · have HY := Lib.hid (pickS_yes hp hn hw)
              have hwI : (A.next : Int) * 16 ≤ 16 * (p.1 : Int) := by omega
              have hwI2 : (A.next : Int) ≤ (p.1 : Int) := by omega
              have CL := Lib.hid (CCL.out _ (FW.out.alloc (.cells #[.int .i64 (p.1 : Int), .int .i64 (p.2 : Int)] 29)) p.1 p.2 (by omega) hre)
              clear hl hn hP OHW hp hr hw
              have p0 := cell_of P.out (i := 0) rfl
              have p1 := cell_of P.out (i := 1) rfl
              have p2 := cell_of P.out (i := 2) rfl
              have p3 := cell_of P.out (i := 3) rfl
              have p4 := cell_of P.out (i := 4) rfl
              have p5 := cell_of P.out (i := 5) rfl
              have p6 := cell_of P.out (i := 6) rfl
              have p7 := cell_of P.out (i := 7) rfl
              have p8 := cell_of P.out (i := 8) rfl
              have p9 := cell_of P.out (i := 9) rfl
              have pf0 := free_of P.out (i := 0)
              have pf1 := free_of P.out (i := 1)
              have pf2 := free_of P.out (i := 2)
              have pf3 := free_of P.out (i := 3)
              have pf4 := free_of P.out (i := 4)
              have pf5 := free_of P.out (i := 5)
              have pf6 := free_of P.out (i := 6)
              have pf7 := free_of P.out (i := 7)
              have pf8 := free_of P.out (i := 8)
              have pf9 := free_of P.out (i := 9)
              have r0 := cell_of R.out (i := 0) rfl
              have r1 := cell_of R.out (i := 1) rfl
              have r2 := cell_of R.out (i := 2) rfl
              have r3 := cell_of R.out (i := 3) rfl
              have r4 := cell_of R.out (i := 4) rfl
              have r5 := cell_of R.out (i := 5) rfl
              have r6 := cell_of R.out (i := 6) rfl
              have r7 := cell_of R.out (i := 7) rfl
              have r8 := cell_of R.out (i := 8) rfl
              have r9 := cell_of R.out (i := 9) rfl
              have rf0 := free_of R.out (i := 0)
              have rf1 := free_of R.out (i := 1)
              have rf2 := free_of R.out (i := 2)
              have rf3 := free_of R.out (i := 3)
              have rf4 := free_of R.out (i := 4)
              have rf5 := free_of R.out (i := 5)
              have rf6 := free_of R.out (i := 6)
              have rf7 := free_of R.out (i := 7)
              have rf8 := free_of R.out (i := 8)
              have rf9 := free_of R.out (i := 9)
              go_wp2_with fail
              refine CL.out.mono ?_
              rintro e w7 ⟨tb', tc', rfl, B7, F7, hbt⟩
              rw [size_alloc] at hbt
              have P7 := Lib.hid (F7.at (show blk (wr.alloc (.cells #[.int .i64 (p.1 : Int), .int .i64 (p.2 : Int)] 29)) pb = _ by rw [blk_alloc, if_neg hpn]; exact P.out) (by simp))
              have R7 := Lib.hid (F7.at (show blk (wr.alloc (.cells #[.int .i64 (p.1 : Int), .int .i64 (p.2 : Int)] 29)) (pb + 1) = _ by rw [blk_alloc, if_neg (by omega)]; exact R.out) (by simp))
              have X7 := Lib.hid (F7.at (show blk (wr.alloc (.cells #[.int .i64 (p.1 : Int), .int .i64 (p.2 : Int)] 29)) wr.heap.size = _ by rw [blk_alloc, if_pos rfl]) (by simp))
              obtain ⟨bx, hbx⟩ : ∃ bx, bx = wr.heap.size := ⟨_, rfl⟩
              rw [← hbx] at X7 hpw hpw1 hpn hbt ⊢
              have g0 := cell_of X7.out (i := 0) rfl
              have g1 := cell_of X7.out (i := 1) rfl
              have B7 := Lib.hid B7
              have FW7 := Lib.hid ((FW.out.alloc _).same F7)
              have F7 := Lib.hid ((F.out.alloc _).trans F7 (by simp))
              clear CL hbx
              clear p0 p1 p2 p3 p4 p5 p6 p7 p8 p9 pf0 pf1 pf2 pf3 pf4 pf5 pf6 pf7 pf8 pf9 r0 r1 r2 r3 r4 r5 r6 r7 r8 r9 rf0 rf1 rf2 rf3 rf4 rf5 rf6 rf7 rf8 rf9
              have p0 := cell_of P7.out (i := 0) rfl
              have p1 := cell_of P7.out (i := 1) rfl
              have p2 := cell_of P7.out (i := 2) rfl
              have p3 := cell_of P7.out (i := 3) rfl
              have p4 := cell_of P7.out (i := 4) rfl
              have p5 := cell_of P7.out (i := 5) rfl
              have p6 := cell_of P7.out (i := 6) rfl
              have p7 := cell_of P7.out (i := 7) rfl
              have p8 := cell_of P7.out (i := 8) rfl
              have p9 := cell_of P7.out (i := 9) rfl
              have pf0 := free_of P7.out (i := 0)
              have pf1 := free_of P7.out (i := 1)
              have pf2 := free_of P7.out (i := 2)
              have pf3 := free_of P7.out (i := 3)
              have pf4 := free_of P7.out (i := 4)
              have pf5 := free_of P7.out (i := 5)
              have pf6 := free_of P7.out (i := 6)
              have pf7 := free_of P7.out (i := 7)
              have pf8 := free_of P7.out (i := 8)
              have pf9 := free_of P7.out (i := 9)
              have r0 := cell_of R7.out (i := 0) rfl
              have r1 := cell_of R7.out (i := 1) rfl
              have r2 := cell_of R7.out (i := 2) rfl
              have r3 := cell_of R7.out (i := 3) rfl
              have r4 := cell_of R7.out (i := 4) rfl
              have r5 := cell_of R7.out (i := 5) rfl
              have r6 := cell_of R7.out (i := 6) rfl
              have r7 := cell_of R7.out (i := 7) rfl
              have r8 := cell_of R7.out (i := 8) rfl
              have r9 := cell_of R7.out (i := 9) rfl
              have rf0 := free_of R7.out (i := 0)
              have rf1 := free_of R7.out (i := 1)
              have rf2 := free_of R7.out (i := 2)
              have rf3 := free_of R7.out (i := 3)
              have rf4 := free_of R7.out (i := 4)
              have rf5 := free_of R7.out (i := 5)
              have rf6 := free_of R7.out (i := 6)
              have rf7 := free_of R7.out (i := 7)
              have rf8 := free_of R7.out (i := 8)
              have rf9 := free_of R7.out (i := 9)
              go_upto_region 12 with fail
              obtain ⟨W8, hW8⟩ : ∃ W8, W8 = ((((((((((w7.setCell ⟨pb, 0, none⟩ (.slice wa wn wk)).setCell ⟨pb, 1, none⟩ (.slice (some ⟨tb', 0, none⟩) (m * 16) tc')).setCell ⟨pb, 2, none⟩ (.slice ma mn mc)).setCell ⟨pb, 3, none⟩ (.int .i64 (A.sf : Int))).setCell ⟨pb, 4, none⟩ (.int .i64 (A.st : Int))).setCell ⟨pb, 5, none⟩ (.int .i64 (A.gf : Int))).setCell ⟨pb, 6, none⟩ (.int .i64 (A.gt : Int))).setCell ⟨pb, 7, none⟩ (.int .i64 (A.cf : Int))).setCell ⟨pb, 8, none⟩ (.int .i64 (A.ct : Int))).setCell ⟨pb, 9, none⟩ (.int .i64 ((A.next : Int) * 16))) := ⟨_, rfl⟩
              rw [← hW8]
              have P8 := Lib.hid (show blk W8 pb = some (.cells #[.slice wa wn wk, .slice (some ⟨tb', 0, none⟩) (m * 16) tc', .slice ma mn mc, .int .i64 ((A.sf : Int)), .int .i64 ((A.st : Int)), .int .i64 ((A.gf : Int)), .int .i64 ((A.gt : Int)), .int .i64 ((A.cf : Int)), .int .i64 ((A.ct : Int)), .int .i64 (((A.next : Int) * 16))] 31 (0, 0)) by rw [hW8]; exact blk10 P7.out)
              have R8 := Lib.hid (show blk W8 (pb + 1) = some (.cells #[.slice none 0 0, .slice none 0 0, .slice none 0 0, .int .i64 0, .int .i64 0, .int .i64 0, .int .i64 0, .int .i64 0, .int .i64 0, .int .i64 0] 31 (0, 0)) by rw [hW8, blk10_ne (by omega)]; exact R7.out)
              have B8 := Lib.hid (show BsAt B0 W8 tb' tc' (tks (claimed A.lines p.1 p.2)) by rw [hW8]; exact B7.out.fr (fr10 (Fr.refl [pb] w7) (.inl (by simp))) (by simp; omega))
              have FW8 := Lib.hid (show Fr [] w W8 by rw [hW8]; exact fr10 FW7.out (.inr (by rw [HPB.out]; exact Nat.le_refl _)))
              have F8 := Lib.hid (show Fr [pb] w6 W8 by rw [hW8]; exact fr10 F7.out (.inl (by simp)))
              have h0 : W8.cell? ⟨bx, 0, none⟩ = some (.int .i64 (p.1 : Int)) := by rw [hW8]; exact cell_frR g0 (fr10 (Fr.refl [pb] w7) (.inl (by simp))) (by simpa using Ne.symm hpn)
              have h1' : W8.cell? ⟨bx, 1, none⟩ = some (.int .i64 (p.2 : Int)) := by rw [hW8]; exact cell_frR g1 (fr10 (Fr.refl [pb] w7) (.inl (by simp))) (by simpa using Ne.symm hpn)
              clear hW8 P7 R7 B7 FW7 F7 g0 g1 X7
              clear p0 p1 p2 p3 p4 p5 p6 p7 p8 p9 pf0 pf1 pf2 pf3 pf4 pf5 pf6 pf7 pf8 pf9 r0 r1 r2 r3 r4 r5 r6 r7 r8 r9 rf0 rf1 rf2 rf3 rf4 rf5 rf6 rf7 rf8 rf9
              have p0 := cell_of P8.out (i := 0) rfl
              have p1 := cell_of P8.out (i := 1) rfl
              have p2 := cell_of P8.out (i := 2) rfl
              have p3 := cell_of P8.out (i := 3) rfl
              have p4 := cell_of P8.out (i := 4) rfl
              have p5 := cell_of P8.out (i := 5) rfl
              have p6 := cell_of P8.out (i := 6) rfl
              have p7 := cell_of P8.out (i := 7) rfl
              have p8 := cell_of P8.out (i := 8) rfl
              have p9 := cell_of P8.out (i := 9) rfl
              have pf0 := free_of P8.out (i := 0)
              have pf1 := free_of P8.out (i := 1)
              have pf2 := free_of P8.out (i := 2)
              have pf3 := free_of P8.out (i := 3)
              have pf4 := free_of P8.out (i := 4)
              have pf5 := free_of P8.out (i := 5)
              have pf6 := free_of P8.out (i := 6)
              have pf7 := free_of P8.out (i := 7)
              have pf8 := free_of P8.out (i := 8)
              have pf9 := free_of P8.out (i := 9)
              have r0 := cell_of R8.out (i := 0) rfl
              have r1 := cell_of R8.out (i := 1) rfl
              have r2 := cell_of R8.out (i := 2) rfl
              have r3 := cell_of R8.out (i := 3) rfl
              have r4 := cell_of R8.out (i := 4) rfl
              have r5 := cell_of R8.out (i := 5) rfl
              have r6 := cell_of R8.out (i := 6) rfl
              have r7 := cell_of R8.out (i := 7) rfl
              have r8 := cell_of R8.out (i := 8) rfl
              have r9 := cell_of R8.out (i := 9) rfl
              have rf0 := free_of R8.out (i := 0)
              have rf1 := free_of R8.out (i := 1)
              have rf2 := free_of R8.out (i := 2)
              have rf3 := free_of R8.out (i := 3)
              have rf4 := free_of R8.out (i := 4)
              have rf5 := free_of R8.out (i := 5)
              have rf6 := free_of R8.out (i := 6)
              have rf7 := free_of R8.out (i := 7)
              have rf8 := free_of R8.out (i := 8)
              have rf9 := free_of R8.out (i := 9)
              go_wp2
              go_roundw
              case rel =>
                have hwp : w.heap.size ≤ pb := by rw [HPB.out]; exact Nat.le_refl _
                refine ⟨k + 1, by omega, by go_num, Lib.hid ⟨?_, ((FW8.out.setCell (.inr hwp) _).setCell (.inr hwp) _).setCell (.inr hwp) _, .inr ⟨rfl, p, tb', tc', HY.out, hre, by omega, ?_, ?_, by omega⟩⟩, Lib.hid (((F8.out.setCell (.inl (by simp)) _).setCell (.inl (by simp)) _).setCell (.inl (by simp)) _)⟩
                · rw [blk_set, if_neg (by omega), blk_set, if_neg (by omega), blk_set, if_neg (by omega)]
                  exact R8.out
                · have b1 := blk_two (i := 3) (j := 4) P8.out (.int .i64 (16 * (p.1 : Int))) (.int .i64 (16 * (p.2 : Int)))
                  rw [blk_set, if_pos rfl, b1]
                  rfl
                · exact B8.out.fr ((((Fr.refl [pb] W8).setCell (.inl (by simp)) _).setCell (.inl (by simp)) _).setCell (.inl (by simp)) _) (by simp; omega)
              case measure => simp [intOf]; omega
            · have HY := Lib.hid (pickS_no hp hn hw)
              have hwI : ¬ (A.next : Int) * 16 ≤ 16 * (p.1 : Int) := by omega
              have hwI2 : ¬ (A.next : Int) ≤ (p.1 : Int) := by omega
              clear hl hn hP OHW hp hr hw
              have p0 := cell_of P.out (i := 0) rfl
              have p1 := cell_of P.out (i := 1) rfl
              have p2 := cell_of P.out (i := 2) rfl
              have p3 := cell_of P.out (i := 3) rfl
              have p4 := cell_of P.out (i := 4) rfl
              have p5 := cell_of P.out (i := 5) rfl
              have p6 := cell_of P.out (i := 6) rfl
              have p7 := cell_of P.out (i := 7) rfl
              have p8 := cell_of P.out (i := 8) rfl
              have p9 := cell_of P.out (i := 9) rfl
              have pf0 := free_of P.out (i := 0)
              have pf1 := free_of P.out (i := 1)
              have pf2 := free_of P.out (i := 2)
              have pf3 := free_of P.out (i := 3)
              have pf4 := free_of P.out (i := 4)
              have pf5 := free_of P.out (i := 5)
              have pf6 := free_of P.out (i := 6)
              have pf7 := free_of P.out (i := 7)
              have pf8 := free_of P.out (i := 8)
              have pf9 := free_of P.out (i := 9)
              have r0 := cell_of R.out (i := 0) rfl
              have r1 := cell_of R.out (i := 1) rfl
              have r2 := cell_of R.out (i := 2) rfl
              have r3 := cell_of R.out (i := 3) rfl
              have r4 := cell_of R.out (i := 4) rfl
              have r5 := cell_of R.out (i := 5) rfl
              have r6 := cell_of R.out (i := 6) rfl
              have r7 := cell_of R.out (i := 7) rfl
              have r8 := cell_of R.out (i := 8) rfl
              have r9 := cell_of R.out (i := 9) rfl
              have rf0 := free_of R.out (i := 0)
              have rf1 := free_of R.out (i := 1)
              have rf2 := free_of R.out (i := 2)
              have rf3 := free_of R.out (i := 3)
              have rf4 := free_of R.out (i := 4)
              have rf5 := free_of R.out (i := 5)
              have rf6 := free_of R.out (i := 6)
              have rf7 := free_of R.out (i := 7)
              have rf8 := free_of R.out (i := 8)
              have rf9 := free_of R.out (i := 9)
              go_wp2
              go_roundw
              case rel => exact ⟨k + 1, by omega, by go_num, Lib.hid ⟨by rw [blk_alloc, if_neg (by omega)]; exact R.out, FW.out.alloc _, .inl ⟨rfl, HY.out, by rw [blk_alloc, if_neg hpn]; exact P.out⟩⟩, Lib.hid (F.out.alloc _)⟩
              case measure => simp [intOf]; omega
          · have HY := Lib.hid (pickS_some hp hn)
            have P := Lib.hid hP
            have BQ := Lib.hid hBq
            clear hl hn hP hBq OHW hp hr
            go_wp2
            go_roundw
            case rel => exact ⟨k + 1, by omega, by go_num, Lib.hid ⟨by rw [blk_alloc, if_neg (by omega)]; exact R.out, FW.out.alloc _, .inr ⟨rfl, q, tb', tc', HY.out, hq1, hq2, by rw [blk_alloc, if_neg hpn]; exact P.out, BQ.out.keep ((Fr.refl _ _).alloc _), hbq⟩⟩, Lib.hid (F.out.alloc _)⟩
            case measure => simp [intOf]; omega
        · have hkH : k = H := by omega
          subst hkH
          have hD := HDN.out
          rcases hl.2.2 with ⟨rfl, hn, hP⟩ | ⟨rfl, q, tb', tc', hn, hq1, hq2, hP, hBq, hbq⟩
          · rw [hn] at hD
            have HD := Lib.hid hD
            have P := Lib.hid hP
            clear hl hn hP hD HDN
            have p0 := cell_of P.out (i := 0) rfl
            have p1 := cell_of P.out (i := 1) rfl
            have p2 := cell_of P.out (i := 2) rfl
            have p3 := cell_of P.out (i := 3) rfl
            have p4 := cell_of P.out (i := 4) rfl
            have p5 := cell_of P.out (i := 5) rfl
            have p6 := cell_of P.out (i := 6) rfl
            have p7 := cell_of P.out (i := 7) rfl
            have p8 := cell_of P.out (i := 8) rfl
            have p9 := cell_of P.out (i := 9) rfl
            have pf0 := free_of P.out (i := 0)
            have pf1 := free_of P.out (i := 1)
            have pf2 := free_of P.out (i := 2)
            have pf3 := free_of P.out (i := 3)
            have pf4 := free_of P.out (i := 4)
            have pf5 := free_of P.out (i := 5)
            have pf6 := free_of P.out (i := 6)
            have pf7 := free_of P.out (i := 7)
            have pf8 := free_of P.out (i := 8)
            have pf9 := free_of P.out (i := 9)
            have r0 := cell_of R.out (i := 0) rfl
            have r1 := cell_of R.out (i := 1) rfl
            have r2 := cell_of R.out (i := 2) rfl
            have r3 := cell_of R.out (i := 3) rfl
            have r4 := cell_of R.out (i := 4) rfl
            have r5 := cell_of R.out (i := 5) rfl
            have r6 := cell_of R.out (i := 6) rfl
            have r7 := cell_of R.out (i := 7) rfl
            have r8 := cell_of R.out (i := 8) rfl
            have r9 := cell_of R.out (i := 9) rfl
            have rf0 := free_of R.out (i := 0)
            have rf1 := free_of R.out (i := 1)
            have rf2 := free_of R.out (i := 2)
            have rf3 := free_of R.out (i := 3)
            have rf4 := free_of R.out (i := 4)
            have rf5 := free_of R.out (i := 5)
            have rf6 := free_of R.out (i := 6)
            have rf7 := free_of R.out (i := 7)
            have rf8 := free_of R.out (i := 8)
            have rf9 := free_of R.out (i := 9)
            go_wp2
            refine bodyPost_ret (ret_st3 rfl _ _ _ _ rfl (blk10 R.out) rfl size_arena14 und_arena14) rfl ?_
            rw [HD.out]
            exact ⟨tb, tc, rfl, HB.out.keep (fr10 FW.out (.inr (by rw [HPB.out]; omega))), fr10 FW.out (.inr (by rw [HPB.out]; omega))⟩
          · rw [hn] at hD
            have HD := Lib.hid hD
            have P := Lib.hid hP
            have BQ := Lib.hid hBq
            clear hl hn hP hBq hD HDN
            go_wp2_with fail
            go_meet
            refine ⟨tb', tc', 16 * q.1, 16 * q.2, claimed A.lines q.1 q.2, q.2, ?_, R.out, BQ.out, FW.out, by rw [HD.out]; rfl, by omega, by omega, by omega⟩
            rw [show ((16 * q.1 : Nat) : Int) = 16 * (q.1 : Int) by omega, show ((16 * q.2 : Nat) : Int) = 16 * (q.2 : Int) by omega, show (q.2 : Int) * 16 = 16 * (q.2 : Int) by omega]
            exact P.out
  case rest =>
    obtain ⟨tb', tc', f, t, L', x, P, R, BX, FX, hfr, hf, hb1, hb2⟩ := hcut
    have HFR := Lib.hid hfr
    have P := Lib.hid P
    have R := Lib.hid R
    have BX := Lib.hid BX
    have FX := Lib.hid FX
    have CO := Lib.hid (roff_c wc (f : Int) (t : Int) (n : Int) (by omega) (by omega) (by omega) (by omega))
    clear hfr CHOLES CCL HRL P1 R1 F1 HB
    clear p0 p1 p2 p3 p4 p5 p6 p7 p8 p9 pf0 pf1 pf2 pf3 pf4 pf5 pf6 pf7 pf8 pf9 r0 r1 r2 r3 r4 r5 r6 r7 r8 r9 rf0 rf1 rf2 rf3 rf4 rf5 rf6 rf7 rf8 rf9
    have p0 := cell_of P.out (i := 0) rfl
    have p1 := cell_of P.out (i := 1) rfl
    have p2 := cell_of P.out (i := 2) rfl
    have p3 := cell_of P.out (i := 3) rfl
    have p4 := cell_of P.out (i := 4) rfl
    have p5 := cell_of P.out (i := 5) rfl
    have p6 := cell_of P.out (i := 6) rfl
    have p7 := cell_of P.out (i := 7) rfl
    have p8 := cell_of P.out (i := 8) rfl
    have p9 := cell_of P.out (i := 9) rfl
    have pf0 := free_of P.out (i := 0)
    have pf1 := free_of P.out (i := 1)
    have pf2 := free_of P.out (i := 2)
    have pf3 := free_of P.out (i := 3)
    have pf4 := free_of P.out (i := 4)
    have pf5 := free_of P.out (i := 5)
    have pf6 := free_of P.out (i := 6)
    have pf7 := free_of P.out (i := 7)
    have pf8 := free_of P.out (i := 8)
    have pf9 := free_of P.out (i := 9)
    have r0 := cell_of R.out (i := 0) rfl
    have r1 := cell_of R.out (i := 1) rfl
    have r2 := cell_of R.out (i := 2) rfl
    have r3 := cell_of R.out (i := 3) rfl
    have r4 := cell_of R.out (i := 4) rfl
    have r5 := cell_of R.out (i := 5) rfl
    have r6 := cell_of R.out (i := 6) rfl
    have r7 := cell_of R.out (i := 7) rfl
    have r8 := cell_of R.out (i := 8) rfl
    have r9 := cell_of R.out (i := 9) rfl
    have rf0 := free_of R.out (i := 0)
    have rf1 := free_of R.out (i := 1)
    have rf2 := free_of R.out (i := 2)
    have rf3 := free_of R.out (i := 3)
    have rf4 := free_of R.out (i := 4)
    have rf5 := free_of R.out (i := 5)
    have rf6 := free_of R.out (i := 6)
    have rf7 := free_of R.out (i := 7)
    have rf8 := free_of R.out (i := 8)
    have rf9 := free_of R.out (i := 9)
    go_wp2_with fail
    refine CO.out.mono ?_
    rintro e w8 ⟨rfl, F8⟩
    have P8 := Lib.hid (F8.at P.out (by simp))
    have R8 := Lib.hid (F8.at R.out (by simp))
    have B8 := Lib.hid (BX.out.keep F8)
    have F9 := Lib.hid (FX.out.same F8)
    have hpl : pb + 1 < w8.heap.size := lt_size R8.out
    have hpl0 : pb < w8.heap.size := by omega
    have hpn : pb ≠ w8.heap.size := by omega
    have hpn1 : pb + 1 ≠ w8.heap.size := by omega
    clear CO F8
    clear p0 p1 p2 p3 p4 p5 p6 p7 p8 p9 pf0 pf1 pf2 pf3 pf4 pf5 pf6 pf7 pf8 pf9 r0 r1 r2 r3 r4 r5 r6 r7 r8 r9 rf0 rf1 rf2 rf3 rf4 rf5 rf6 rf7 rf8 rf9
    have p0 := cell_of P8.out (i := 0) rfl
    have p1 := cell_of P8.out (i := 1) rfl
    have p2 := cell_of P8.out (i := 2) rfl
    have p3 := cell_of P8.out (i := 3) rfl
    have p4 := cell_of P8.out (i := 4) rfl
    have p5 := cell_of P8.out (i := 5) rfl
    have p6 := cell_of P8.out (i := 6) rfl
    have p7 := cell_of P8.out (i := 7) rfl
    have p8 := cell_of P8.out (i := 8) rfl
    have p9 := cell_of P8.out (i := 9) rfl
    have pf0 := free_of P8.out (i := 0)
    have pf1 := free_of P8.out (i := 1)
    have pf2 := free_of P8.out (i := 2)
    have pf3 := free_of P8.out (i := 3)
    have pf4 := free_of P8.out (i := 4)
    have pf5 := free_of P8.out (i := 5)
    have pf6 := free_of P8.out (i := 6)
    have pf7 := free_of P8.out (i := 7)
    have pf8 := free_of P8.out (i := 8)
    have pf9 := free_of P8.out (i := 9)
    have r0 := cell_of R8.out (i := 0) rfl
    have r1 := cell_of R8.out (i := 1) rfl
    have r2 := cell_of R8.out (i := 2) rfl
    have r3 := cell_of R8.out (i := 3) rfl
    have r4 := cell_of R8.out (i := 4) rfl
    have r5 := cell_of R8.out (i := 5) rfl
    have r6 := cell_of R8.out (i := 6) rfl
    have r7 := cell_of R8.out (i := 7) rfl
    have r8 := cell_of R8.out (i := 8) rfl
    have r9 := cell_of R8.out (i := 9) rfl
    have rf0 := free_of R8.out (i := 0)
    have rf1 := free_of R8.out (i := 1)
    have rf2 := free_of R8.out (i := 2)
    have rf3 := free_of R8.out (i := 3)
    have rf4 := free_of R8.out (i := 4)
    have rf5 := free_of R8.out (i := 5)
    have rf6 := free_of R8.out (i := 6)
    have rf7 := free_of R8.out (i := 7)
    have rf8 := free_of R8.out (i := 8)
    have rf9 := free_of R8.out (i := 9)
    go_wp2
    have hle : w.heap.size ≤ pb := by rw [HPB.out]; exact Nat.le_refl _
    have RF := blk_final (W := (w8.setCell ⟨pb, 3, none⟩ (.int .i64 ((f : Int) + (n : Int)))).setCell ⟨pb, 4, none⟩ (.int .i64 (t : Int))) (g := pb + 1) (o := .cells #[.int .i64 ((f : Int) + (n : Int)), .int .i64 (t : Int)] 29) (by rw [blk_set, if_neg (by omega), blk_set, if_neg (by omega)]; exact R8.out)
    refine bodyPost_ret (ret_st3 rfl _ _ _ _ rfl (RF _ _ _ _ _ _ _ _ _ _) rfl size_arena14 und_arena14) rfl ?_
    rw [HFR.out]
    refine ⟨tb', tc', rfl, ?_, ?_⟩
    · exact B8.out.fr ((fr10 (((Fr.refl [pb, pb + 1] w8).setCell (.inl (by simp)) _).setCell (.inl (by simp)) _) (.inl (by simp))).alloc _) (by simp; omega)
    · exact (fr10 ((F9.out.setCell (.inr hle) _).setCell (.inr hle) _) (.inr (by omega))).alloc _
end Go.Proofs.Ytjgndfhfiekomaa
