/- The document's arena: great. -/
import Derived.Test.YtjgndfhfiekomaaHrE
set_option linter.all false
namespace Go.Proofs.Ytjgndfhfiekomaa
open Go.ChangeShapes Go.WideShapes Go.RowKit
variable {B0 : Nat} {w w' : World} {tb tc : Nat} {wa ma : Option Addr} {wn wk mn mc : Nat} {L : List (Bool × Bool)} {m : Nat} {A : Ar}
theorem cell_frR {w w' : World} {S : List Nat} {g i : Nat} {v : Value} (h : w.cell? ⟨g, i, none⟩ = some v) (hF : Fr S w w') (hg : g ∉ S) : w'.cell? ⟨g, i, none⟩ = some v := by
  have hlt : g < w.heap.size := by
    rcases Nat.lt_or_ge g w.heap.size with hl | hl
    · exact hl
    · unfold World.cell? at h
      rw [Array.getElem?_eq_none (by simpa using hl)] at h
      simp at h
  rw [← h]; exact World.cell?_of_block (w := w) (hF.block g hlt hg)
def wide (n : Nat) (p : Nat × Nat) : Bool := decide (n ≤ 16 * (p.2 - p.1))
/-- The number of a block, or whether a hole was found, and the lines that are taken. -/
def pickG (L : List (Bool × Bool)) (m n k : Nat) : Int × Int × Int :=
  match blockBelow L m with
  | some q => ((q : Int), 16 * (q : Int), 16 * (q : Int) + 16)
  | none =>
    match ((runs L).take k).find? (wide n) with
    | none => (-1, -16, 0)
    | some p => (0, (p.1 : Int), (p.2 : Int))
theorem pickG_yes {n k : Nat} {p : Nat × Nat} (hp : (runs L)[k]? = some p) (hn : (pickG L m n k).1 < 0) (hw : n ≤ 16 * (p.2 - p.1)) : pickG L m n (k + 1) = (0, (p.1 : Int), (p.2 : Int)) := by
  unfold pickG at hn ⊢
  cases hb : blockBelow L m with
  | some q => rw [hb] at hn; simp only at hn; omega
  | none =>
    rw [hb] at hn
    simp only at hn ⊢
    rw [List.take_add_one, hp, List.find?_append]
    cases hf : ((runs L).take k).find? (wide n) with
    | some q => rw [hf] at hn; simp only at hn; omega
    | none => simp [wide, hw]
theorem pickG_no {n k : Nat} {p : Nat × Nat} (hp : (runs L)[k]? = some p) (h : ¬ ((pickG L m n k).1 < 0 ∧ n ≤ 16 * (p.2 - p.1))) : pickG L m n (k + 1) = pickG L m n k := by
  unfold pickG at h ⊢
  cases hb : blockBelow L m with
  | some q => rfl
  | none =>
    rw [hb] at h
    simp only at h ⊢
    rw [List.take_add_one, hp, List.find?_append]
    cases hf : ((runs L).take k).find? (wide n) with
    | some q => simp
    | none =>
      rw [hf] at h
      simp only at h
      have hw : wide n p = false := by unfold wide; rw [decide_eq_false_iff_not]; intro hc; exact h ⟨by omega, hc⟩
      simp [hw]
theorem pickG_done {n : Nat} (hn : 1 ≤ n) (hc : ¬ n ≤ A.gt - A.gf) (ok : A.Ok m) :
    ((pickG A.lines m n (runs A.lines).length).1 < 0 ∧ A.greatA n m = (A, none)) ∨
    (¬ (pickG A.lines m n (runs A.lines).length).1 < 0 ∧ ∃ f t : Nat, (pickG A.lines m n (runs A.lines).length).2 = ((f : Int), (t : Int)) ∧ f ≤ t ∧ t ≤ m * 16 ∧ A.greatA n m = ({ A.claim f t with gf := 16 * f + n, gt := 16 * t }, some (16 * f))) := by
  unfold pickG Ar.greatA
  rw [if_neg hc, List.take_length]
  cases hb : blockBelow A.lines m with
  | some q =>
    have hq := (blockBelow_lt _ _ _ hb).1
    refine .inr ⟨by simp only; omega, 16 * q, 16 * q + 16, ?_, by omega, by omega, ?_⟩
    · simp only [Prod.mk.injEq]; omega
    · simp only
      rw [show q * 16 * 16 = 16 * (16 * q) by omega, show (q + 1) * 16 * 16 = 16 * (16 * q + 16) by omega, show q * 16 = 16 * q by omega, show (q + 1) * 16 = 16 * q + 16 by omega]
  | none =>
    have hfe := find_runs A.lines (((n + 15) / 16 : Nat) : Int) (by omega) A.lines.length 0 (by omega) (cut_zero _)
    have hco : (runs A.lines).find? (fun p => decide (0 ≤ p.1 ∧ (((n + 15) / 16 : Nat) : Int) ≤ (p.2 : Int) - p.1)) = (runs A.lines).find? (wide n) := by
      refine find_congr fun p hp => ?_
      have hr := ((runs_ok A.lines _).ok p (runs_mem.1 hp)).lt
      unfold wide
      rw [decide_eq_decide]
      omega
    rw [hco] at hfe
    simp only
    rw [hfe]
    cases hf : (runs A.lines).find? (wide n) with
    | none => exact .inl ⟨by simp only; omega, rfl⟩
    | some p =>
      have hp := List.mem_of_find?_eq_some hf
      have hr := (runs_ok A.lines _).ok p (runs_mem.1 hp)
      have hle := hr.le
      have hlt := hr.lt
      rw [ok.ll] at hle
      refine .inr ⟨by simp only; omega, p.1, p.2, rfl, by omega, hle, ?_⟩
      simp only
      rw [show p.1 * 16 = 16 * p.1 by omega, show p.2 * 16 = 16 * p.2 by omega]
/-- What stands ahead of the last part: a run that is wide enough. -/
def CutG (B0 : Nat) (wa : Option Addr) (wn wk : Nat) (ma : Option Addr) (mn mc : Nat) (m : Nat) (w : World) (pb : Nat) (A : Ar) (n : Nat) (wx : World) : Prop :=
  ∃ tb' tc' f t L', blk wx pb = some (.cells #[.slice wa wn wk, .slice (some ⟨tb', 0, none⟩) (m * 16) tc', .slice ma mn mc, .int .i64 ((A.sf : Int)), .int .i64 ((A.st : Int)), .int .i64 (((f : Nat) : Int)), .int .i64 (((t : Nat) : Int)), .int .i64 ((A.cf : Int)), .int .i64 ((A.ct : Int)), .int .i64 (((A.next : Int) * 16))] 31 (0, 0)) ∧ blk wx (pb + 1) = some (.cells #[.slice none 0 0, .slice none 0 0, .slice none 0 0, .int .i64 0, .int .i64 0, .int .i64 0, .int .i64 0, .int .i64 0, .int .i64 0, .int .i64 0] 31 (0, 0)) ∧ BsAt B0 wx tb' tc' (tks L') ∧ Fr [] w wx ∧ A.greatA n m = ({ A with lines := L', gf := f + n, gt := t }, some f) ∧ f ≤ 100000 ∧ tb' ≠ pb ∧ tb' ≠ pb + 1
set_option maxRecDepth 100000 in
set_option maxHeartbeats 4000000 in
theorem rgreat_c (w : World) (ok : A.Ok m) (hB : BsAt B0 w tb tc (tks A.lines)) (hm : m ≤ 100) (n : Nat) (h1 : 1 ≤ n) (h2 : n ≤ 256) :
    Calls Try.prog 124 #[.agg #[.slice wa wn wk, .slice (some ⟨tb, 0, none⟩) (m * 16) tc, .slice ma mn mc, .int .i64 ((A.sf : Int)), .int .i64 ((A.st : Int)), .int .i64 ((A.gf : Int)), .int .i64 ((A.gt : Int)), .int .i64 ((A.cf : Int)), .int .i64 ((A.ct : Int)), .int .i64 (((A.next : Int) * 16))], .int .i64 (n : Int)] w (GivesA B0 wa wn wk ma mn mc m w (A.greatA n m)) := by
  have HB := Lib.hid hB
  have OK := Lib.hid ok
  have htc : m * 16 ≤ tc := by have := hB.cp.1; rw [len_tks, ok.ll] at this; exact this
  have htc2 : tc ≤ 9223372036854775807 := by have := hB.cp.2; unfold maxLen at this; omega
  have hg1 := ok.g1
  have hg2 := ok.g2
  obtain ⟨W1, hW1⟩ : ∃ W1, W1 = (w.alloc (.cells #[.slice wa wn wk, .slice (some ⟨tb, 0, none⟩) (m * 16) tc, .slice ma mn mc, .int .i64 ((A.sf : Int)), .int .i64 ((A.st : Int)), .int .i64 ((A.gf : Int)), .int .i64 ((A.gt : Int)), .int .i64 ((A.cf : Int)), .int .i64 ((A.ct : Int)), .int .i64 (((A.next : Int) * 16))] 31)).alloc (.cells #[.slice none 0 0, .slice none 0 0, .slice none 0 0, .int .i64 0, .int .i64 0, .int .i64 0, .int .i64 0, .int .i64 0, .int .i64 0, .int .i64 0] 31) := ⟨_, rfl⟩
  have P1 := Lib.hid (show blk W1 w.heap.size = some (.cells #[.slice wa wn wk, .slice (some ⟨tb, 0, none⟩) (m * 16) tc, .slice ma mn mc, .int .i64 ((A.sf : Int)), .int .i64 ((A.st : Int)), .int .i64 ((A.gf : Int)), .int .i64 ((A.gt : Int)), .int .i64 ((A.cf : Int)), .int .i64 ((A.ct : Int)), .int .i64 (((A.next : Int) * 16))] 31 (0, 0)) by rw [hW1, blk_alloc, if_neg (by rw [size_alloc]; omega), blk_alloc, if_pos rfl])
  have R1 := Lib.hid (show blk W1 (w.heap.size + 1) = some (.cells #[.slice none 0 0, .slice none 0 0, .slice none 0 0, .int .i64 0, .int .i64 0, .int .i64 0, .int .i64 0, .int .i64 0, .int .i64 0, .int .i64 0] 31 (0, 0)) by rw [hW1, blk_alloc, if_pos (by rw [size_alloc])])
  have F1 : Hid (Fr [] w W1) := Lib.hid (by rw [hW1]; exact ((Fr.refl _ _).alloc _).alloc _)
  obtain ⟨pb, hpb⟩ : ∃ pb, pb = w.heap.size := ⟨_, rfl⟩
  have HPB := Lib.hid hpb
  rw [← hpb] at P1 R1
  have CLAST := Lib.hid (fun (w1 : World) (hF : Fr [] w w1) => rlast_c (wa := wa) (wn := wn) (wc := wk) (ma := ma) (mn := mn) (mc := mc) (sf := (A.sf : Int)) (st := (A.st : Int)) (gf := (A.gf : Int)) (gt := (A.gt : Int)) (cf := (A.cf : Int)) (ct := (A.ct : Int)) (nx := (A.next : Int) * 16) w1 (hB.keep hF) ok.ll hm)
  have CHOLES := Lib.hid (fun (w1 : World) (hF : Fr [] w w1) => rholes_c (wa := wa) (wn := wn) (wc := wk) (ma := ma) (mn := mn) (mc := mc) (sf := (A.sf : Int)) (st := (A.st : Int)) (gf := (A.gf : Int)) (gt := (A.gt : Int)) (cf := (A.cf : Int)) (ct := (A.ct : Int)) (nx := (A.next : Int) * 16) w1 (hB.keep hF) ok.ll hm)
  have CCL := Lib.hid (fun (w1 : World) (hF : Fr [] w w1) (f t : Nat) (hf : f ≤ t) (ht : t ≤ m * 16) => rclaim_m (wa := wa) (wn := wn) (wc := wk) (ma := ma) (mn := mn) (mc := mc) (sf := (A.sf : Int)) (st := (A.st : Int)) (gf := (A.gf : Int)) (gt := (A.gt : Int)) (cf := (A.cf : Int)) (ct := (A.ct : Int)) (nx := (A.next : Int) * 16) w1 (hB.keep hF) ok.ll hm f t hf ht)
  have HRL : Hid ((runs A.lines).length ≤ 1600) := Lib.hid (by unfold runs; rw [List.length_reverse]; have := runsR_len A.lines A.lines.length; rw [ok.ll] at this; rw [ok.ll]; omega)
  clear hB ok
  go_enter Try.func124, Try.ntmps124
  go_upto_region 1 with fail
  rw [← hW1, ← hpb]
  clear hW1 hpb
  have p0 := cell_of P1.out (i := 0) rfl
  have p1 := cell_of P1.out (i := 1) rfl
  have p2 := cell_of P1.out (i := 2) rfl
  have p3 := cell_of P1.out (i := 3) rfl
  have p4 := cell_of P1.out (i := 4) rfl
  have p5 := cell_of P1.out (i := 5) rfl
  have p6 := cell_of P1.out (i := 6) rfl
  have p7 := cell_of P1.out (i := 7) rfl
  have p8 := cell_of P1.out (i := 8) rfl
  have p9 := cell_of P1.out (i := 9) rfl
  have pf0 := free_of P1.out (i := 0)
  have pf1 := free_of P1.out (i := 1)
  have pf2 := free_of P1.out (i := 2)
  have pf3 := free_of P1.out (i := 3)
  have pf4 := free_of P1.out (i := 4)
  have pf5 := free_of P1.out (i := 5)
  have pf6 := free_of P1.out (i := 6)
  have pf7 := free_of P1.out (i := 7)
  have pf8 := free_of P1.out (i := 8)
  have pf9 := free_of P1.out (i := 9)
  have r0 := cell_of R1.out (i := 0) rfl
  have r1 := cell_of R1.out (i := 1) rfl
  have r2 := cell_of R1.out (i := 2) rfl
  have r3 := cell_of R1.out (i := 3) rfl
  have r4 := cell_of R1.out (i := 4) rfl
  have r5 := cell_of R1.out (i := 5) rfl
  have r6 := cell_of R1.out (i := 6) rfl
  have r7 := cell_of R1.out (i := 7) rfl
  have r8 := cell_of R1.out (i := 8) rfl
  have r9 := cell_of R1.out (i := 9) rfl
  have rf0 := free_of R1.out (i := 0)
  have rf1 := free_of R1.out (i := 1)
  have rf2 := free_of R1.out (i := 2)
  have rf3 := free_of R1.out (i := 3)
  have rf4 := free_of R1.out (i := 4)
  have rf5 := free_of R1.out (i := 5)
  have rf6 := free_of R1.out (i := 6)
  have rf7 := free_of R1.out (i := 7)
  have rf8 := free_of R1.out (i := 8)
  have rf9 := free_of R1.out (i := 9)
  go_upto_if 21 with fail
  go_cut [] (fun wx => CutG B0 wa wn wk ma mn mc m w pb A n wx)
  case first =>
    by_cases hc : n ≤ A.gt - A.gf
    · have hlt : ¬ (A.gt : Int) - (A.gf : Int) < (n : Int) := by omega
      go_wp2_with fail
      go_meet
      have hbl := HB.out.lt
      have hpb := HPB.out
      refine ⟨tb, tc, A.gf, A.gt, A.lines, P1.out, R1.out, HB.out.keep F1.out, F1.out, ?_, by omega, by omega, by omega⟩
      unfold Ar.greatA
      rw [if_pos hc]
    · have hlt : (A.gt : Int) - (A.gf : Int) < (n : Int) := by omega
      have HDN := Lib.hid (pickG_done h1 hc OK.out)
      have B0 : Hid (lastI (blockBelow A.lines m) = (pickG A.lines m n 0).1 ∧ 16 * lastI (blockBelow A.lines m) = (pickG A.lines m n 0).2.1 ∧ 16 * lastI (blockBelow A.lines m) + 16 = (pickG A.lines m n 0).2.2) := Lib.hid (by
        unfold pickG
        cases blockBelow A.lines m with
        | some q => exact ⟨rfl, rfl, rfl⟩
        | none => simp [lastI])
      have BQ : Hid (-1 ≤ lastI (blockBelow A.lines m) ∧ lastI (blockBelow A.lines m) ≤ 1000) := Lib.hid (by
        cases hb : blockBelow A.lines m with
        | some q => have := (blockBelow_lt _ _ _ hb).1; simp only [lastI]; omega
        | none => simp [lastI])
      clear hc
      go_wp2_with fail
      refine (CLAST.out _ F1.out).mono ?_
      rintro e w5 ⟨rfl, F5⟩
      have P5 := Lib.hid (F5.at P1.out (by simp))
      have R5 := Lib.hid (F5.at R1.out (by simp))
      have F5 := Lib.hid (F1.out.same F5)
      obtain ⟨b0, hb0⟩ : ∃ b0, b0 = lastI (blockBelow A.lines m) := ⟨_, rfl⟩
      rw [← hb0] at B0 BQ ⊢
      have hbq := BQ.out
      have hl5 : pb + 1 < w5.heap.size := lt_size R5.out
      have hl50 : pb < w5.heap.size := by omega
      have hn5 : pb ≠ w5.heap.size := by omega
      have hn51 : pb + 1 ≠ w5.heap.size := by omega
      clear hb0
      clear p0 p1 p2 p3 p4 p5 p6 p7 p8 p9 pf0 pf1 pf2 pf3 pf4 pf5 pf6 pf7 pf8 pf9 r0 r1 r2 r3 r4 r5 r6 r7 r8 r9 rf0 rf1 rf2 rf3 rf4 rf5 rf6 rf7 rf8 rf9
      have p0 := cell_of P5.out (i := 0) rfl
      have p1 := cell_of P5.out (i := 1) rfl
      have p2 := cell_of P5.out (i := 2) rfl
      have p3 := cell_of P5.out (i := 3) rfl
      have p4 := cell_of P5.out (i := 4) rfl
      have p5 := cell_of P5.out (i := 5) rfl
      have p6 := cell_of P5.out (i := 6) rfl
      have p7 := cell_of P5.out (i := 7) rfl
      have p8 := cell_of P5.out (i := 8) rfl
      have p9 := cell_of P5.out (i := 9) rfl
      have pf0 := free_of P5.out (i := 0)
      have pf1 := free_of P5.out (i := 1)
      have pf2 := free_of P5.out (i := 2)
      have pf3 := free_of P5.out (i := 3)
      have pf4 := free_of P5.out (i := 4)
      have pf5 := free_of P5.out (i := 5)
      have pf6 := free_of P5.out (i := 6)
      have pf7 := free_of P5.out (i := 7)
      have pf8 := free_of P5.out (i := 8)
      have pf9 := free_of P5.out (i := 9)
      have r0 := cell_of R5.out (i := 0) rfl
      have r1 := cell_of R5.out (i := 1) rfl
      have r2 := cell_of R5.out (i := 2) rfl
      have r3 := cell_of R5.out (i := 3) rfl
      have r4 := cell_of R5.out (i := 4) rfl
      have r5 := cell_of R5.out (i := 5) rfl
      have r6 := cell_of R5.out (i := 6) rfl
      have r7 := cell_of R5.out (i := 7) rfl
      have r8 := cell_of R5.out (i := 8) rfl
      have r9 := cell_of R5.out (i := 9) rfl
      have rf0 := free_of R5.out (i := 0)
      have rf1 := free_of R5.out (i := 1)
      have rf2 := free_of R5.out (i := 2)
      have rf3 := free_of R5.out (i := 3)
      have rf4 := free_of R5.out (i := 4)
      have rf5 := free_of R5.out (i := 5)
      have rf6 := free_of R5.out (i := 6)
      have rf7 := free_of R5.out (i := 7)
      have rf8 := free_of R5.out (i := 8)
      have rf9 := free_of R5.out (i := 9)
      go_wp2_with fail
      refine (CHOLES.out _ (F5.out.alloc _)).mono ?_
      rintro e w6 ⟨hg, hcap, rfl, OH, F6⟩
      have FA : Fr [] w5 (w5.alloc (.cells #[.int .i64 (16 * b0), .int .i64 (16 * b0 + 16)] 29)) := (Fr.refl _ _).alloc _
      have HB6 : Hid (blk w6 w5.heap.size = some (.cells #[.int .i64 (16 * b0), .int .i64 (16 * b0 + 16)] 29 (0, 0))) := Lib.hid (F6.at (by rw [blk_alloc, if_pos rfl]) (by simp))
      obtain ⟨H, hH⟩ : ∃ H, H = (runs A.lines).length := ⟨_, rfl⟩
      rw [← hH] at OH HRL HDN ⊢
      have HGB : Hid (w5.heap.size < hg) := Lib.hid (by have := own_base OH; rw [size_alloc] at this; omega)
      have OH := Lib.hid OH
      have HHL := Lib.hid hH
      have hcapH := (own_cap OH.out).1
      have hH1 := HRL.out
      have P6 := Lib.hid ((FA.same F6).at P5.out (by simp))
      have R6 := Lib.hid ((FA.same F6).at R5.out (by simp))
      have F6 := Lib.hid ((F5.out.same FA).same F6)
      obtain ⟨hb, hhb⟩ : ∃ hb, hb = w5.heap.size := ⟨_, rfl⟩
      rw [← hhb] at HB6 HGB hl5 hl50 hn5 hn51 ⊢
      have hb6 : hb < w6.heap.size := lt_size HB6.out
      have hwb : w.heap.size ≤ hb := by have := HPB.out; omega
      have C0 : Hid (blk w6 hb = some (.cells #[.int .i64 (pickG A.lines m n 0).2.1, .int .i64 (pickG A.lines m n 0).2.2] 29 (0, 0))) := Lib.hid (by rw [← B0.out.2.1, ← B0.out.2.2]; exact HB6.out)
      clear hH hhb FA P5 R5 F5 HB6
      go_wp2_with fail
      go_loopw [7, 10, 33] (fun b _ u wr => ∃ k : Nat, k ≤ H ∧ u = .int .i64 (k : Int) ∧ b = .int .i64 (pickG A.lines m n k).1 ∧ Hid (blk wr hb = some (.cells #[.int .i64 (pickG A.lines m n k).2.1, .int .i64 (pickG A.lines m n k).2.2] 29 (0, 0))) ∧ Hid (Fr [hb] w6 wr)) (fun _ _ u _ => H - (intOf u).toNat)
      case atStart => exact ⟨0, by omega, by go_num, by rw [B0.out.1], C0, Lib.hid (Fr.refl _ _)⟩
      case round =>
        obtain ⟨k, hk, rfl, rfl, C, F⟩ := hrel
        clear C0 B0 BQ hbq
        obtain ⟨bk, hbk⟩ : ∃ bk, bk = (pickG A.lines m n k).1 := ⟨_, rfl⟩
        obtain ⟨xk, hxk⟩ : ∃ xk, xk = (pickG A.lines m n k).2.1 := ⟨_, rfl⟩
        obtain ⟨yk, hyk⟩ : ∃ yk, yk = (pickG A.lines m n k).2.2 := ⟨_, rfl⟩
        rw [← hxk, ← hyk] at C
        rw [← hbk]
        have HBK := Lib.hid hbk
        have HXK := Lib.hid hxk
        have HYK := Lib.hid hyk
        clear hbk hxk hyk
        have e0 := cell_of C.out (i := 0) rfl
        have e1 := cell_of C.out (i := 1) rfl
        have ef0 := free_of C.out (i := 0)
        have ef1 := free_of C.out (i := 1)
        have hbw : hb < wr.heap.size := lt_size C.out
        have hbn : hb ≠ wr.heap.size := by omega
        by_cases hlt : k < H
        · obtain ⟨p, hp⟩ : ∃ p, (runs A.lines)[k]? = some p := ⟨(runs A.lines)[k]'(by rw [← HHL.out]; exact hlt), by rw [List.getElem?_eq_getElem]⟩
          have OHW := own_fr OH.out F.out (by simp [Value.ownBlock]; have := HGB.out; omega)
          have d0 := own_cell OHW (runCells_get _ k p hp).1
          have d1 := own_cell OHW (runCells_get _ k p hp).2
          have hgl := own_lt OHW
          have hgn : hg ≠ wr.heap.size := by omega
          have hr := (runs_ok A.lines _).ok p (runs_mem.1 (List.mem_of_getElem? hp))
          have hrl := hr.lt
          have hre := hr.le
          rw [OK.out.ll] at hre
          have hcnd : (n : Int) ≤ 16 * ((p.2 : Int) - (p.1 : Int)) ↔ n ≤ 16 * (p.2 - p.1) := by omega
          obtain ⟨pf, hpf⟩ : ∃ pf, pf = p.1 := ⟨_, rfl⟩
          obtain ⟨pt, hpt⟩ : ∃ pt, pt = p.2 := ⟨_, rfl⟩
          have YES : Hid (bk < 0 → n ≤ 16 * (pt - pf) → pickG A.lines m n (k + 1) = (0, (pf : Int), (pt : Int))) := Lib.hid (fun a b => by rw [HBK.out] at a; rw [hpf, hpt] at *; exact pickG_yes hp a b)
          have NO : Hid (¬ (bk < 0 ∧ n ≤ 16 * (pt - pf)) → pickG A.lines m n (k + 1) = pickG A.lines m n k) := Lib.hid (fun a => by rw [HBK.out] at a; rw [hpf, hpt] at a; exact pickG_no hp a)
          rw [← hpf] at d0 hrl hcnd
          rw [← hpt] at d1 hrl hre hcnd
          clear OHW hp hr hpf hpt
          by_cases hneg : bk < 0
          · by_cases hw : n ≤ 16 * (pt - pf)
            · have hwI : (n : Int) ≤ 16 * ((pt : Int) - (pf : Int)) := hcnd.2 hw
              have HY := Lib.hid (YES.out hneg hw)
              clear YES NO hcnd hw HXK HYK HBK
              go_wp2
              go_roundw
              case rel => exact ⟨k + 1, by omega, by go_num, by rw [HY.out], Lib.hid (by
                rw [HY.out, blk_alloc, if_neg (by rw [size_set, size_set]; omega)]
                have := blk_two (i := 0) (j := 1) C.out (.int .i64 (pf : Int)) (.int .i64 (pt : Int))
                simpa only [List.setIfInBounds_toArray, List.set_cons_succ, List.set_cons_zero] using this), Lib.hid (((F.out.setCell (.inl (by simp)) _).setCell (.inl (by simp)) _).alloc _)⟩
              case measure => simp [intOf]; omega
            · have hwI : ¬ (n : Int) ≤ 16 * ((pt : Int) - (pf : Int)) := fun h => hw (hcnd.1 h)
              have HY := Lib.hid (NO.out (fun h => hw h.2))
              clear YES NO hcnd hw
              go_wp2
              go_roundw
              case rel => exact ⟨k + 1, by omega, by go_num, by rw [HY.out, ← HBK.out], Lib.hid (by
                rw [HY.out, blk_alloc, if_neg hbn, ← HXK.out, ← HYK.out]
                exact C.out), Lib.hid (F.out.alloc _)⟩
              case measure => simp [intOf]; omega
          · have HY := Lib.hid (NO.out (fun h => hneg h.1))
            clear YES NO hcnd
            go_wp2
            go_roundw
            case rel => exact ⟨k + 1, by omega, by go_num, by rw [HY.out, ← HBK.out], Lib.hid (by
              rw [HY.out, blk_alloc, if_neg hbn, ← HXK.out, ← HYK.out]
              exact C.out), Lib.hid (F.out.alloc _)⟩
            case measure => simp [intOf]; omega
        · have hkH : k = H := by omega
          subst hkH
          have hpbh : pb ≠ hb := by omega
          have hpbh1 : pb + 1 ≠ hb := by omega
          have P := Lib.hid (F.out.at P6.out (by simpa using hpbh))
          have R := Lib.hid (F.out.at R6.out (by simpa using hpbh1))
          have FW : Hid (Fr [] w wr) := Lib.hid (F6.out.trans F.out (fun x hx => .inr (by simp only [List.mem_singleton] at hx; rw [hx]; exact hwb)))
          have hpw := lt_size P.out
          have hD := HDN.out
          rw [← HBK.out] at hD
          clear HDN P6 R6 F6 OH HGB
          clear p0 p1 p2 p3 p4 p5 p6 p7 p8 p9 pf0 pf1 pf2 pf3 pf4 pf5 pf6 pf7 pf8 pf9 r0 r1 r2 r3 r4 r5 r6 r7 r8 r9 rf0 rf1 rf2 rf3 rf4 rf5 rf6 rf7 rf8 rf9
          have p0 := cell_of P.out (i := 0) rfl
          have p1 := cell_of P.out (i := 1) rfl
          have p2 := cell_of P.out (i := 2) rfl
          have p3 := cell_of P.out (i := 3) rfl
          have p4 := cell_of P.out (i := 4) rfl
          have p5 := cell_of P.out (i := 5) rfl
          have p6 := cell_of P.out (i := 6) rfl
          have p7 := cell_of P.out (i := 7) rfl
          have p8 := cell_of P.out (i := 8) rfl
          have p9 := cell_of P.out (i := 9) rfl
          have pf0 := free_of P.out (i := 0)
          have pf1 := free_of P.out (i := 1)
          have pf2 := free_of P.out (i := 2)
          have pf3 := free_of P.out (i := 3)
          have pf4 := free_of P.out (i := 4)
          have pf5 := free_of P.out (i := 5)
          have pf6 := free_of P.out (i := 6)
          have pf7 := free_of P.out (i := 7)
          have pf8 := free_of P.out (i := 8)
          have pf9 := free_of P.out (i := 9)
          have r0 := cell_of R.out (i := 0) rfl
          have r1 := cell_of R.out (i := 1) rfl
          have r2 := cell_of R.out (i := 2) rfl
          have r3 := cell_of R.out (i := 3) rfl
          have r4 := cell_of R.out (i := 4) rfl
          have r5 := cell_of R.out (i := 5) rfl
          have r6 := cell_of R.out (i := 6) rfl
          have r7 := cell_of R.out (i := 7) rfl
          have r8 := cell_of R.out (i := 8) rfl
          have r9 := cell_of R.out (i := 9) rfl
          have rf0 := free_of R.out (i := 0)
          have rf1 := free_of R.out (i := 1)
          have rf2 := free_of R.out (i := 2)
          have rf3 := free_of R.out (i := 3)
          have rf4 := free_of R.out (i := 4)
          have rf5 := free_of R.out (i := 5)
          have rf6 := free_of R.out (i := 6)
          have rf7 := free_of R.out (i := 7)
          have rf8 := free_of R.out (i := 8)
          have rf9 := free_of R.out (i := 9)
          rcases hD with ⟨hneg, hgr⟩ | ⟨hneg, f, t, he, hft, htm, hgr⟩
          · have HGR := Lib.hid hgr
            clear hgr
            go_wp2
            refine bodyPost_ret (ret_st3 rfl _ _ _ _ rfl (blk10 R.out) rfl size_arena14 und_arena14) rfl ?_
            rw [HGR.out]
            exact ⟨tb, tc, rfl, HB.out.keep (fr10 FW.out (.inr (by rw [HPB.out]; omega))), fr10 FW.out (.inr (by rw [HPB.out]; omega))⟩
          · have HGR := Lib.hid hgr
            have hxf : xk = (f : Int) := by rw [HXK.out, he]
            have hyt : yk = (t : Int) := by rw [HYK.out, he]
            rw [hxf] at e0
            rw [hyt] at e1
            have CL := Lib.hid (CCL.out wr FW.out f t hft htm)
            clear hgr he hxf hyt HXK HYK HBK C
            go_wp2_with fail
            refine CL.out.mono ?_
            rintro e w7 ⟨tb', tc', rfl, B7, F7, hbt⟩
            have htp : pb + 1 < tb' := by have := lt_size R.out; omega
            have P7 := Lib.hid (F7.at P.out (by simp))
            have R7 := Lib.hid (F7.at R.out (by simp))
            have g0 := cell_frR e0 F7 (by simp)
            have g1 := cell_frR e1 F7 (by simp)
            have B7 := Lib.hid B7
            have F7 := Lib.hid (FW.out.same F7)
            clear CL e0 e1 ef0 ef1
            clear p0 p1 p2 p3 p4 p5 p6 p7 p8 p9 pf0 pf1 pf2 pf3 pf4 pf5 pf6 pf7 pf8 pf9 r0 r1 r2 r3 r4 r5 r6 r7 r8 r9 rf0 rf1 rf2 rf3 rf4 rf5 rf6 rf7 rf8 rf9
            have p0 := cell_of P7.out (i := 0) rfl
            have p1 := cell_of P7.out (i := 1) rfl
            have p2 := cell_of P7.out (i := 2) rfl
            have p3 := cell_of P7.out (i := 3) rfl
            have p4 := cell_of P7.out (i := 4) rfl
            have p5 := cell_of P7.out (i := 5) rfl
            have p6 := cell_of P7.out (i := 6) rfl
            have p7 := cell_of P7.out (i := 7) rfl
            have p8 := cell_of P7.out (i := 8) rfl
            have p9 := cell_of P7.out (i := 9) rfl
            have pf0 := free_of P7.out (i := 0)
            have pf1 := free_of P7.out (i := 1)
            have pf2 := free_of P7.out (i := 2)
            have pf3 := free_of P7.out (i := 3)
            have pf4 := free_of P7.out (i := 4)
            have pf5 := free_of P7.out (i := 5)
            have pf6 := free_of P7.out (i := 6)
            have pf7 := free_of P7.out (i := 7)
            have pf8 := free_of P7.out (i := 8)
            have pf9 := free_of P7.out (i := 9)
            have r0 := cell_of R7.out (i := 0) rfl
            have r1 := cell_of R7.out (i := 1) rfl
            have r2 := cell_of R7.out (i := 2) rfl
            have r3 := cell_of R7.out (i := 3) rfl
            have r4 := cell_of R7.out (i := 4) rfl
            have r5 := cell_of R7.out (i := 5) rfl
            have r6 := cell_of R7.out (i := 6) rfl
            have r7 := cell_of R7.out (i := 7) rfl
            have r8 := cell_of R7.out (i := 8) rfl
            have r9 := cell_of R7.out (i := 9) rfl
            have rf0 := free_of R7.out (i := 0)
            have rf1 := free_of R7.out (i := 1)
            have rf2 := free_of R7.out (i := 2)
            have rf3 := free_of R7.out (i := 3)
            have rf4 := free_of R7.out (i := 4)
            have rf5 := free_of R7.out (i := 5)
            have rf6 := free_of R7.out (i := 6)
            have rf7 := free_of R7.out (i := 7)
            have rf8 := free_of R7.out (i := 8)
            have rf9 := free_of R7.out (i := 9)
            go_upto_region 14 with fail
            obtain ⟨W8, hW8⟩ : ∃ W8, W8 = ((((((((((w7.setCell ⟨pb, 0, none⟩ (.slice wa wn wk)).setCell ⟨pb, 1, none⟩ (.slice (some ⟨tb', 0, none⟩) (m * 16) tc')).setCell ⟨pb, 2, none⟩ (.slice ma mn mc)).setCell ⟨pb, 3, none⟩ (.int .i64 (A.sf : Int))).setCell ⟨pb, 4, none⟩ (.int .i64 (A.st : Int))).setCell ⟨pb, 5, none⟩ (.int .i64 (A.gf : Int))).setCell ⟨pb, 6, none⟩ (.int .i64 (A.gt : Int))).setCell ⟨pb, 7, none⟩ (.int .i64 (A.cf : Int))).setCell ⟨pb, 8, none⟩ (.int .i64 (A.ct : Int))).setCell ⟨pb, 9, none⟩ (.int .i64 ((A.next : Int) * 16))) := ⟨_, rfl⟩
            rw [← hW8]
            have P8 := Lib.hid (show blk W8 pb = some (.cells #[.slice wa wn wk, .slice (some ⟨tb', 0, none⟩) (m * 16) tc', .slice ma mn mc, .int .i64 ((A.sf : Int)), .int .i64 ((A.st : Int)), .int .i64 ((A.gf : Int)), .int .i64 ((A.gt : Int)), .int .i64 ((A.cf : Int)), .int .i64 ((A.ct : Int)), .int .i64 (((A.next : Int) * 16))] 31 (0, 0)) by rw [hW8]; exact blk10 P7.out)
            have R8 := Lib.hid (show blk W8 (pb + 1) = some (.cells #[.slice none 0 0, .slice none 0 0, .slice none 0 0, .int .i64 0, .int .i64 0, .int .i64 0, .int .i64 0, .int .i64 0, .int .i64 0, .int .i64 0] 31 (0, 0)) by rw [hW8, blk10_ne (by omega)]; exact R7.out)
            have B8 := Lib.hid (show BsAt B0 W8 tb' tc' (tks (claimed A.lines f t)) by rw [hW8]; exact B7.out.fr (fr10 (Fr.refl [pb] w7) (.inl (by simp))) (by simp; omega))
            have F8 := Lib.hid (show Fr [] w W8 by rw [hW8]; exact fr10 F7.out (.inr (by rw [HPB.out]; exact Nat.le_refl _)))
            have h0 : W8.cell? ⟨hb, 0, none⟩ = some (.int .i64 (f : Int)) := by rw [hW8]; exact cell_frR g0 (fr10 (Fr.refl [pb] w7) (.inl (by simp))) (by simpa using Ne.symm hpbh)
            have h1' : W8.cell? ⟨hb, 1, none⟩ = some (.int .i64 (t : Int)) := by rw [hW8]; exact cell_frR g1 (fr10 (Fr.refl [pb] w7) (.inl (by simp))) (by simpa using Ne.symm hpbh)
            clear hW8 P7 R7 B7 F7 g0 g1
            clear p0 p1 p2 p3 p4 p5 p6 p7 p8 p9 pf0 pf1 pf2 pf3 pf4 pf5 pf6 pf7 pf8 pf9 r0 r1 r2 r3 r4 r5 r6 r7 r8 r9 rf0 rf1 rf2 rf3 rf4 rf5 rf6 rf7 rf8 rf9
            have p0 := cell_of P8.out (i := 0) rfl
            have p1 := cell_of P8.out (i := 1) rfl
            have p2 := cell_of P8.out (i := 2) rfl
            have p3 := cell_of P8.out (i := 3) rfl
            have p4 := cell_of P8.out (i := 4) rfl
            have p5 := cell_of P8.out (i := 5) rfl
            have p6 := cell_of P8.out (i := 6) rfl
            have p7 := cell_of P8.out (i := 7) rfl
            have p8 := cell_of P8.out (i := 8) rfl
            have p9 := cell_of P8.out (i := 9) rfl
            have pf0 := free_of P8.out (i := 0)
            have pf1 := free_of P8.out (i := 1)
            have pf2 := free_of P8.out (i := 2)
            have pf3 := free_of P8.out (i := 3)
            have pf4 := free_of P8.out (i := 4)
            have pf5 := free_of P8.out (i := 5)
            have pf6 := free_of P8.out (i := 6)
            have pf7 := free_of P8.out (i := 7)
            have pf8 := free_of P8.out (i := 8)
            have pf9 := free_of P8.out (i := 9)
            have r0 := cell_of R8.out (i := 0) rfl
            have r1 := cell_of R8.out (i := 1) rfl
            have r2 := cell_of R8.out (i := 2) rfl
            have r3 := cell_of R8.out (i := 3) rfl
            have r4 := cell_of R8.out (i := 4) rfl
            have r5 := cell_of R8.out (i := 5) rfl
            have r6 := cell_of R8.out (i := 6) rfl
            have r7 := cell_of R8.out (i := 7) rfl
            have r8 := cell_of R8.out (i := 8) rfl
            have r9 := cell_of R8.out (i := 9) rfl
            have rf0 := free_of R8.out (i := 0)
            have rf1 := free_of R8.out (i := 1)
            have rf2 := free_of R8.out (i := 2)
            have rf3 := free_of R8.out (i := 3)
            have rf4 := free_of R8.out (i := 4)
            have rf5 := free_of R8.out (i := 5)
            have rf6 := free_of R8.out (i := 6)
            have rf7 := free_of R8.out (i := 7)
            have rf8 := free_of R8.out (i := 8)
            have rf9 := free_of R8.out (i := 9)
            go_wp2_with fail
            go_meet
            refine ⟨tb', tc', 16 * f, 16 * t, claimed A.lines f t, ?_, ?_, ?_, ?_, ?_, by omega, by omega, by omega⟩
            · have := blk_two (i := 5) (j := 6) P8.out (.int .i64 (16 * (f : Int))) (.int .i64 (16 * (t : Int)))
              rw [show ((16 * f : Nat) : Int) = 16 * (f : Int) by omega, show ((16 * t : Nat) : Int) = 16 * (t : Int) by omega]
              simpa only [List.setIfInBounds_toArray, List.set_cons_succ, List.set_cons_zero] using this
            · rw [blk_set, if_neg (by omega), blk_set, if_neg (by omega)]
              exact R8.out
            · exact B8.out.fr (((Fr.refl [pb] W8).setCell (.inl (by simp)) _).setCell (.inl (by simp)) _) (by simp; omega)
            · exact (F8.out.setCell (.inr (by rw [HPB.out]; exact Nat.le_refl _)) _).setCell (.inr (by rw [HPB.out]; exact Nat.le_refl _)) _
            · rw [HGR.out]
              rfl
  case rest =>
    obtain ⟨tb', tc', f, t, L', P, R, BX, FX, hfr, hf, hb1, hb2⟩ := hcut
    have HFR := Lib.hid hfr
    have P := Lib.hid P
    have R := Lib.hid R
    have BX := Lib.hid BX
    have FX := Lib.hid FX
    have CO := Lib.hid (roff_c wc (f : Int) (t : Int) (n : Int) (by omega) (by omega) (by omega) (by omega))
    clear hfr CLAST CHOLES CCL HRL P1 R1 F1 HB
    clear p0 p1 p2 p3 p4 p5 p6 p7 p8 p9 pf0 pf1 pf2 pf3 pf4 pf5 pf6 pf7 pf8 pf9 r0 r1 r2 r3 r4 r5 r6 r7 r8 r9 rf0 rf1 rf2 rf3 rf4 rf5 rf6 rf7 rf8 rf9
    have p0 := cell_of P.out (i := 0) rfl
    have p1 := cell_of P.out (i := 1) rfl
    have p2 := cell_of P.out (i := 2) rfl
    have p3 := cell_of P.out (i := 3) rfl
    have p4 := cell_of P.out (i := 4) rfl
    have p5 := cell_of P.out (i := 5) rfl
    have p6 := cell_of P.out (i := 6) rfl
    have p7 := cell_of P.out (i := 7) rfl
    have p8 := cell_of P.out (i := 8) rfl
    have p9 := cell_of P.out (i := 9) rfl
    have pf0 := free_of P.out (i := 0)
    have pf1 := free_of P.out (i := 1)
    have pf2 := free_of P.out (i := 2)
    have pf3 := free_of P.out (i := 3)
    have pf4 := free_of P.out (i := 4)
    have pf5 := free_of P.out (i := 5)
    have pf6 := free_of P.out (i := 6)
    have pf7 := free_of P.out (i := 7)
    have pf8 := free_of P.out (i := 8)
    have pf9 := free_of P.out (i := 9)
    have r0 := cell_of R.out (i := 0) rfl
    have r1 := cell_of R.out (i := 1) rfl
    have r2 := cell_of R.out (i := 2) rfl
    have r3 := cell_of R.out (i := 3) rfl
    have r4 := cell_of R.out (i := 4) rfl
    have r5 := cell_of R.out (i := 5) rfl
    have r6 := cell_of R.out (i := 6) rfl
    have r7 := cell_of R.out (i := 7) rfl
    have r8 := cell_of R.out (i := 8) rfl
    have r9 := cell_of R.out (i := 9) rfl
    have rf0 := free_of R.out (i := 0)
    have rf1 := free_of R.out (i := 1)
    have rf2 := free_of R.out (i := 2)
    have rf3 := free_of R.out (i := 3)
    have rf4 := free_of R.out (i := 4)
    have rf5 := free_of R.out (i := 5)
    have rf6 := free_of R.out (i := 6)
    have rf7 := free_of R.out (i := 7)
    have rf8 := free_of R.out (i := 8)
    have rf9 := free_of R.out (i := 9)
    go_wp2_with fail
    refine CO.out.mono ?_
    rintro e w8 ⟨rfl, F8⟩
    have P8 := Lib.hid (F8.at P.out (by simp))
    have R8 := Lib.hid (F8.at R.out (by simp))
    have B8 := Lib.hid (BX.out.keep F8)
    have F9 := Lib.hid (FX.out.same F8)
    have hpl : pb + 1 < w8.heap.size := lt_size R8.out
    have hpl0 : pb < w8.heap.size := by omega
    have hpn : pb ≠ w8.heap.size := by omega
    have hpn1 : pb + 1 ≠ w8.heap.size := by omega
    clear CO F8
    clear p0 p1 p2 p3 p4 p5 p6 p7 p8 p9 pf0 pf1 pf2 pf3 pf4 pf5 pf6 pf7 pf8 pf9 r0 r1 r2 r3 r4 r5 r6 r7 r8 r9 rf0 rf1 rf2 rf3 rf4 rf5 rf6 rf7 rf8 rf9
    have p0 := cell_of P8.out (i := 0) rfl
    have p1 := cell_of P8.out (i := 1) rfl
    have p2 := cell_of P8.out (i := 2) rfl
    have p3 := cell_of P8.out (i := 3) rfl
    have p4 := cell_of P8.out (i := 4) rfl
    have p5 := cell_of P8.out (i := 5) rfl
    have p6 := cell_of P8.out (i := 6) rfl
    have p7 := cell_of P8.out (i := 7) rfl
    have p8 := cell_of P8.out (i := 8) rfl
    have p9 := cell_of P8.out (i := 9) rfl
    have pf0 := free_of P8.out (i := 0)
    have pf1 := free_of P8.out (i := 1)
    have pf2 := free_of P8.out (i := 2)
    have pf3 := free_of P8.out (i := 3)
    have pf4 := free_of P8.out (i := 4)
    have pf5 := free_of P8.out (i := 5)
    have pf6 := free_of P8.out (i := 6)
    have pf7 := free_of P8.out (i := 7)
    have pf8 := free_of P8.out (i := 8)
    have pf9 := free_of P8.out (i := 9)
    have r0 := cell_of R8.out (i := 0) rfl
    have r1 := cell_of R8.out (i := 1) rfl
    have r2 := cell_of R8.out (i := 2) rfl
    have r3 := cell_of R8.out (i := 3) rfl
    have r4 := cell_of R8.out (i := 4) rfl
    have r5 := cell_of R8.out (i := 5) rfl
    have r6 := cell_of R8.out (i := 6) rfl
    have r7 := cell_of R8.out (i := 7) rfl
    have r8 := cell_of R8.out (i := 8) rfl
    have r9 := cell_of R8.out (i := 9) rfl
    have rf0 := free_of R8.out (i := 0)
    have rf1 := free_of R8.out (i := 1)
    have rf2 := free_of R8.out (i := 2)
    have rf3 := free_of R8.out (i := 3)
    have rf4 := free_of R8.out (i := 4)
    have rf5 := free_of R8.out (i := 5)
    have rf6 := free_of R8.out (i := 6)
    have rf7 := free_of R8.out (i := 7)
    have rf8 := free_of R8.out (i := 8)
    have rf9 := free_of R8.out (i := 9)
    go_wp2
    have hle : w.heap.size ≤ pb := by rw [HPB.out]; exact Nat.le_refl _
    have RF := blk_final (W := (w8.setCell ⟨pb, 5, none⟩ (.int .i64 ((f : Int) + (n : Int)))).setCell ⟨pb, 6, none⟩ (.int .i64 (t : Int))) (g := pb + 1) (o := .cells #[.int .i64 ((f : Int) + (n : Int)), .int .i64 (t : Int)] 29) (by rw [blk_set, if_neg (by omega), blk_set, if_neg (by omega)]; exact R8.out)
    refine bodyPost_ret (ret_st3 rfl _ _ _ _ rfl (RF _ _ _ _ _ _ _ _ _ _) rfl size_arena14 und_arena14) rfl ?_
    rw [HFR.out]
    refine ⟨tb', tc', rfl, ?_, ?_⟩
    · exact B8.out.fr ((fr10 (((Fr.refl [pb, pb + 1] w8).setCell (.inl (by simp)) _).setCell (.inl (by simp)) _) (.inl (by simp))).alloc _) (by simp; omega)
    · exact (fr10 ((F9.out.setCell (.inr hle) _).setCell (.inr hle) _) (.inr (by omega))).alloc _
end Go.Proofs.Ytjgndfhfiekomaa
