/- The document's heap: Move. -/
import Derived.Test.YtjgndfhfiekomaaHrP
import Derived.Deep.RegionHeld3
import Derived.StillTailTactics
set_option linter.all false
namespace Go.Proofs.Ytjgndfhfiekomaa
open Go.ChangeShapes Go.WideShapes Go.RowKit
variable {B0 : Nat} {w w' : World} {wa ma oa : Option Addr} {wn wk tb tc mn mc oc : Nat} {A : Ar} {m : Nat} {O : List RO} {r : RO}
theorem b1a (w : World) (o : Obj) : blk (w.alloc o) w.heap.size = some o := by rw [blk_alloc, if_pos rfl]
theorem wp_gen {P : Program} {c : Code} {K : Exit → Act → World → Prop} {a : Act} {W : World} (R : World → Prop) (h : R W) (k : ∀ W', R W' → Code.wp P c K a W') : Code.wp P c K a W := k W h
theorem blk10h {w : World} {g : Nat} {t : TypeId} {x0 x1 x2 x3 x4 x5 x6 x7 x8 x9 x10 y0 y1 y2 y3 y4 y5 y6 y7 y8 y9 : Value} (h : blk w g = some (.cells #[x0, x1, x2, x3, x4, x5, x6, x7, x8, x9, x10] t (0, 0))) : blk (((((((((((w.setCell ⟨g, 0, none⟩ y0).setCell ⟨g, 1, none⟩ y1).setCell ⟨g, 2, none⟩ y2).setCell ⟨g, 3, none⟩ y3).setCell ⟨g, 4, none⟩ y4).setCell ⟨g, 5, none⟩ y5).setCell ⟨g, 6, none⟩ y6).setCell ⟨g, 7, none⟩ y7).setCell ⟨g, 8, none⟩ y8).setCell ⟨g, 9, none⟩ y9)) g = some (.cells #[y0, y1, y2, y3, y4, y5, y6, y7, y8, y9, x10] t (0, 0)) := by
  have step : ∀ {w : World} {cs : Array Value} (i : Nat) (v : Value), blk w g = some (.cells cs t (0, 0)) → blk (w.setCell ⟨g, i, none⟩ v) g = some (.cells (cs.setIfInBounds i v) t (0, 0)) := fun i v h => by rw [blk_set, if_pos rfl, h]; rfl
  have := (step 9 y9 (step 8 y8 (step 7 y7 (step 6 y6 (step 5 y5 (step 4 y4 (step 3 y3 (step 2 y2 (step 1 y1 (step 0 y0 h))))))))))
  simpa only [List.setIfInBounds_toArray, List.set_cons_succ, List.set_cons_zero] using this
/-- What Move does. -/
def MoveSpec (A : Ar) (m : Nat) (O : List RO) (x : Int) (A' : Ar) (O' : List RO) (y : Int) (b : Bool) : Prop :=
  (b = false ∧ y = 0 ∧ O' = O ∧ A' = A ∧ ∀ i r, hereR O x = some i → O[i]? = some r → 0 < r.pins) ∨
  (∃ i r, hereR O x = some i ∧ O[i]? = some r ∧ r.pins ≤ 0 ∧ A' = (A.fresh m ((r.fs.length : Int) + 1)).1 ∧
    ((b = false ∧ y = 0 ∧ O' = O ∧ (A.fresh m ((r.fs.length : Int) + 1)).2 = none) ∨
     ∃ k : Nat, b = true ∧ (A.fresh m ((r.fs.length : Int) + 1)).2 = some k ∧ y = mkW 1 k ∧ O' = O.set i { r with dst := k } ++ [{ r with a := k }]))
def HpOk (B0 : Nat) (wa ma : Option Addr) (wn wk mn mc m : Nat) (w : World) (R : Ar → List RO → Int → Bool → Prop) (e : Ending) (w' : World) : Prop :=
  ∃ tb tc oa oc A O' y b, e = .returned (.tuple #[.agg #[.slice wa wn wk, .slice (some ⟨tb, 0, none⟩) (m * 16) tc, .slice ma mn mc, .int .i64 ((A.sf : Int)), .int .i64 ((A.st : Int)), .int .i64 ((A.gf : Int)), .int .i64 ((A.gt : Int)), .int .i64 ((A.cf : Int)), .int .i64 ((A.ct : Int)), .int .i64 ((A.next : Int) * 16), .slice oa O'.length oc], .int .u64 y, .bool b]) ∧ BsAt B0 w' tb tc (tks A.lines) ∧ OsAt B0 w' oa oc O' ∧ Fr [] w w' ∧ R A O' y b
/-- What stands when the arena was asked. -/
def MvCut (B0 : Nat) (wa ma : Option Addr) (wn wk mn mc m : Nat) (w : World) (R : Ar × Option Nat) (s8 s9 s10 : Value) (wx : World) : Prop :=
  ∃ g tb tc, s8 = .pointer (some ⟨g, 0, none⟩) ∧ s9 = .int .i64 ((R.2.getD 0 : Nat) : Int) ∧ s10 = .bool R.2.isSome ∧ w.heap.size ≤ g ∧ blk wx g = some (.cells #[.slice wa wn wk, .slice (some ⟨tb, 0, none⟩) (m * 16) tc, .slice ma mn mc, .int .i64 ((R.1.sf : Int)), .int .i64 ((R.1.st : Int)), .int .i64 ((R.1.gf : Int)), .int .i64 ((R.1.gt : Int)), .int .i64 ((R.1.cf : Int)), .int .i64 ((R.1.ct : Int)), .int .i64 ((R.1.next : Int) * 16)] 31 (0, 0)) ∧ BsAt B0 wx tb tc (tks R.1.lines) ∧ Fr [] w wx
set_option maxRecDepth 100000 in
set_option maxHeartbeats 4000000 in
theorem rmove_c (w : World) (ok : A.Ok m) (hB : BsAt B0 w tb tc (tks A.lines)) (hm : m ≤ 100) (hO : OsAt B0 w oa oc O) (hn : O.length ≤ 999) (ha : ∀ r, r ∈ O → r.a ≤ 1000000) (hfl : ∀ r, r ∈ O → r.fs.length ≤ 240) (hp : ∀ r, r ∈ O → 0 ≤ r.pins ∧ r.pins ≤ 7) (x : Int) :
    Calls Try.prog 25 #[.agg #[.slice wa wn wk, .slice (some ⟨tb, 0, none⟩) (m * 16) tc, .slice ma mn mc, .int .i64 ((A.sf : Int)), .int .i64 ((A.st : Int)), .int .i64 ((A.gf : Int)), .int .i64 ((A.gt : Int)), .int .i64 ((A.cf : Int)), .int .i64 ((A.ct : Int)), .int .i64 ((A.next : Int) * 16), .slice oa O.length oc], .int .u64 x] w (HpOk B0 wa ma wn wk mn mc m w (MoveSpec A m O x)) := by
  have HO := Lib.hid hO
  obtain ⟨n, hnl⟩ : ∃ n, n = O.length := ⟨_, rfl⟩
  have HN := Lib.hid hnl
  have hoc := hO.cp.1
  have hoc2 : oc ≤ 9223372036854775807 := by have := hO.cp.2; unfold maxLen at this; omega
  have hB0 : B0 ≤ w.heap.size := Nat.le_trans hB.lo (Nat.le_of_lt hB.lt)
  have HB0 := Lib.hid hB0
  have CH := Lib.hid (fun (w1 : World) (hF : Fr [] w w1) => rhere_c (wa := wa) (wn := wn) (wk := wk) (ma := ma) (mn := mn) (mc := mc) (ta := some ⟨tb, 0, none⟩) (tn := m * 16) (tc := tc) (sf := A.sf) (st := A.st) (gf := A.gf) (gt := A.gt) (cf := A.cf) (ct := A.ct) (nx := (A.next : Int) * 16) w1 (hO.keep hF) (by omega) ha x)
  have CF := Lib.hid (fun (w1 : World) (hF : Fr [] w w1) => rfresh_c (wa := wa) (wn := wn) (wc := wk) (ma := ma) (mn := mn) (mc := mc) w1 ok (hB.keep hF) hm)
  have CW := Lib.hid (fun (tb' tc' : Nat) (sf st gf gt cf ct nx : Int) (w1 : World) (hF : Fr [] w w1) => rwith_c (wa := wa) (wn := wn) (wk := wk) (ma := ma) (mn := mn) (mc := mc) (ta := some ⟨tb', 0, none⟩) (tn := m * 16) (tc := tc') (sf := sf) (st := st) (gf := gf) (gt := gt) (cf := cf) (ct := ct) (nx := nx) w1 (Nat.le_trans hB0 hF.size) (hO.keep hF) (by omega))
  have HL := Lib.hid hfl
  have HP := Lib.hid hp
  have HB := Lib.hid hB
  have OK := Lib.hid ok
  rw [← hnl] at hn hoc CH CW ⊢
  obtain ⟨W2, hW2⟩ : ∃ W2, W2 = (w.alloc (.cells #[.slice wa wn wk, .slice (some ⟨tb, 0, none⟩) (m * 16) tc, .slice ma mn mc, .int .i64 ((A.sf : Int)), .int .i64 ((A.st : Int)), .int .i64 ((A.gf : Int)), .int .i64 ((A.gt : Int)), .int .i64 ((A.cf : Int)), .int .i64 ((A.ct : Int)), .int .i64 ((A.next : Int) * 16), .slice oa n oc] 34)).alloc (.cells #[.slice none 0 0, .slice none 0 0, .slice none 0 0, .int .i64 0, .int .i64 0, .int .i64 0, .int .i64 0, .int .i64 0, .int .i64 0, .int .i64 0, .slice none 0 0] 34) := ⟨_, rfl⟩
  have P1 := Lib.hid (show blk W2 w.heap.size = some (.cells #[.slice wa wn wk, .slice (some ⟨tb, 0, none⟩) (m * 16) tc, .slice ma mn mc, .int .i64 ((A.sf : Int)), .int .i64 ((A.st : Int)), .int .i64 ((A.gf : Int)), .int .i64 ((A.gt : Int)), .int .i64 ((A.cf : Int)), .int .i64 ((A.ct : Int)), .int .i64 ((A.next : Int) * 16), .slice oa n oc] 34 (0, 0)) by rw [hW2, blk_alloc, if_neg (by rw [size_alloc]; omega), blk_alloc, if_pos rfl])
  have R1 := Lib.hid (show blk W2 (w.heap.size + 1) = some (.cells #[.slice none 0 0, .slice none 0 0, .slice none 0 0, .int .i64 0, .int .i64 0, .int .i64 0, .int .i64 0, .int .i64 0, .int .i64 0, .int .i64 0, .slice none 0 0] 34 (0, 0)) by rw [hW2, blk_alloc, if_pos (by rw [size_alloc])])
  have F1 : Hid (Fr [] w W2) := Lib.hid (by rw [hW2]; exact ((Fr.refl _ _).alloc _).alloc _)
  obtain ⟨pb, hpb⟩ : ∃ pb, pb = w.heap.size := ⟨_, rfl⟩
  have HPB : Hid (pb = w.heap.size) := Lib.hid hpb
  rw [← hpb] at P1 R1
  clear hB0 hO hnl ha hfl hp hB ok
  go_enter Try.func25, Try.ntmps25
  go_upto_region 1 with fail
  rw [← hW2, ← hpb]
  clear hW2 hpb
  have p0 := cell_of P1.out (i := 0) rfl
  have p1 := cell_of P1.out (i := 1) rfl
  have p2 := cell_of P1.out (i := 2) rfl
  have p3 := cell_of P1.out (i := 3) rfl
  have p4 := cell_of P1.out (i := 4) rfl
  have p5 := cell_of P1.out (i := 5) rfl
  have p6 := cell_of P1.out (i := 6) rfl
  have p7 := cell_of P1.out (i := 7) rfl
  have p8 := cell_of P1.out (i := 8) rfl
  have p9 := cell_of P1.out (i := 9) rfl
  have p10 := cell_of P1.out (i := 10) rfl
  go_wp2_with fail
  refine (CH.out _ F1.out).mono ?_
  rintro e w3 ⟨rfl, F3⟩
  have P3 := Lib.hid (F3.at P1.out (by simp))
  have R3 := Lib.hid (F3.at R1.out (by simp))
  have F3 := Lib.hid (F1.out.same F3)
  have hl3 := lt_size R3.out
  have hl30 : pb < w3.heap.size := by omega
  have hne0 : pb ≠ w3.heap.size := by omega
  have hne1 : pb + 1 ≠ w3.heap.size := by omega
  have hps : w.heap.size ≤ pb := by rw [HPB.out]; exact Nat.le_refl _
  cases hf : hereR O x with
  | none =>
    have HS : Hid (MoveSpec A m O x A O 0 false) := Lib.hid (.inl ⟨rfl, rfl, rfl, rfl, fun i r hi => by rw [hf] at hi; simp at hi⟩)
    clear hf CH CF CW P1 R1
    clear p0 p1 p2 p3 p4 p5 p6 p7 p8 p9 p10
    have p0 := cell_of P3.out (i := 0) rfl
    have p1 := cell_of P3.out (i := 1) rfl
    have p2 := cell_of P3.out (i := 2) rfl
    have p3 := cell_of P3.out (i := 3) rfl
    have p4 := cell_of P3.out (i := 4) rfl
    have p5 := cell_of P3.out (i := 5) rfl
    have p6 := cell_of P3.out (i := 6) rfl
    have p7 := cell_of P3.out (i := 7) rfl
    have p8 := cell_of P3.out (i := 8) rfl
    have p9 := cell_of P3.out (i := 9) rfl
    have p10 := cell_of P3.out (i := 10) rfl
    have q0 := cell_of R3.out (i := 0) rfl
    have q1 := cell_of R3.out (i := 1) rfl
    have q2 := cell_of R3.out (i := 2) rfl
    have q3 := cell_of R3.out (i := 3) rfl
    have q4 := cell_of R3.out (i := 4) rfl
    have q5 := cell_of R3.out (i := 5) rfl
    have q6 := cell_of R3.out (i := 6) rfl
    have q7 := cell_of R3.out (i := 7) rfl
    have q8 := cell_of R3.out (i := 8) rfl
    have q9 := cell_of R3.out (i := 9) rfl
    have q10 := cell_of R3.out (i := 10) rfl
    have qf0 := free_of R3.out (i := 0)
    have qf1 := free_of R3.out (i := 1)
    have qf2 := free_of R3.out (i := 2)
    have qf3 := free_of R3.out (i := 3)
    have qf4 := free_of R3.out (i := 4)
    have qf5 := free_of R3.out (i := 5)
    have qf6 := free_of R3.out (i := 6)
    have qf7 := free_of R3.out (i := 7)
    have qf8 := free_of R3.out (i := 8)
    have qf9 := free_of R3.out (i := 9)
    have qf10 := free_of R3.out (i := 10)
    simp only [lastI]
    go_wp2
    refine bodyPost_ret (ret_st3 rfl _ _ _ _ rfl (blk11 R3.out) rfl size_heap15 und_heap15) rfl ?_
    rw [HN.out]
    exact ⟨tb, tc, oa, oc, A, O, 0, false, rfl, HB.out.keep (fr11 F3.out (.inr (by omega))), HO.out.keep (fr11 F3.out (.inr (by omega))), fr11 F3.out (.inr (by omega)), HS.out⟩
  | some i =>
    obtain ⟨r, hr, _, _⟩ := hereR_some hf
    have hi : i < n := by rw [HN.out]; rcases Nat.lt_or_ge i O.length with h | h; exact h; rw [List.getElem?_eq_none h] at hr; simp at hr
    have hws := (HO.out.keep F3.out).fs r (List.mem_of_getElem? hr)
    obtain ⟨b, hoa, hbl, d0, d1, d2, d3, d4⟩ := (HO.out.keep F3.out).at hr
    subst hoa
    have hpr := HP.out r (List.mem_of_getElem? hr)
    have hlr := HL.out r (List.mem_of_getElem? hr)
    by_cases h0 : 0 < r.pins
    · have HS : Hid (MoveSpec A m O x A O 0 false) := Lib.hid (.inl ⟨rfl, rfl, rfl, rfl, fun i' r' hi' hr' => by rw [hf] at hi'; simp only [Option.some.injEq] at hi'; subst hi'; rw [hr] at hr'; simp only [Option.some.injEq] at hr'; subst hr'; exact h0⟩)
      clear hf CH CF CW P1 R1 hr hws
      clear p0 p1 p2 p3 p4 p5 p6 p7 p8 p9 p10
      have p0 := cell_of P3.out (i := 0) rfl
      have p1 := cell_of P3.out (i := 1) rfl
      have p2 := cell_of P3.out (i := 2) rfl
      have p3 := cell_of P3.out (i := 3) rfl
      have p4 := cell_of P3.out (i := 4) rfl
      have p5 := cell_of P3.out (i := 5) rfl
      have p6 := cell_of P3.out (i := 6) rfl
      have p7 := cell_of P3.out (i := 7) rfl
      have p8 := cell_of P3.out (i := 8) rfl
      have p9 := cell_of P3.out (i := 9) rfl
      have p10 := cell_of P3.out (i := 10) rfl
      have q0 := cell_of R3.out (i := 0) rfl
      have q1 := cell_of R3.out (i := 1) rfl
      have q2 := cell_of R3.out (i := 2) rfl
      have q3 := cell_of R3.out (i := 3) rfl
      have q4 := cell_of R3.out (i := 4) rfl
      have q5 := cell_of R3.out (i := 5) rfl
      have q6 := cell_of R3.out (i := 6) rfl
      have q7 := cell_of R3.out (i := 7) rfl
      have q8 := cell_of R3.out (i := 8) rfl
      have q9 := cell_of R3.out (i := 9) rfl
      have q10 := cell_of R3.out (i := 10) rfl
      have qf0 := free_of R3.out (i := 0)
      have qf1 := free_of R3.out (i := 1)
      have qf2 := free_of R3.out (i := 2)
      have qf3 := free_of R3.out (i := 3)
      have qf4 := free_of R3.out (i := 4)
      have qf5 := free_of R3.out (i := 5)
      have qf6 := free_of R3.out (i := 6)
      have qf7 := free_of R3.out (i := 7)
      have qf8 := free_of R3.out (i := 8)
      have qf9 := free_of R3.out (i := 9)
      have qf10 := free_of R3.out (i := 10)
      simp only [lastI]
      go_wp2
      refine bodyPost_ret (ret_st3 rfl _ _ _ _ rfl (blk11 R3.out) rfl size_heap15 und_heap15) rfl ?_
      rw [HN.out]
      exact ⟨tb, tc, _, oc, A, O, 0, false, rfl, HB.out.keep (fr11 F3.out (.inr (by omega))), HO.out.keep (fr11 F3.out (.inr (by omega))), fr11 F3.out (.inr (by omega)), HS.out⟩
    · have h1 : r.pins ≤ 0 := by omega
      have WS := Lib.hid hws
      have HR := Lib.hid hr
      have HF := Lib.hid hf
      clear hf CH P1 R1 hr hws h0
      clear p0 p1 p2 p3 p4 p5 p6 p7 p8 p9 p10
      have p0 := cell_of P3.out (i := 0) rfl
      have p1 := cell_of P3.out (i := 1) rfl
      have p2 := cell_of P3.out (i := 2) rfl
      have p3 := cell_of P3.out (i := 3) rfl
      have p4 := cell_of P3.out (i := 4) rfl
      have p5 := cell_of P3.out (i := 5) rfl
      have p6 := cell_of P3.out (i := 6) rfl
      have p7 := cell_of P3.out (i := 7) rfl
      have p8 := cell_of P3.out (i := 8) rfl
      have p9 := cell_of P3.out (i := 9) rfl
      have p10 := cell_of P3.out (i := 10) rfl
      have q0 := cell_of R3.out (i := 0) rfl
      have q1 := cell_of R3.out (i := 1) rfl
      have q2 := cell_of R3.out (i := 2) rfl
      have q3 := cell_of R3.out (i := 3) rfl
      have q4 := cell_of R3.out (i := 4) rfl
      have q5 := cell_of R3.out (i := 5) rfl
      have q6 := cell_of R3.out (i := 6) rfl
      have q7 := cell_of R3.out (i := 7) rfl
      have q8 := cell_of R3.out (i := 8) rfl
      have q9 := cell_of R3.out (i := 9) rfl
      have q10 := cell_of R3.out (i := 10) rfl
      have qf0 := free_of R3.out (i := 0)
      have qf1 := free_of R3.out (i := 1)
      have qf2 := free_of R3.out (i := 2)
      have qf3 := free_of R3.out (i := 3)
      have qf4 := free_of R3.out (i := 4)
      have qf5 := free_of R3.out (i := 5)
      have qf6 := free_of R3.out (i := 6)
      have qf7 := free_of R3.out (i := 7)
      have qf8 := free_of R3.out (i := 8)
      have qf9 := free_of R3.out (i := 9)
      have qf10 := free_of R3.out (i := 10)
      simp only [lastI]
      obtain ⟨ln, hln⟩ : ∃ ln, ln = r.fs.length := ⟨_, rfl⟩
      have HLN := Lib.hid hln
      rw [← hln] at d4 hlr
      obtain ⟨R, hR⟩ : ∃ R, R = A.fresh m ((ln : Int) + 1) := ⟨_, rfl⟩
      have HRR := Lib.hid hR
      have HLL : Hid (1 ≤ R.1.lines.length) := Lib.hid (by rw [hR, (OK.out.fresh _).ll]; have := OK.out.m1; omega)
      have CF4 := Lib.hid (fun (w1 : World) (hF : Fr [] w w1) => by have := CF.out w1 hF ((ln : Int) + 1); rw [← hR] at this; exact this)
      have hwr : IntKind.i64.wrap ((ln : Int) + 1) = (ln : Int) + 1 := by rw [IntKind.wrap_i64]; omega
      have hidx : (0 : Int) ≤ (i : Int) := by omega
      have hidx2 : (i : Int) < (n : Int) := by omega
      clear hln hR CF q0 q1 q2 q3 q4 q5 q6 q7 q8 q9 q10 qf0 qf1 qf2 qf3 qf4 qf5 qf6 qf7 qf8 qf9 qf10
      have KC : Hid (∀ W, Fr [] w3 W → W.cell? ⟨pb, 0, none⟩ = some (.slice wa wn wk) ∧ W.cell? ⟨pb, 1, none⟩ = some (.slice (some ⟨tb, 0, none⟩) (m * 16) tc) ∧ W.cell? ⟨pb, 2, none⟩ = some (.slice ma mn mc) ∧ W.cell? ⟨pb, 3, none⟩ = some (.int .i64 ((A.sf : Int))) ∧ W.cell? ⟨pb, 4, none⟩ = some (.int .i64 ((A.st : Int))) ∧ W.cell? ⟨pb, 5, none⟩ = some (.int .i64 ((A.gf : Int))) ∧ W.cell? ⟨pb, 6, none⟩ = some (.int .i64 ((A.gt : Int))) ∧ W.cell? ⟨pb, 7, none⟩ = some (.int .i64 ((A.cf : Int))) ∧ W.cell? ⟨pb, 8, none⟩ = some (.int .i64 ((A.ct : Int))) ∧ W.cell? ⟨pb, 9, none⟩ = some (.int .i64 ((A.next : Int) * 16)) ∧ W.cell? ⟨pb, 10, none⟩ = some (.slice (some ⟨b, 0, none⟩) n oc) ∧ W.cell? ⟨b, i * 5 + 4, none⟩ = some (.slice r.fa ln r.fc)) := Lib.hid (fun W hF => ⟨(cell_frR p0 hF (by simp)), (cell_frR p1 hF (by simp)), (cell_frR p2 hF (by simp)), (cell_frR p3 hF (by simp)), (cell_frR p4 hF (by simp)), (cell_frR p5 hF (by simp)), (cell_frR p6 hF (by simp)), (cell_frR p7 hF (by simp)), (cell_frR p8 hF (by simp)), (cell_frR p9 hF (by simp)), (cell_frR p10 hF (by simp)), (cell_frR d4 hF (by simp))⟩)
      go_upto_region 4 with fail
      go_cut [8, 9, 10] (fun s8 s9 s10 wx => MvCut B0 wa ma wn wk mn mc m w3 R s8 s9 s10 wx)
      case first =>
        refine wp_region_held_drew (S := (fun W => W.cell? ⟨pb, 0, none⟩ = some (.slice wa wn wk) ∧ W.cell? ⟨pb, 1, none⟩ = some (.slice (some ⟨tb, 0, none⟩) (m * 16) tc) ∧ W.cell? ⟨pb, 2, none⟩ = some (.slice ma mn mc) ∧ W.cell? ⟨pb, 3, none⟩ = some (.int .i64 ((A.sf : Int))) ∧ W.cell? ⟨pb, 4, none⟩ = some (.int .i64 ((A.st : Int))) ∧ W.cell? ⟨pb, 5, none⟩ = some (.int .i64 ((A.gf : Int))) ∧ W.cell? ⟨pb, 6, none⟩ = some (.int .i64 ((A.gt : Int))) ∧ W.cell? ⟨pb, 7, none⟩ = some (.int .i64 ((A.cf : Int))) ∧ W.cell? ⟨pb, 8, none⟩ = some (.int .i64 ((A.ct : Int))) ∧ W.cell? ⟨pb, 9, none⟩ = some (.int .i64 ((A.next : Int) * 16)) ∧ W.cell? ⟨pb, 10, none⟩ = some (.slice (some ⟨b, 0, none⟩) n oc) ∧ W.cell? ⟨b, i * 5 + 4, none⟩ = some (.slice r.fa ln r.fc))) (by kernel_rfl) ?_ (fun hHeld => ?_)
        · exact KC.out _ (Fr.refl _ _).drew
        refine' wpAnyH_take (i := 0) (v := _) rfl (by kernel_rfl) (by kernel_rfl) (by kernel_rfl) (fun _ _ _ h => h) (Or.inl ⟨by rfl, ?hy0⟩) (by assumption) ?re0
        case hy0 => intro w hSw; (try dsimp only at hSw); go_simp; try with_reducible rfl
        try simp only [Act.put, List.getElem_toArray, List.getElem_cons_succ, List.getElem_cons_zero, List.setIfInBounds_toArray, List.set_cons_zero, List.set_cons_succ]
        refine' wpAnyH_take (i := 1) (v := _) rfl (by kernel_rfl) (by kernel_rfl) (by kernel_rfl) (fun _ _ _ h => h) (Or.inl ⟨by rfl, ?hy1⟩) (by assumption) ?re1
        case hy1 => intro w hSw; (try dsimp only at hSw); go_simp; try with_reducible rfl
        try simp only [Act.put, List.getElem_toArray, List.getElem_cons_succ, List.getElem_cons_zero, List.setIfInBounds_toArray, List.set_cons_zero, List.set_cons_succ]
        refine' wpAnyH_take (i := 2) (v := _) rfl (by kernel_rfl) (by kernel_rfl) (by kernel_rfl) (fun _ _ _ h => h) (Or.inl ⟨by rfl, ?hy2⟩) (by assumption) ?re2
        case hy2 => intro w hSw; (try dsimp only at hSw); go_simp; try with_reducible rfl
        try simp only [Act.put, List.getElem_toArray, List.getElem_cons_succ, List.getElem_cons_zero, List.setIfInBounds_toArray, List.set_cons_zero, List.set_cons_succ]
        refine' wpAnyH_take (i := 3) (v := _) rfl (by kernel_rfl) (by kernel_rfl) (by kernel_rfl) (fun _ _ _ h => h) (Or.inl ⟨by rfl, ?hy3⟩) (by assumption) ?re3
        case hy3 => intro w hSw; (try dsimp only at hSw); go_simp; try with_reducible rfl
        try simp only [Act.put, List.getElem_toArray, List.getElem_cons_succ, List.getElem_cons_zero, List.setIfInBounds_toArray, List.set_cons_zero, List.set_cons_succ]
        refine' wpAnyH_take (i := 4) (v := _) rfl (by kernel_rfl) (by kernel_rfl) (by kernel_rfl) (fun _ _ _ h => h) (Or.inl ⟨by rfl, ?hy4⟩) (by assumption) ?re4
        case hy4 => intro w hSw; (try dsimp only at hSw); go_simp; try with_reducible rfl
        try simp only [Act.put, List.getElem_toArray, List.getElem_cons_succ, List.getElem_cons_zero, List.setIfInBounds_toArray, List.set_cons_zero, List.set_cons_succ]
        refine' wpAnyH_take (i := 5) (v := _) rfl (by kernel_rfl) (by kernel_rfl) (by kernel_rfl) (fun _ _ _ h => h) (Or.inl ⟨by rfl, ?hy5⟩) (by assumption) ?re5
        case hy5 => intro w hSw; (try dsimp only at hSw); go_simp; try with_reducible rfl
        try simp only [Act.put, List.getElem_toArray, List.getElem_cons_succ, List.getElem_cons_zero, List.setIfInBounds_toArray, List.set_cons_zero, List.set_cons_succ]
        refine' wpAnyH_take (i := 6) (v := _) rfl (by kernel_rfl) (by kernel_rfl) (by kernel_rfl) (fun _ _ _ h => h) (Or.inl ⟨by rfl, ?hy6⟩) (by assumption) ?re6
        case hy6 => intro w hSw; (try dsimp only at hSw); go_simp; try with_reducible rfl
        try simp only [Act.put, List.getElem_toArray, List.getElem_cons_succ, List.getElem_cons_zero, List.setIfInBounds_toArray, List.set_cons_zero, List.set_cons_succ]
        refine' wpAnyH_take (i := 7) (v := _) rfl (by kernel_rfl) (by kernel_rfl) (by kernel_rfl) (fun _ _ _ h => h) (Or.inl ⟨by rfl, ?hy7⟩) (by assumption) ?re7
        case hy7 => intro w hSw; (try dsimp only at hSw); go_simp; try with_reducible rfl
        try simp only [Act.put, List.getElem_toArray, List.getElem_cons_succ, List.getElem_cons_zero, List.setIfInBounds_toArray, List.set_cons_zero, List.set_cons_succ]
        refine' wpAnyH_take (i := 8) (v := _) rfl (by kernel_rfl) (by kernel_rfl) (by kernel_rfl) (fun _ _ _ h => h) (Or.inl ⟨by rfl, ?hy8⟩) (by assumption) ?re8
        case hy8 => intro w hSw; (try dsimp only at hSw); go_simp; try with_reducible rfl
        try simp only [Act.put, List.getElem_toArray, List.getElem_cons_succ, List.getElem_cons_zero, List.setIfInBounds_toArray, List.set_cons_zero, List.set_cons_succ]
        refine' wpAnyH_take (i := 9) (v := _) rfl (by kernel_rfl) (by kernel_rfl) (by kernel_rfl) (fun _ _ _ h => h) (Or.inl ⟨by rfl, ?hy9⟩) (by assumption) ?re9
        case hy9 => intro w hSw; (try dsimp only at hSw); go_simp; try with_reducible rfl
        try simp only [Act.put, List.getElem_toArray, List.getElem_cons_succ, List.getElem_cons_zero, List.setIfInBounds_toArray, List.set_cons_zero, List.set_cons_succ]
        refine wpAnyH_ready (rs := [10, 15]) (by kernel_rfl) (by simp) ?_
        refine AllReadyH.cons rfl (fun K hK => ?_) (AllReadyH.cons rfl (fun K hK => ?_) AllReadyH.nil)
        · go_simp
          refine (CF4.out _ F3.out.drew).mono ?_
          rintro e w5 ⟨tb', tc', rfl, B5, F5⟩
          have F5 : Fr [] w3 w5 := Fr.same (Fr.refl _ _).drew F5
          refine hK.out _ _ (KC.out _ F5) (fun hHeld2 => ?_)
          clear hK K hHeld
          try simp only [Act.put, List.getElem_toArray, List.getElem_cons_succ, List.getElem_cons_zero, List.setIfInBounds_toArray, List.set_cons_zero, List.set_cons_succ]
          refine' wpAnyH_take (i := 11) (v := _) rfl (by kernel_rfl) (by kernel_rfl) (by kernel_rfl) (fun _ _ _ h => h) (Or.inl ⟨by rfl, ?hy11⟩) (by assumption) ?re11
          case hy11 => intro w hSw; (try dsimp only at hSw); go_simp; try with_reducible rfl
          try simp only [Act.put, List.getElem_toArray, List.getElem_cons_succ, List.getElem_cons_zero, List.setIfInBounds_toArray, List.set_cons_zero, List.set_cons_succ]
          refine' wpAnyH_take (i := 12) (v := _) rfl (by kernel_rfl) (by kernel_rfl) (by kernel_rfl) (fun _ _ _ h => h) (Or.inl ⟨by rfl, ?hy12⟩) (by assumption) ?re12
          case hy12 => intro w hSw; (try dsimp only at hSw); go_simp; try with_reducible rfl
          try simp only [Act.put, List.getElem_toArray, List.getElem_cons_succ, List.getElem_cons_zero, List.setIfInBounds_toArray, List.set_cons_zero, List.set_cons_succ]
          refine' wpAnyH_take (i := 13) (v := _) rfl (by kernel_rfl) (by kernel_rfl) (by kernel_rfl) (fun _ _ _ h => h) (Or.inl ⟨by rfl, ?hy13⟩) (by assumption) ?re13
          case hy13 => intro w hSw; (try dsimp only at hSw); go_simp; try with_reducible rfl
          try simp only [Act.put, List.getElem_toArray, List.getElem_cons_succ, List.getElem_cons_zero, List.setIfInBounds_toArray, List.set_cons_zero, List.set_cons_succ]
          refine' wpAnyH_take (i := 14) (v := _) rfl (by kernel_rfl) (by kernel_rfl) (by kernel_rfl) (fun _ _ _ h => h) (Or.inl ⟨by rfl, ?hy14⟩) (by assumption) ?re14
          case hy14 => intro w hSw; (try dsimp only at hSw); go_simp; try with_reducible rfl
          try simp only [Act.put, List.getElem_toArray, List.getElem_cons_succ, List.getElem_cons_zero, List.setIfInBounds_toArray, List.set_cons_zero, List.set_cons_succ]
          refine wpAnyH_ready (rs := [15]) (by kernel_rfl) (by simp) ?_
          refine AllReadyH.cons rfl (fun K hK => ?_) AllReadyH.nil
          go_simp
          refine hK.out _ _ (KC.out _ (F5.alloc _)) (fun hHeld3 => ?_)
          clear hK K hHeld2
          try simp only [Act.put, List.getElem_toArray, List.getElem_cons_succ, List.getElem_cons_zero, List.setIfInBounds_toArray, List.set_cons_zero, List.set_cons_succ]
          refine wpAnyH_ready (rs := [16]) (by kernel_rfl) (by simp) ?_
          refine AllReadyH.cons rfl (fun K hK => ?_) AllReadyH.nil
          go_simp
          refine hK.out _ _ (KC.out _ (F5.alloc _)) (fun hHeld4 => ?_)
          clear hK K hHeld3
          try simp only [Act.put, List.getElem_toArray, List.getElem_cons_succ, List.getElem_cons_zero, List.setIfInBounds_toArray, List.set_cons_zero, List.set_cons_succ]
          refine' wpAnyH_take (i := 17) (v := _) rfl (by kernel_rfl) (by kernel_rfl) (by kernel_rfl) (fun _ _ _ h => h) (Or.inl ⟨by rfl, ?uy17⟩) (by assumption) ?ue17
          case uy17 => intro w hSw; (try dsimp only at hSw); go_simp; try with_reducible rfl
          try simp only [Act.put, List.getElem_toArray, List.getElem_cons_succ, List.getElem_cons_zero, List.setIfInBounds_toArray, List.set_cons_zero, List.set_cons_succ]
          refine' wpAnyH_take (i := 18) (v := _) rfl (by kernel_rfl) (by kernel_rfl) (by kernel_rfl) (fun _ _ _ h => h) (Or.inl ⟨by rfl, ?uy18⟩) (by assumption) ?ue18
          case uy18 => intro w hSw; (try dsimp only at hSw); go_simp; try with_reducible rfl
          try simp only [Act.put, List.getElem_toArray, List.getElem_cons_succ, List.getElem_cons_zero, List.setIfInBounds_toArray, List.set_cons_zero, List.set_cons_succ]
          refine wpAnyH_done (by kernel_rfl) ?_ _
          go_wp2_with fail
          go_meet
          exact ⟨_, tb', tc', rfl, rfl, rfl, F5.size, b1a w5 _, B5.keep ((Fr.refl _ _).alloc _), F5.alloc _⟩
        · go_simp
          refine hK.out _ _ (KC.out _ ((Fr.refl _ _).drew.alloc _)) (fun hHeld2 => ?_)
          clear hK K hHeld
          try simp only [Act.put, List.getElem_toArray, List.getElem_cons_succ, List.getElem_cons_zero, List.setIfInBounds_toArray, List.set_cons_zero, List.set_cons_succ]
          refine wpAnyH_ready (rs := [10]) (by kernel_rfl) (by simp) ?_
          refine AllReadyH.cons rfl (fun K hK => ?_) AllReadyH.nil
          go_simp
          refine (CF4.out _ (F3.out.drew.alloc _)).mono ?_
          rintro e w5 ⟨tb', tc', rfl, B5, F5⟩
          have X5 : blk w5 w3.heap.size = _ := F5.at (b1a w3.drew _) (by simp)
          have xl := lt_size X5
          have F5 : Fr [] w3 w5 := Fr.same ((Fr.refl _ _).drew.alloc _) F5
          refine hK.out _ _ (KC.out _ F5) (fun hHeld3 => ?_)
          clear hK K hHeld2
          try simp only [Act.put, List.getElem_toArray, List.getElem_cons_succ, List.getElem_cons_zero, List.setIfInBounds_toArray, List.set_cons_zero, List.set_cons_succ]
          refine' wpAnyH_take (i := 11) (v := _) rfl (by kernel_rfl) (by kernel_rfl) (by kernel_rfl) (fun _ _ _ h => h) (Or.inl ⟨by rfl, ?hz11⟩) (by assumption) ?rz11
          case hz11 => intro w hSw; (try dsimp only at hSw); go_simp; try with_reducible rfl
          try simp only [Act.put, List.getElem_toArray, List.getElem_cons_succ, List.getElem_cons_zero, List.setIfInBounds_toArray, List.set_cons_zero, List.set_cons_succ]
          refine' wpAnyH_take (i := 12) (v := _) rfl (by kernel_rfl) (by kernel_rfl) (by kernel_rfl) (fun _ _ _ h => h) (Or.inl ⟨by rfl, ?hz12⟩) (by assumption) ?rz12
          case hz12 => intro w hSw; (try dsimp only at hSw); go_simp; try with_reducible rfl
          try simp only [Act.put, List.getElem_toArray, List.getElem_cons_succ, List.getElem_cons_zero, List.setIfInBounds_toArray, List.set_cons_zero, List.set_cons_succ]
          refine' wpAnyH_take (i := 13) (v := _) rfl (by kernel_rfl) (by kernel_rfl) (by kernel_rfl) (fun _ _ _ h => h) (Or.inl ⟨by rfl, ?hz13⟩) (by assumption) ?rz13
          case hz13 => intro w hSw; (try dsimp only at hSw); go_simp; try with_reducible rfl
          try simp only [Act.put, List.getElem_toArray, List.getElem_cons_succ, List.getElem_cons_zero, List.setIfInBounds_toArray, List.set_cons_zero, List.set_cons_succ]
          refine' wpAnyH_take (i := 14) (v := _) rfl (by kernel_rfl) (by kernel_rfl) (by kernel_rfl) (fun _ _ _ h => h) (Or.inl ⟨by rfl, ?hz14⟩) (by assumption) ?rz14
          case hz14 => intro w hSw; (try dsimp only at hSw); go_simp; try with_reducible rfl
          try simp only [Act.put, List.getElem_toArray, List.getElem_cons_succ, List.getElem_cons_zero, List.setIfInBounds_toArray, List.set_cons_zero, List.set_cons_succ]
          refine wpAnyH_ready (rs := [16]) (by kernel_rfl) (by simp) ?_
          refine AllReadyH.cons rfl (fun K hK => ?_) AllReadyH.nil
          have x0 := cell_of X5 (i := 0) rfl; have xf0 := free_of X5 (i := 0); have x1 := cell_of X5 (i := 1) rfl; have xf1 := free_of X5 (i := 1); have x2 := cell_of X5 (i := 2) rfl; have xf2 := free_of X5 (i := 2); have x3 := cell_of X5 (i := 3) rfl; have xf3 := free_of X5 (i := 3); have x4 := cell_of X5 (i := 4) rfl; have xf4 := free_of X5 (i := 4); have x5 := cell_of X5 (i := 5) rfl; have xf5 := free_of X5 (i := 5); have x6 := cell_of X5 (i := 6) rfl; have xf6 := free_of X5 (i := 6); have x7 := cell_of X5 (i := 7) rfl; have xf7 := free_of X5 (i := 7); have x8 := cell_of X5 (i := 8) rfl; have xf8 := free_of X5 (i := 8); have x9 := cell_of X5 (i := 9) rfl; have xf9 := free_of X5 (i := 9)
          go_simp
          refine hK.out _ _ (KC.out _ (fr10 F5 (.inr (Nat.le_refl _)))) (fun hHeld4 => ?_)
          clear hK K hHeld3
          try simp only [Act.put, List.getElem_toArray, List.getElem_cons_succ, List.getElem_cons_zero, List.setIfInBounds_toArray, List.set_cons_zero, List.set_cons_succ]
          refine' wpAnyH_take (i := 17) (v := _) rfl (by kernel_rfl) (by kernel_rfl) (by kernel_rfl) (fun _ _ _ h => h) (Or.inl ⟨by rfl, ?vy17⟩) (by assumption) ?ve17
          case vy17 => intro w hSw; (try dsimp only at hSw); go_simp; try with_reducible rfl
          try simp only [Act.put, List.getElem_toArray, List.getElem_cons_succ, List.getElem_cons_zero, List.setIfInBounds_toArray, List.set_cons_zero, List.set_cons_succ]
          refine' wpAnyH_take (i := 18) (v := _) rfl (by kernel_rfl) (by kernel_rfl) (by kernel_rfl) (fun _ _ _ h => h) (Or.inl ⟨by rfl, ?vy18⟩) (by assumption) ?ve18
          case vy18 => intro w hSw; (try dsimp only at hSw); go_simp; try with_reducible rfl
          try simp only [Act.put, List.getElem_toArray, List.getElem_cons_succ, List.getElem_cons_zero, List.setIfInBounds_toArray, List.set_cons_zero, List.set_cons_succ]
          refine wpAnyH_done (by kernel_rfl) ?_ _
          go_wp2_with fail
          go_meet
          exact ⟨_, tb', tc', rfl, rfl, rfl, Nat.le_refl _, blk10 X5, B5.fr (fr10 (Fr.refl [w3.heap.size] w5) (.inl (by simp))) (by simpa using bs_far B5 (by rw [len_tks]; have := HLL.out; omega) x0), fr10 F5 (.inr (Nat.le_refl _))⟩
      case rest =>
        obtain ⟨g, tb', tc', rfl, rfl, rfl, hg, X, B4, F4⟩ := hcut
        have P4 := Lib.hid (F4.at P3.out (by simp))
        have R4 := Lib.hid (F4.at R3.out (by simp))
        have F43 := Lib.hid F4
        have F4 := Lib.hid (F3.out.same F4)
        have hgl := lt_size X
        have X := Lib.hid X
        have B4 := Lib.hid B4
        have hg0 : g ≠ pb := by omega
        have hg1 : g ≠ pb + 1 := by omega
        have hpl4 := lt_size R4.out
        clear CF4 KC d0 d1 d2 d3 d4 p0 p1 p2 p3 p4 p5 p6 p7 p8 p9 p10
        have x0 := cell_of X.out (i := 0) rfl
        have p0 := cell_of P4.out (i := 0) rfl
        have pf0 := free_of P4.out (i := 0)
        have x1 := cell_of X.out (i := 1) rfl
        have p1 := cell_of P4.out (i := 1) rfl
        have pf1 := free_of P4.out (i := 1)
        have x2 := cell_of X.out (i := 2) rfl
        have p2 := cell_of P4.out (i := 2) rfl
        have pf2 := free_of P4.out (i := 2)
        have x3 := cell_of X.out (i := 3) rfl
        have p3 := cell_of P4.out (i := 3) rfl
        have pf3 := free_of P4.out (i := 3)
        have x4 := cell_of X.out (i := 4) rfl
        have p4 := cell_of P4.out (i := 4) rfl
        have pf4 := free_of P4.out (i := 4)
        have x5 := cell_of X.out (i := 5) rfl
        have p5 := cell_of P4.out (i := 5) rfl
        have pf5 := free_of P4.out (i := 5)
        have x6 := cell_of X.out (i := 6) rfl
        have p6 := cell_of P4.out (i := 6) rfl
        have pf6 := free_of P4.out (i := 6)
        have x7 := cell_of X.out (i := 7) rfl
        have p7 := cell_of P4.out (i := 7) rfl
        have pf7 := free_of P4.out (i := 7)
        have x8 := cell_of X.out (i := 8) rfl
        have p8 := cell_of P4.out (i := 8) rfl
        have pf8 := free_of P4.out (i := 8)
        have x9 := cell_of X.out (i := 9) rfl
        have p9 := cell_of P4.out (i := 9) rfl
        have pf9 := free_of P4.out (i := 9)
        go_upto_region 6 with fail
        refine wp_gen (fun W => blk W pb = some (.cells #[.slice wa wn wk, .slice (some ⟨tb', 0, none⟩) (m * 16) tc', .slice ma mn mc, .int .i64 ((R.1.sf : Int)), .int .i64 ((R.1.st : Int)), .int .i64 ((R.1.gf : Int)), .int .i64 ((R.1.gt : Int)), .int .i64 ((R.1.cf : Int)), .int .i64 ((R.1.ct : Int)), .int .i64 ((R.1.next : Int) * 16), .slice (some ⟨b, 0, none⟩) n oc] 34 (0, 0)) ∧ blk W (pb + 1) = some (.cells #[.slice none 0 0, .slice none 0 0, .slice none 0 0, .int .i64 0, .int .i64 0, .int .i64 0, .int .i64 0, .int .i64 0, .int .i64 0, .int .i64 0, .slice none 0 0] 34 (0, 0)) ∧ BsAt B0 W tb' tc' (tks R.1.lines) ∧ Fr [] w W ∧ WsQ B0 W r.fa r.fc r.fs) ?_ ?_
        · exact ⟨blk10h P4.out, by rw [blk10_ne (by omega)]; exact R4.out, B4.out.fr (fr10 (Fr.refl [pb] wc) (.inl (by simp))) (by simpa using bs_far B4.out (by rw [len_tks]; have := HLL.out; omega) p0), fr10 F4.out (.inr hps), (WS.out.keep F43.out).box (fr10 (Fr.refl [pb] wc) (.inl (by simp))) p0⟩
        rintro w6 ⟨P6, R6, B6, F6, WS6⟩
        have WS6 := Lib.hid WS6
        have P6 := Lib.hid P6
        have R6 := Lib.hid R6
        have B6 := Lib.hid B6
        have F6 := Lib.hid F6
        clear X P4 R4 B4 F4 F43 WS hg0 hg1 hpl4 x0 p0 pf0 x1 p1 pf1 x2 p2 pf2 x3 p3 pf3 x4 p4 pf4 x5 p5 pf5 x6 p6 pf6 x7 p7 pf7 x8 p8 pf8 x9 p9 pf9
        have p0 := cell_of P6.out (i := 0) rfl
        have p1 := cell_of P6.out (i := 1) rfl
        have p2 := cell_of P6.out (i := 2) rfl
        have p3 := cell_of P6.out (i := 3) rfl
        have p4 := cell_of P6.out (i := 4) rfl
        have p5 := cell_of P6.out (i := 5) rfl
        have p6 := cell_of P6.out (i := 6) rfl
        have p7 := cell_of P6.out (i := 7) rfl
        have p8 := cell_of P6.out (i := 8) rfl
        have p9 := cell_of P6.out (i := 9) rfl
        have p10 := cell_of P6.out (i := 10) rfl
        have q0 := cell_of R6.out (i := 0) rfl
        have q1 := cell_of R6.out (i := 1) rfl
        have q2 := cell_of R6.out (i := 2) rfl
        have q3 := cell_of R6.out (i := 3) rfl
        have q4 := cell_of R6.out (i := 4) rfl
        have q5 := cell_of R6.out (i := 5) rfl
        have q6 := cell_of R6.out (i := 6) rfl
        have q7 := cell_of R6.out (i := 7) rfl
        have q8 := cell_of R6.out (i := 8) rfl
        have q9 := cell_of R6.out (i := 9) rfl
        have q10 := cell_of R6.out (i := 10) rfl
        have qf0 := free_of R6.out (i := 0)
        have qf1 := free_of R6.out (i := 1)
        have qf2 := free_of R6.out (i := 2)
        have qf3 := free_of R6.out (i := 3)
        have qf4 := free_of R6.out (i := 4)
        have qf5 := free_of R6.out (i := 5)
        have qf6 := free_of R6.out (i := 6)
        have qf7 := free_of R6.out (i := 7)
        have qf8 := free_of R6.out (i := 8)
        have qf9 := free_of R6.out (i := 9)
        have qf10 := free_of R6.out (i := 10)
        cases hk : R.2 with
        | none =>
          have HS : Hid (MoveSpec A m O x R.1 O 0 false) := Lib.hid (.inr ⟨i, r, HF.out, HR.out, h1, by rw [HRR.out, HLN.out], .inl ⟨rfl, rfl, rfl, by rw [← HLN.out, ← HRR.out]; exact hk⟩⟩)
          clear hk CW
          simp only [Option.getD_none, Option.isSome_none]
          go_wp2
          refine bodyPost_ret (ret_st3 rfl _ _ _ _ rfl (blk11 R6.out) rfl size_heap15 und_heap15) rfl ?_
          rw [HN.out]
          exact ⟨tb', tc', some ⟨b, 0, none⟩, oc, R.1, O, 0, false, rfl, B6.out.fr (fr11 (Fr.refl [pb + 1] w6) (.inl (by simp))) (by simpa using bs_far B6.out (by rw [len_tks]; have := HLL.out; omega) q0), HO.out.keep (fr11 F6.out (.inr (by omega))), fr11 F6.out (.inr (by omega)), HS.out⟩
        | some k =>
          obtain ⟨b', hoa, hbl, d0, d1, d2, d3, d4⟩ := (HO.out.keep F6.out).at HR.out
          simp only [Option.some.injEq, Addr.mk.injEq, and_true] at hoa
          subst hoa
          have HK := Lib.hid hk
          simp only [Option.getD_some, Option.isSome_some]
          clear hk
          go_upto_region 12 with fail
          obtain ⟨W7, hW7⟩ : ∃ W7, W7 = (w6.alloc (.cells #[.int .i64 (r.a : Int), .int .i64 r.kind, .int .i64 r.pins, .int .i64 (k : Int), .slice r.fa r.fs.length r.fc] 122)).alloc (.cells #[.int .i64 (k : Int), .int .i64 r.kind, .int .i64 r.pins, .int .i64 r.dst, .slice r.fa r.fs.length r.fc] 122) := ⟨_, rfl⟩
          have F7 : Hid (Fr [] w6 W7) := Lib.hid (by rw [hW7]; exact ((Fr.refl _ _).alloc _).alloc _)
          have BO := Lib.hid (show blk W7 w6.heap.size = some (.cells #[.int .i64 (r.a : Int), .int .i64 r.kind, .int .i64 r.pins, .int .i64 (k : Int), .slice r.fa r.fs.length r.fc] 122 (0, 0)) by rw [hW7, blk_alloc, if_neg (by rw [size_alloc]; omega), blk_alloc, if_pos rfl])
          have BP := Lib.hid (show blk W7 (w6.heap.size + 1) = some (.cells #[.int .i64 (k : Int), .int .i64 r.kind, .int .i64 r.pins, .int .i64 r.dst, .slice r.fa r.fs.length r.fc] 122 (0, 0)) by rw [hW7, blk_alloc, if_pos (by rw [size_alloc])])
          have P7 := Lib.hid (F7.out.at P6.out (by simp))
          have R7 := Lib.hid (F7.out.at R6.out (by simp))
          have B7 := Lib.hid (B6.out.keep F7.out)
          have WS7 := Lib.hid (WS6.out.keep F7.out)
          rw [← hW7]
          clear hW7 d0 d1 d2 d3 d4 p0 q0 qf0 p1 q1 qf1 p2 q2 qf2 p3 q3 qf3 p4 q4 qf4 p5 q5 qf5 p6 q6 qf6 p7 q7 qf7 p8 q8 qf8 p9 q9 qf9 p10 q10 qf10
          have p0 := cell_of P7.out (i := 0) rfl
          have p1 := cell_of P7.out (i := 1) rfl
          have p2 := cell_of P7.out (i := 2) rfl
          have p3 := cell_of P7.out (i := 3) rfl
          have p4 := cell_of P7.out (i := 4) rfl
          have p5 := cell_of P7.out (i := 5) rfl
          have p6 := cell_of P7.out (i := 6) rfl
          have p7 := cell_of P7.out (i := 7) rfl
          have p8 := cell_of P7.out (i := 8) rfl
          have p9 := cell_of P7.out (i := 9) rfl
          have p10 := cell_of P7.out (i := 10) rfl
          have o0 := cell_of BO.out (i := 0) rfl
          have o1 := cell_of BO.out (i := 1) rfl
          have o2 := cell_of BO.out (i := 2) rfl
          have o3 := cell_of BO.out (i := 3) rfl
          have o4 := cell_of BO.out (i := 4) rfl
          go_wp2_with fail
          refine (CW.out tb' tc' _ _ _ _ _ _ _ _ (F6.out.same F7.out) i hi { r with dst := (k : Int) } WS7.out).mono ?_
          rintro e w9 ⟨g9, c9, rfl, O9, F9⟩
          have P9 := Lib.hid (F9.at P7.out (by simp))
          have R9 := Lib.hid (F9.at R7.out (by simp))
          have BP9 := Lib.hid (F9.at BP.out (by simp))
          have B9 := Lib.hid (B7.out.keep F9)
          have WS9 := Lib.hid (WS7.out.keep F9)
          have O9 := Lib.hid O9
          have FF9 := Lib.hid ((F6.out.same F7.out).same F9)
          have hpw := lt_size P6.out
          clear BO P7 R7 BP B7 WS7 F7 F9 WS6 B6 P6 R6 o0 o1 o2 o3 o4 p0 p1 p2 p3 p4 p5 p6 p7 p8 p9 p10
          have p0 := cell_of P9.out (i := 0) rfl
          have p1 := cell_of P9.out (i := 1) rfl
          have p2 := cell_of P9.out (i := 2) rfl
          have p3 := cell_of P9.out (i := 3) rfl
          have p4 := cell_of P9.out (i := 4) rfl
          have p5 := cell_of P9.out (i := 5) rfl
          have p6 := cell_of P9.out (i := 6) rfl
          have p7 := cell_of P9.out (i := 7) rfl
          have p8 := cell_of P9.out (i := 8) rfl
          have p9 := cell_of P9.out (i := 9) rfl
          have p10 := cell_of P9.out (i := 10) rfl
          have pf0 := free_of P9.out (i := 0)
          have pf1 := free_of P9.out (i := 1)
          have pf2 := free_of P9.out (i := 2)
          have pf3 := free_of P9.out (i := 3)
          have pf4 := free_of P9.out (i := 4)
          have pf5 := free_of P9.out (i := 5)
          have pf6 := free_of P9.out (i := 6)
          have pf7 := free_of P9.out (i := 7)
          have pf8 := free_of P9.out (i := 8)
          have pf9 := free_of P9.out (i := 9)
          have pf10 := free_of P9.out (i := 10)
          go_upto_region 13 with fail
          refine wp_gen (fun W => blk W pb = some (.cells #[.slice wa wn wk, .slice (some ⟨tb', 0, none⟩) (m * 16) tc', .slice ma mn mc, .int .i64 ((R.1.sf : Int)), .int .i64 ((R.1.st : Int)), .int .i64 ((R.1.gf : Int)), .int .i64 ((R.1.gt : Int)), .int .i64 ((R.1.cf : Int)), .int .i64 ((R.1.ct : Int)), .int .i64 ((R.1.next : Int) * 16), .slice (some ⟨g9, 0, none⟩) n c9] 34 (0, 0)) ∧ blk W (pb + 1) = some (.cells #[.slice none 0 0, .slice none 0 0, .slice none 0 0, .int .i64 0, .int .i64 0, .int .i64 0, .int .i64 0, .int .i64 0, .int .i64 0, .int .i64 0, .slice none 0 0] 34 (0, 0)) ∧ blk W (w6.heap.size + 1) = some (.cells #[.int .i64 (k : Int), .int .i64 r.kind, .int .i64 r.pins, .int .i64 r.dst, .slice r.fa r.fs.length r.fc] 122 (0, 0)) ∧ BsAt B0 W tb' tc' (tks R.1.lines) ∧ OsAt B0 W (some ⟨g9, 0, none⟩) c9 (O.set i { r with dst := (k : Int) }) ∧ Fr [] w W ∧ WsQ B0 W r.fa r.fc r.fs) ?_ ?_
          · refine ⟨by rw [HN.out]; exact blk11 P9.out, ?_, ?_, ?_, ?_, fr11 FF9.out (.inr hps), ?_⟩
            · exact (fr11 (Fr.refl [pb] w9) (.inl (by simp))).at R9.out (by simp)
            · exact (fr11 (Fr.refl [pb] w9) (.inl (by simp))).at BP9.out (by simp; omega)
            · exact B9.out.fr (fr11 (Fr.refl [pb] w9) (.inl (by simp))) (by simpa using bs_far B9.out (by rw [len_tks]; have := HLL.out; omega) p0)
            · exact O9.out.box (fr11 (Fr.refl [pb] w9) (.inl (by simp))) p0
            · exact WS9.out.box (fr11 (Fr.refl [pb] w9) (.inl (by simp))) p0
          rintro wz ⟨PZ, RZ, PX, BZ, OZ, FZ, WSP⟩
          have PZ := Lib.hid PZ
          have RZ := Lib.hid RZ
          have PX := Lib.hid PX
          have OZ := Lib.hid OZ
          have BZ := Lib.hid BZ
          have FZ := Lib.hid FZ
          have WSP := Lib.hid WSP
          have HNZ : Hid (n = (O.set i { r with dst := (k : Int) }).length) := Lib.hid (by rw [List.length_set, ← HN.out])
          have HS : Hid (MoveSpec A m O x R.1 (O.set i { r with dst := (k : Int) } ++ [{ r with a := k }]) (mkW 1 k) true) := Lib.hid (.inr ⟨i, r, HF.out, HR.out, h1, by rw [HRR.out, HLN.out], .inr ⟨k, rfl, by rw [← HLN.out, ← HRR.out]; exact HK.out, rfl, rfl⟩⟩)
          clear P9 R9 BP9 B9 WS9 O9 FF9 CW HO p0 p1 p2 p3 p4 p5 p6 p7 p8 p9 p10 
          have hzl := lt_size RZ.out
          have hzl0 : pb < wz.heap.size := by omega
          have hzn0 : pb ≠ wz.heap.size := by omega
          have hzn1 : pb + 1 ≠ wz.heap.size := by omega
          have hxl := lt_size PX.out
          have hxn : w6.heap.size + 1 ≠ wz.heap.size := by omega
          obtain ⟨iob, hii, hz0, hz1, hz2⟩ := info_parts info_obj15
          have II := Lib.hid hii
          have Z0 := Lib.hid hz0
          have Z1 := Lib.hid hz1
          have Z2 := Lib.hid hz2
          clear hii hz0 hz1 hz2
          have NL : Hid ((roCells (O.set i { r with dst := (k : Int) })).length = n * 5) := Lib.hid (by rw [len_ro, HNZ.out])
          have OW : Hid ((wz.alloc (.cells #[] 122)).ownsRow wz.heap.size 122 5 (.slice (some ⟨wz.heap.size, 0, none⟩) 0 0) 0 []) := Lib.hid (own_mk (cur := #[]) (by rw [blk_alloc, if_pos rfl]) (Nat.le_refl _) (Nat.le_refl _) (Nat.zero_le _) rfl rfl)
          have F4 := Lib.hid ((Fr.refl [] wz).alloc (.cells #[] 122))
          have NEWS := Lib.hid (show n = 0 ∨ _ from by have := OZ.out.newsQ F4.out; rw [← HNZ.out] at this; exact this)
          have hocz := OZ.out.cp.1
          rw [← HNZ.out] at hocz
          have hocz2 : c9 ≤ 9223372036854775807 := by have := OZ.out.cp.2; unfold maxLen at this; omega
          have z10 := cell_of PZ.out (i := 10) rfl
          go_upto_region 14 with (at_builtin; refine wpList_appQ _ rfl _ _ _ rfl wz.heap.size 122 iob (.agg #[.int .i64 0, .int .i64 0, .int .i64 0, .int .i64 0, .slice none 0 0]) 5 56 Try.underlying32 II.out Z0.out Z1.out Z2.out rfl (by decide) wz.heap.size 0 0 [] rfl OW.out (some ⟨g9, 0, none⟩) n (c9) (roCells (O.set i { r with dst := (k : Int) })) rfl NL.out NEWS.out (one_ro _) (by unfold maxLen; omega) (by omega) F4.out.size ?_; intro g1 c1 w5 own5 fr5 at5; rw [Nat.zero_add, List.nil_append] at own5; rw [Nat.zero_add]; have OW5 := Lib.hid own5; have F5 := Lib.hid (F4.out.trans fr5 (fun x hx => .inr (by simp only [List.mem_singleton] at hx; omega))); clear own5 fr5 at5 OW F4 NEWS)
          have hgb := own_base OW5.out
          have hgl := own_lt OW5.out
          have hc1 := own_cap OW5.out
          have hc1b : c1 ≤ 9223372036854775807 := by have := hc1.2; unfold maxLen at this; omega
          have hc1a := hc1.1
          have BX5 := Lib.hid (F5.out.at PX.out (by simp))
          have hxl5 := lt_size BX5.out
          have hxn5 : w6.heap.size + 1 ≠ w5.heap.size := by omega
          have hsz5 : wz.heap.size ≤ w5.heap.size := F5.out.size
          have hgn5 : g1 ≠ w5.heap.size := by omega
          have hpn5 : pb ≠ w5.heap.size := by omega
          have hpl5 : pb < w5.heap.size := by omega
          clear z10 hc1
          have o0 := cell_of BX5.out (i := 0) rfl
          have o1 := cell_of BX5.out (i := 1) rfl
          have o2 := cell_of BX5.out (i := 2) rfl
          have o3 := cell_of BX5.out (i := 3) rfl
          have o4 := cell_of BX5.out (i := 4) rfl
          have F6 := Lib.hid (F5.out.alloc (.cells #[.int .i64 (k : Int), .int .i64 r.kind, .int .i64 r.pins, .int .i64 r.dst, .slice r.fa r.fs.length r.fc] 122))
          have OW6 := Lib.hid (own_fr OW5.out ((Fr.refl [] w5).alloc (.cells #[.int .i64 (k : Int), .int .i64 r.kind, .int .i64 r.pins, .int .i64 r.dst, .slice r.fa r.fs.length r.fc] 122)) (by simp))
          have NEWS := Lib.hid (newsR (w := w5) (ro := { r with a := k }) (v0 := (.int .i64 (k : Int))) (v1 := (.int .i64 r.kind)) (v2 := (.int .i64 r.pins)) (v3 := (.int .i64 r.dst)) (v4 := (.slice r.fa r.fs.length r.fc)) rfl)
          have HSIZ : Hid (wz.heap.size ≤ (w5.alloc (.cells #[.int .i64 (k : Int), .int .i64 r.kind, .int .i64 r.pins, .int .i64 r.dst, .slice r.fa r.fs.length r.fc] 122)).heap.size) := Lib.hid (by rw [size_alloc]; omega)
          go_upto_region 15 with (at_builtin; refine wpList_app _ rfl _ _ _ rfl wz.heap.size 122 iob (.agg #[.int .i64 0, .int .i64 0, .int .i64 0, .int .i64 0, .slice none 0 0]) 5 56 Try.underlying32 II.out Z0.out Z1.out Z2.out rfl (by decide) g1 c1 n (roCells (O.set i { r with dst := (k : Int) })) rfl OW6.out ⟨w5.heap.size, 0, none⟩ 1 1 (roC { r with a := k }) rfl rfl NEWS.out (one_roC _) (by unfold maxLen; omega) (by omega) HSIZ.out ?_; intro g2 c2 w8 own8 fr8 at8; rw [ro_snoc] at own8; have OW8 := Lib.hid own8; have F8 := Lib.hid (F6.out.trans fr8 (fun x hx => .inr (by simp only [List.mem_singleton] at hx; omega))); clear own8 fr8 at8 OW6 F6 NEWS HSIZ; have z10 := cell_of (F8.out.at PZ.out (by simp)) (i := 10) rfl; have zf10 := free_of (F8.out.at PZ.out (by simp)) (i := 10))
          have hg2b := own_base OW8.out
          have hg2l := own_lt OW8.out
          have P8 := Lib.hid (F8.out.at PZ.out (by simp))
          have R8 := Lib.hid (F8.out.at RZ.out (by simp))
          have hg2p : g2 ≠ pb := by omega
          refine wp_gen (fun W => blk W pb = some (.cells #[.slice wa wn wk, .slice (some ⟨tb', 0, none⟩) (m * 16) tc', .slice ma mn mc, .int .i64 ((R.1.sf : Int)), .int .i64 ((R.1.st : Int)), .int .i64 ((R.1.gf : Int)), .int .i64 ((R.1.gt : Int)), .int .i64 ((R.1.cf : Int)), .int .i64 ((R.1.ct : Int)), .int .i64 ((R.1.next : Int) * 16), .slice (some ⟨g2, 0, none⟩) (n + 1) c2] 34 (0, 0)) ∧ blk W (pb + 1) = some (.cells #[.slice none 0 0, .slice none 0 0, .slice none 0 0, .int .i64 0, .int .i64 0, .int .i64 0, .int .i64 0, .int .i64 0, .int .i64 0, .int .i64 0, .slice none 0 0] 34 (0, 0)) ∧ BsAt B0 W tb' tc' (tks R.1.lines) ∧ OsAt B0 W (some ⟨g2, 0, none⟩) c2 (O.set i { r with dst := (k : Int) } ++ [{ r with a := k }]) ∧ Fr [] w W) ?_ ?_
          · have FS : Fr [pb] w8 (w8.setCell ⟨pb, 10, none⟩ (.slice (some ⟨g2, 0, none⟩) (n + 1) c2)) := (Fr.refl [pb] w8).setCell (.inl (by simp)) _
            have q0 := cell_of P8.out (i := 0) rfl
            refine ⟨by rw [blk_set, if_pos rfl, P8.out]; rfl, FS.at R8.out (by simp), (BZ.out.keep F8.out).fr FS (by simpa using bs_far (BZ.out.keep F8.out) (by rw [len_tks]; have := HLL.out; omega) q0), ?_, (FZ.out.same F8.out).setCell (.inr hps) _⟩
            refine OsAt.of_own (own_fr OW8.out FS (by simp [Value.ownBlock]; omega)) (by rw [List.length_append, ← HNZ.out]; rfl) (by have := HB0.out; omega) (fun r' hr' => ?_)
            rcases List.mem_append.1 hr' with hr' | hr'
            · exact ((OZ.out.fs r' hr').keep F8.out).box FS q0
            · rw [List.mem_singleton] at hr'
              subst hr'
              exact (WSP.out.keep F8.out).box FS q0
          clear OW8 F8 P8 R8 PZ RZ PX OZ BZ FZ z10 zf10 OW5 F5 BX5 o0 o1 o2 o3 o4 WSP NL
          rintro wq ⟨PQ, RQ, BQ, OQ, FQ⟩
          have PQ := Lib.hid PQ
          have RQ := Lib.hid RQ
          have BQ := Lib.hid BQ
          have OQ := Lib.hid OQ
          have FQ := Lib.hid FQ
          have CM := Lib.hid (fun w1 => wmade_r 1 (k : Int) w1 (by omega) (by omega))
          have hql := lt_size RQ.out
          have hqne : pb ≠ pb + 1 := by omega
          have p0 := cell_of PQ.out (i := 0) rfl
          have p1 := cell_of PQ.out (i := 1) rfl
          have p2 := cell_of PQ.out (i := 2) rfl
          have p3 := cell_of PQ.out (i := 3) rfl
          have p4 := cell_of PQ.out (i := 4) rfl
          have p5 := cell_of PQ.out (i := 5) rfl
          have p6 := cell_of PQ.out (i := 6) rfl
          have p7 := cell_of PQ.out (i := 7) rfl
          have p8 := cell_of PQ.out (i := 8) rfl
          have p9 := cell_of PQ.out (i := 9) rfl
          have p10 := cell_of PQ.out (i := 10) rfl
          have q0 := cell_of RQ.out (i := 0) rfl
          have q1 := cell_of RQ.out (i := 1) rfl
          have q2 := cell_of RQ.out (i := 2) rfl
          have q3 := cell_of RQ.out (i := 3) rfl
          have q4 := cell_of RQ.out (i := 4) rfl
          have q5 := cell_of RQ.out (i := 5) rfl
          have q6 := cell_of RQ.out (i := 6) rfl
          have q7 := cell_of RQ.out (i := 7) rfl
          have q8 := cell_of RQ.out (i := 8) rfl
          have q9 := cell_of RQ.out (i := 9) rfl
          have q10 := cell_of RQ.out (i := 10) rfl
          have qf0 := free_of RQ.out (i := 0)
          have qf1 := free_of RQ.out (i := 1)
          have qf2 := free_of RQ.out (i := 2)
          have qf3 := free_of RQ.out (i := 3)
          have qf4 := free_of RQ.out (i := 4)
          have qf5 := free_of RQ.out (i := 5)
          have qf6 := free_of RQ.out (i := 6)
          have qf7 := free_of RQ.out (i := 7)
          have qf8 := free_of RQ.out (i := 8)
          have qf9 := free_of RQ.out (i := 9)
          have qf10 := free_of RQ.out (i := 10)
          have KC : Hid (∀ W, Fr [pb + 1] wq W → W.cell? ⟨pb, 0, none⟩ = some (.slice wa wn wk) ∧ W.cell? ⟨pb, 1, none⟩ = some (.slice (some ⟨tb', 0, none⟩) (m * 16) tc') ∧ W.cell? ⟨pb, 2, none⟩ = some (.slice ma mn mc) ∧ W.cell? ⟨pb, 3, none⟩ = some (.int .i64 ((R.1.sf : Int))) ∧ W.cell? ⟨pb, 4, none⟩ = some (.int .i64 ((R.1.st : Int))) ∧ W.cell? ⟨pb, 5, none⟩ = some (.int .i64 ((R.1.gf : Int))) ∧ W.cell? ⟨pb, 6, none⟩ = some (.int .i64 ((R.1.gt : Int))) ∧ W.cell? ⟨pb, 7, none⟩ = some (.int .i64 ((R.1.cf : Int))) ∧ W.cell? ⟨pb, 8, none⟩ = some (.int .i64 ((R.1.ct : Int))) ∧ W.cell? ⟨pb, 9, none⟩ = some (.int .i64 ((R.1.next : Int) * 16)) ∧ W.cell? ⟨pb, 10, none⟩ = some (.slice (some ⟨g2, 0, none⟩) (n + 1) c2)) := Lib.hid (fun W hF => ⟨cell_frR p0 hF (by simp), cell_frR p1 hF (by simp), cell_frR p2 hF (by simp), cell_frR p3 hF (by simp), cell_frR p4 hF (by simp), cell_frR p5 hF (by simp), cell_frR p6 hF (by simp), cell_frR p7 hF (by simp), cell_frR p8 hF (by simp), cell_frR p9 hF (by simp), cell_frR p10 hF (by simp)⟩)
          refine wp_region_held_drew (S := fun W => W.cell? ⟨pb, 0, none⟩ = some (.slice wa wn wk) ∧ W.cell? ⟨pb, 1, none⟩ = some (.slice (some ⟨tb', 0, none⟩) (m * 16) tc') ∧ W.cell? ⟨pb, 2, none⟩ = some (.slice ma mn mc) ∧ W.cell? ⟨pb, 3, none⟩ = some (.int .i64 ((R.1.sf : Int))) ∧ W.cell? ⟨pb, 4, none⟩ = some (.int .i64 ((R.1.st : Int))) ∧ W.cell? ⟨pb, 5, none⟩ = some (.int .i64 ((R.1.gf : Int))) ∧ W.cell? ⟨pb, 6, none⟩ = some (.int .i64 ((R.1.gt : Int))) ∧ W.cell? ⟨pb, 7, none⟩ = some (.int .i64 ((R.1.cf : Int))) ∧ W.cell? ⟨pb, 8, none⟩ = some (.int .i64 ((R.1.ct : Int))) ∧ W.cell? ⟨pb, 9, none⟩ = some (.int .i64 ((R.1.next : Int) * 16)) ∧ W.cell? ⟨pb, 10, none⟩ = some (.slice (some ⟨g2, 0, none⟩) (n + 1) c2)) (by kernel_rfl) ?_ (fun hHeld => ?_)
          · exact KC.out _ (Fr.refl _ _).drew
          refine' wpAnyH_take (i := 0) (v := _) rfl (by kernel_rfl) (by kernel_rfl) (by kernel_rfl) (fun _ _ _ h => h) (Or.inl ⟨by rfl, ?ay0⟩) (by assumption) ?ae0
          case ay0 => intro w hSw; (try dsimp only at hSw); go_simp; try with_reducible rfl
          try simp only [Act.put, List.getElem_toArray, List.getElem_cons_succ, List.getElem_cons_zero, List.setIfInBounds_toArray, List.set_cons_zero, List.set_cons_succ]
          refine' wpAnyH_take (i := 1) (v := _) rfl (by kernel_rfl) (by kernel_rfl) (by kernel_rfl) (fun _ _ _ h => h) (Or.inl ⟨by rfl, ?ay1⟩) (by assumption) ?ae1
          case ay1 => intro w hSw; (try dsimp only at hSw); go_simp; try with_reducible rfl
          try simp only [Act.put, List.getElem_toArray, List.getElem_cons_succ, List.getElem_cons_zero, List.setIfInBounds_toArray, List.set_cons_zero, List.set_cons_succ]
          refine wpAnyH_ready (rs := [2]) (by kernel_rfl) (by simp) ?_
          refine AllReadyH.cons rfl (fun K hK => ?_) AllReadyH.nil
          go_simp
          refine (CM.out _).mono ?_
          rintro e w' ⟨rfl, rfl⟩
          refine hK.out _ _ hHeld (fun hHeld2 => ?_)
          clear hK K hHeld
          try simp only [Act.put, List.getElem_toArray, List.getElem_cons_succ, List.getElem_cons_zero, List.setIfInBounds_toArray, List.set_cons_zero, List.set_cons_succ]
          refine wpAnyH_ready (rs := [3]) (by kernel_rfl) (by simp) ?_
          refine AllReadyH.cons rfl (fun K hK => ?_) AllReadyH.nil
          go_simp
          refine hK.out _ _ (KC.out _ (fr11 (Fr.refl [pb + 1] wq) (.inl (by simp))).drew) (fun hHeld3 => ?_)
          clear hK K hHeld2
          try simp only [Act.put, List.getElem_toArray, List.getElem_cons_succ, List.getElem_cons_zero, List.setIfInBounds_toArray, List.set_cons_zero, List.set_cons_succ]
          refine' wpAnyH_take (i := 4) (v := _) rfl (by kernel_rfl) (by kernel_rfl) (by kernel_rfl) (fun _ _ _ h => h) (Or.inl ⟨by rfl, ?by4⟩) (by assumption) ?be4
          case by4 => intro w hSw; (try dsimp only at hSw); go_simp; try with_reducible rfl
          try simp only [Act.put, List.getElem_toArray, List.getElem_cons_succ, List.getElem_cons_zero, List.setIfInBounds_toArray, List.set_cons_zero, List.set_cons_succ]
          refine' wpAnyH_take (i := 5) (v := _) rfl (by kernel_rfl) (by kernel_rfl) (by kernel_rfl) (fun _ _ _ h => h) (Or.inl ⟨by rfl, ?by5⟩) (by assumption) ?be5
          case by5 => intro w hSw; (try dsimp only at hSw); go_simp; try with_reducible rfl
          try simp only [Act.put, List.getElem_toArray, List.getElem_cons_succ, List.getElem_cons_zero, List.setIfInBounds_toArray, List.set_cons_zero, List.set_cons_succ]
          refine wpAnyH_done (by kernel_rfl) ?_ _
          go_wp2
          refine bodyPost_ret (ret_st3 rfl _ _ _ _ rfl (by rw [blk_drew]; exact blk11 RQ.out) rfl size_heap15 und_heap15) rfl ?_
          refine ⟨tb', tc', some ⟨g2, 0, none⟩, c2, R.1, O.set i { r with dst := (k : Int) } ++ [{ r with a := k }], mkW 1 k, true, by rw [List.length_append, ← HNZ.out]; rfl, ?_, ?_, (fr11 FQ.out (.inr (by omega))).drew, HS.out⟩
          · exact BQ.out.fr (fr11 (Fr.refl [pb + 1] wq) (.inl (by simp))).drew (by simpa using bs_far BQ.out (by rw [len_tks]; have := HLL.out; omega) q0)
          · exact OQ.out.box (fr11 (Fr.refl [pb + 1] wq) (.inl (by simp))).drew q0
end Go.Proofs.Ytjgndfhfiekomaa
