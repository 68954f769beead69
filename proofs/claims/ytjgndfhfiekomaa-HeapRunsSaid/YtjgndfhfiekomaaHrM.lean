/- The document's heap: Pin, Set. -/
import Derived.Test.YtjgndfhfiekomaaHrL
set_option linter.all false
namespace Go.Proofs.Ytjgndfhfiekomaa
open Go.ChangeShapes Go.WideShapes Go.RowKit
variable {B0 : Nat} {w w' : World} {wa ta ma oa : Option Addr} {wn wk tn tc mn mc oc : Nat} {sf st gf gt cf ct nx : Int} {O : List RO} {r : RO}
theorem WsQ.box {a : Option Addr} {c : Nat} {ws : List Int} {p n2 c2 : Nat} {a2 : Option Addr} (h : WsQ B0 w a c ws) (hF : Fr [p] w w') (hc : w.cell? ⟨p, 0, none⟩ = some (.slice a2 n2 c2)) : WsQ B0 w' a c ws := by
  obtain ⟨h1, h2, h3⟩ := h
  refine ⟨h1, h2, ?_⟩
  cases ws with
  | nil => exact .inl rfl
  | cons x ws =>
    rcases h3 with h3 | ⟨b, q1, q2, qlo, q3⟩
    · simp at h3
    · refine .inr ⟨b, q1, Nat.lt_of_lt_of_le q2 hF.size, qlo, fun i x hx => ?_⟩
      have hb : b ≠ p := by
        rintro rfl
        have := q3 0 _ rfl
        rw [hc] at this
        simp at this
      rw [← q3 i x hx]; exact World.cell?_of_block (w := w) (hF.block b q2 (by simpa using hb))
theorem OsAt.box {p n2 c2 : Nat} {a2 : Option Addr} (h : OsAt B0 w oa oc O) (hF : Fr [p] w w') (hc : w.cell? ⟨p, 0, none⟩ = some (.slice a2 n2 c2)) : OsAt B0 w' oa oc O := by
  refine ⟨h.cp, ?_, fun r hr => (h.fs r hr).box hF hc, h.lo⟩
  cases O with
  | nil => exact .inl rfl
  | cons r O =>
    rcases h.rd with h3 | ⟨b, q1, q2, q3⟩
    · simp at h3
    · have hb : b ≠ p := by
        rintro rfl
        have := (q3 0 _ rfl).1
        rw [Nat.zero_mul, hc] at this
        simp at this
      have key : ∀ j u, w.cell? ⟨b, j, none⟩ = some u → w'.cell? ⟨b, j, none⟩ = some u := fun j u hu => by rw [← hu]; exact World.cell?_of_block (w := w) (hF.block b q2 (by simpa using hb))
      refine .inr ⟨b, q1, Nat.lt_of_lt_of_le q2 hF.size, fun i r hr => ?_⟩
      obtain ⟨e0, e1, e2, e3, e4⟩ := q3 i r hr
      exact ⟨key _ _ e0, key _ _ e1, key _ _ e2, key _ _ e3, key _ _ e4⟩
/-- What Pin does. -/
def PinSpec (O : List RO) (x d : Int) (O' : List RO) (b : Bool) : Prop :=
  (b = false ∧ O' = O ∧ ∀ i r, hereR O x = some i → O[i]? = some r → r.pins + d < 0 ∨ 7 < r.pins + d) ∨
  (b = true ∧ ∃ i r, hereR O x = some i ∧ O[i]? = some r ∧ 0 ≤ r.pins + d ∧ r.pins + d ≤ 7 ∧ O' = O.set i { r with pins := r.pins + d })
def PinOk (B0 : Nat) (wa ta ma : Option Addr) (wn wk tn tc mn mc : Nat) (sf st gf gt cf ct nx : Int) (w : World) (O : List RO) (x d : Int) (e : Ending) (w' : World) : Prop :=
  ∃ oa oc O' b, e = .returned (.tuple #[.agg #[.slice wa wn wk, .slice ta tn tc, .slice ma mn mc, .int .i64 sf, .int .i64 st, .int .i64 gf, .int .i64 gt, .int .i64 cf, .int .i64 ct, .int .i64 nx, .slice oa O'.length oc], .bool b]) ∧ OsAt B0 w' oa oc O' ∧ Fr [] w w' ∧ PinSpec O x d O' b
set_option maxRecDepth 100000 in
set_option maxHeartbeats 4000000 in
theorem rpin_c (w : World) (hB0 : B0 ≤ w.heap.size) (hO : OsAt B0 w oa oc O) (hn : O.length ≤ 1000) (ha : ∀ r, r ∈ O → r.a ≤ 1000000) (hp : ∀ r, r ∈ O → 0 ≤ r.pins ∧ r.pins ≤ 7) (x d : Int) (hd : -1 ≤ d ∧ d ≤ 1) :
    Calls Try.prog 22 #[.agg #[.slice wa wn wk, .slice ta tn tc, .slice ma mn mc, .int .i64 sf, .int .i64 st, .int .i64 gf, .int .i64 gt, .int .i64 cf, .int .i64 ct, .int .i64 nx, .slice oa O.length oc], .int .u64 x, .int .i64 d] w (PinOk B0 wa ta ma wn wk tn tc mn mc sf st gf gt cf ct nx w O x d) := by
  have HO := Lib.hid hO
  obtain ⟨n, hnl⟩ : ∃ n, n = O.length := ⟨_, rfl⟩
  have HN := Lib.hid hnl
  have hoc := hO.cp.1
  have hoc2 : oc ≤ 9223372036854775807 := by have := hO.cp.2; unfold maxLen at this; omega
  have CH := Lib.hid (fun (w1 : World) (hF : Fr [] w w1) => rhere_c (wa := wa) (wn := wn) (wk := wk) (ta := ta) (tn := tn) (tc := tc) (ma := ma) (mn := mn) (mc := mc) (sf := sf) (st := st) (gf := gf) (gt := gt) (cf := cf) (ct := ct) (nx := nx) w1 (hO.keep hF) hn ha x)
  have CW := Lib.hid (fun (w1 : World) (hF : Fr [] w w1) => rwith_c (wa := wa) (wn := wn) (wk := wk) (ta := ta) (tn := tn) (tc := tc) (ma := ma) (mn := mn) (mc := mc) (sf := sf) (st := st) (gf := gf) (gt := gt) (cf := cf) (ct := ct) (nx := nx) w1 (Nat.le_trans hB0 hF.size) (hO.keep hF) hn)
  have HP := Lib.hid hp
  have HD := Lib.hid hd
  rw [← hnl] at hn hoc CH CW ⊢
  obtain ⟨W2, hW2⟩ : ∃ W2, W2 = (w.alloc (.cells #[.slice wa wn wk, .slice ta tn tc, .slice ma mn mc, .int .i64 sf, .int .i64 st, .int .i64 gf, .int .i64 gt, .int .i64 cf, .int .i64 ct, .int .i64 nx, .slice oa n oc] 34)).alloc (.cells #[.slice none 0 0, .slice none 0 0, .slice none 0 0, .int .i64 0, .int .i64 0, .int .i64 0, .int .i64 0, .int .i64 0, .int .i64 0, .int .i64 0, .slice none 0 0] 34) := ⟨_, rfl⟩
  have P1 := Lib.hid (show blk W2 w.heap.size = some (.cells #[.slice wa wn wk, .slice ta tn tc, .slice ma mn mc, .int .i64 sf, .int .i64 st, .int .i64 gf, .int .i64 gt, .int .i64 cf, .int .i64 ct, .int .i64 nx, .slice oa n oc] 34 (0, 0)) by rw [hW2, blk_alloc, if_neg (by rw [size_alloc]; omega), blk_alloc, if_pos rfl])
  have R1 := Lib.hid (show blk W2 (w.heap.size + 1) = some (.cells #[.slice none 0 0, .slice none 0 0, .slice none 0 0, .int .i64 0, .int .i64 0, .int .i64 0, .int .i64 0, .int .i64 0, .int .i64 0, .int .i64 0, .slice none 0 0] 34 (0, 0)) by rw [hW2, blk_alloc, if_pos (by rw [size_alloc])])
  have F1 : Hid (Fr [] w W2) := Lib.hid (by rw [hW2]; exact ((Fr.refl _ _).alloc _).alloc _)
  obtain ⟨pb, hpb⟩ : ∃ pb, pb = w.heap.size := ⟨_, rfl⟩
  have HPB : Hid (pb = w.heap.size) := Lib.hid hpb
  rw [← hpb] at P1 R1
  clear hB0 hO hnl ha hp hd
  go_enter Try.func22, Try.ntmps22
  go_upto_region 1 with fail
  rw [← hW2, ← hpb]
  clear hW2 hpb
  have p0 := cell_of P1.out (i := 0) rfl
  have p1 := cell_of P1.out (i := 1) rfl
  have p2 := cell_of P1.out (i := 2) rfl
  have p3 := cell_of P1.out (i := 3) rfl
  have p4 := cell_of P1.out (i := 4) rfl
  have p5 := cell_of P1.out (i := 5) rfl
  have p6 := cell_of P1.out (i := 6) rfl
  have p7 := cell_of P1.out (i := 7) rfl
  have p8 := cell_of P1.out (i := 8) rfl
  have p9 := cell_of P1.out (i := 9) rfl
  have p10 := cell_of P1.out (i := 10) rfl
  go_wp2_with fail
  refine (CH.out _ F1.out).mono ?_
  rintro e w3 ⟨rfl, F3⟩
  have P3 := Lib.hid (F3.at P1.out (by simp))
  have R3 := Lib.hid (F3.at R1.out (by simp))
  have F3 := Lib.hid (F1.out.same F3)
  have hl3 := lt_size R3.out
  have hl30 : pb < w3.heap.size := by omega
  have hne0 : pb ≠ w3.heap.size := by omega
  have hne1 : pb + 1 ≠ w3.heap.size := by omega
  have hps : w.heap.size ≤ pb := by rw [HPB.out]; exact Nat.le_refl _
  cases hf : hereR O x with
  | none =>
    have HS : Hid (PinSpec O x d O false) := Lib.hid (.inl ⟨rfl, rfl, fun i r hi => by rw [hf] at hi; simp at hi⟩)
    clear hf CH CW P1 R1
    clear p0 p1 p2 p3 p4 p5 p6 p7 p8 p9 p10
    have p0 := cell_of P3.out (i := 0) rfl
    have p1 := cell_of P3.out (i := 1) rfl
    have p2 := cell_of P3.out (i := 2) rfl
    have p3 := cell_of P3.out (i := 3) rfl
    have p4 := cell_of P3.out (i := 4) rfl
    have p5 := cell_of P3.out (i := 5) rfl
    have p6 := cell_of P3.out (i := 6) rfl
    have p7 := cell_of P3.out (i := 7) rfl
    have p8 := cell_of P3.out (i := 8) rfl
    have p9 := cell_of P3.out (i := 9) rfl
    have p10 := cell_of P3.out (i := 10) rfl
    have q0 := cell_of R3.out (i := 0) rfl
    have q1 := cell_of R3.out (i := 1) rfl
    have q2 := cell_of R3.out (i := 2) rfl
    have q3 := cell_of R3.out (i := 3) rfl
    have q4 := cell_of R3.out (i := 4) rfl
    have q5 := cell_of R3.out (i := 5) rfl
    have q6 := cell_of R3.out (i := 6) rfl
    have q7 := cell_of R3.out (i := 7) rfl
    have q8 := cell_of R3.out (i := 8) rfl
    have q9 := cell_of R3.out (i := 9) rfl
    have q10 := cell_of R3.out (i := 10) rfl
    have qf0 := free_of R3.out (i := 0)
    have qf1 := free_of R3.out (i := 1)
    have qf2 := free_of R3.out (i := 2)
    have qf3 := free_of R3.out (i := 3)
    have qf4 := free_of R3.out (i := 4)
    have qf5 := free_of R3.out (i := 5)
    have qf6 := free_of R3.out (i := 6)
    have qf7 := free_of R3.out (i := 7)
    have qf8 := free_of R3.out (i := 8)
    have qf9 := free_of R3.out (i := 9)
    have qf10 := free_of R3.out (i := 10)
    simp only [lastI]
    go_wp2
    refine bodyPost_ret (ret_st2 rfl _ _ _ _ rfl (blk11 R3.out) rfl size_heap15 und_heap15) rfl ?_
    rw [HN.out]
    exact ⟨oa, oc, O, false, rfl, HO.out.keep (fr11 F3.out (.inr (by omega))), fr11 F3.out (.inr (by omega)), HS.out⟩
  | some i =>
    obtain ⟨r, hr, _, _⟩ := hereR_some hf
    have hi : i < n := by rw [HN.out]; rcases Nat.lt_or_ge i O.length with h | h; exact h; rw [List.getElem?_eq_none h] at hr; simp at hr
    have hws := (HO.out.keep F3.out).fs r (List.mem_of_getElem? hr)
    obtain ⟨b, hoa, hbl, d0, d1, d2, d3, d4⟩ := (HO.out.keep F3.out).at hr
    subst hoa
    have hpr := HP.out r (List.mem_of_getElem? hr)
    have hdd := HD.out
    by_cases h0 : r.pins + d < 0 ∨ 7 < r.pins + d
    · have HS : Hid (PinSpec O x d O false) := Lib.hid (.inl ⟨rfl, rfl, fun i' r' hi' hr' => by rw [hf] at hi'; simp only [Option.some.injEq] at hi'; subst hi'; rw [hr] at hr'; simp only [Option.some.injEq] at hr'; subst hr'; exact h0⟩)
      clear hf CH CW P1 R1 hr hws
      clear p0 p1 p2 p3 p4 p5 p6 p7 p8 p9 p10
      have p0 := cell_of P3.out (i := 0) rfl
      have p1 := cell_of P3.out (i := 1) rfl
      have p2 := cell_of P3.out (i := 2) rfl
      have p3 := cell_of P3.out (i := 3) rfl
      have p4 := cell_of P3.out (i := 4) rfl
      have p5 := cell_of P3.out (i := 5) rfl
      have p6 := cell_of P3.out (i := 6) rfl
      have p7 := cell_of P3.out (i := 7) rfl
      have p8 := cell_of P3.out (i := 8) rfl
      have p9 := cell_of P3.out (i := 9) rfl
      have p10 := cell_of P3.out (i := 10) rfl
      have q0 := cell_of R3.out (i := 0) rfl
      have q1 := cell_of R3.out (i := 1) rfl
      have q2 := cell_of R3.out (i := 2) rfl
      have q3 := cell_of R3.out (i := 3) rfl
      have q4 := cell_of R3.out (i := 4) rfl
      have q5 := cell_of R3.out (i := 5) rfl
      have q6 := cell_of R3.out (i := 6) rfl
      have q7 := cell_of R3.out (i := 7) rfl
      have q8 := cell_of R3.out (i := 8) rfl
      have q9 := cell_of R3.out (i := 9) rfl
      have q10 := cell_of R3.out (i := 10) rfl
      have qf0 := free_of R3.out (i := 0)
      have qf1 := free_of R3.out (i := 1)
      have qf2 := free_of R3.out (i := 2)
      have qf3 := free_of R3.out (i := 3)
      have qf4 := free_of R3.out (i := 4)
      have qf5 := free_of R3.out (i := 5)
      have qf6 := free_of R3.out (i := 6)
      have qf7 := free_of R3.out (i := 7)
      have qf8 := free_of R3.out (i := 8)
      have qf9 := free_of R3.out (i := 9)
      have qf10 := free_of R3.out (i := 10)
      simp only [lastI]
      by_cases h1 : r.pins + d < 0
      · go_wp2
        refine bodyPost_ret (ret_st2 rfl _ _ _ _ rfl (blk11 R3.out) rfl size_heap15 und_heap15) rfl ?_
        rw [HN.out]
        exact ⟨_, oc, O, false, rfl, HO.out.keep (fr11 F3.out (.inr (by omega))), fr11 F3.out (.inr (by omega)), HS.out⟩
      · have h2 : 7 < r.pins + d := by omega
        clear h0
        go_wp2
        refine bodyPost_ret (ret_st2 rfl _ _ _ _ rfl (blk11 R3.out) rfl size_heap15 und_heap15) rfl ?_
        rw [HN.out]
        exact ⟨_, oc, O, false, rfl, HO.out.keep (fr11 F3.out (.inr (by omega))), fr11 F3.out (.inr (by omega)), HS.out⟩
    · have h1 : 0 ≤ r.pins + d := by omega
      have h2 : r.pins + d ≤ 7 := by omega
      have HS : Hid (PinSpec O x d (O.set i { r with pins := r.pins + d }) true) := Lib.hid (.inr ⟨rfl, i, r, hf, hr, h1, h2, rfl⟩)
      have WS := Lib.hid hws
      clear hf CH P1 R1 hr hws h0
      clear p0 p1 p2 p3 p4 p5 p6 p7 p8 p9 p10
      have p0 := cell_of P3.out (i := 0) rfl
      have p1 := cell_of P3.out (i := 1) rfl
      have p2 := cell_of P3.out (i := 2) rfl
      have p3 := cell_of P3.out (i := 3) rfl
      have p4 := cell_of P3.out (i := 4) rfl
      have p5 := cell_of P3.out (i := 5) rfl
      have p6 := cell_of P3.out (i := 6) rfl
      have p7 := cell_of P3.out (i := 7) rfl
      have p8 := cell_of P3.out (i := 8) rfl
      have p9 := cell_of P3.out (i := 9) rfl
      have p10 := cell_of P3.out (i := 10) rfl
      have q0 := cell_of R3.out (i := 0) rfl
      have q1 := cell_of R3.out (i := 1) rfl
      have q2 := cell_of R3.out (i := 2) rfl
      have q3 := cell_of R3.out (i := 3) rfl
      have q4 := cell_of R3.out (i := 4) rfl
      have q5 := cell_of R3.out (i := 5) rfl
      have q6 := cell_of R3.out (i := 6) rfl
      have q7 := cell_of R3.out (i := 7) rfl
      have q8 := cell_of R3.out (i := 8) rfl
      have q9 := cell_of R3.out (i := 9) rfl
      have q10 := cell_of R3.out (i := 10) rfl
      have qf0 := free_of R3.out (i := 0)
      have qf1 := free_of R3.out (i := 1)
      have qf2 := free_of R3.out (i := 2)
      have qf3 := free_of R3.out (i := 3)
      have qf4 := free_of R3.out (i := 4)
      have qf5 := free_of R3.out (i := 5)
      have qf6 := free_of R3.out (i := 6)
      have qf7 := free_of R3.out (i := 7)
      have qf8 := free_of R3.out (i := 8)
      have qf9 := free_of R3.out (i := 9)
      have qf10 := free_of R3.out (i := 10)
      simp only [lastI]
      go_wp2_with fail
      refine (CW.out _ (F3.out.alloc _) i hi { r with pins := r.pins + d } (WS.out.keep ((Fr.refl _ _).alloc _))).mono ?_
      rintro e w5 ⟨g, c, rfl, O5, F5⟩
      have R5 := Lib.hid (F5.at (show blk (w3.alloc _) (pb + 1) = _ by rw [blk_alloc, if_neg hne1]; exact R3.out) (by simp))
      have F5 := Lib.hid ((F3.out.alloc _).same F5)
      have O5 := Lib.hid O5
      clear p0 p1 p2 p3 p4 p5 p6 p7 p8 p9 p10 q0 q1 q2 q3 q4 q5 q6 q7 q8 q9 q10 qf0 qf1 qf2 qf3 qf4 qf5 qf6 qf7 qf8 qf9 qf10
      have q0 := cell_of R5.out (i := 0) rfl
      have q1 := cell_of R5.out (i := 1) rfl
      have q2 := cell_of R5.out (i := 2) rfl
      have q3 := cell_of R5.out (i := 3) rfl
      have q4 := cell_of R5.out (i := 4) rfl
      have q5 := cell_of R5.out (i := 5) rfl
      have q6 := cell_of R5.out (i := 6) rfl
      have q7 := cell_of R5.out (i := 7) rfl
      have q8 := cell_of R5.out (i := 8) rfl
      have q9 := cell_of R5.out (i := 9) rfl
      have q10 := cell_of R5.out (i := 10) rfl
      have qf0 := free_of R5.out (i := 0)
      have qf1 := free_of R5.out (i := 1)
      have qf2 := free_of R5.out (i := 2)
      have qf3 := free_of R5.out (i := 3)
      have qf4 := free_of R5.out (i := 4)
      have qf5 := free_of R5.out (i := 5)
      have qf6 := free_of R5.out (i := 6)
      have qf7 := free_of R5.out (i := 7)
      have qf8 := free_of R5.out (i := 8)
      have qf9 := free_of R5.out (i := 9)
      have qf10 := free_of R5.out (i := 10)
      go_wp2
      refine bodyPost_ret (ret_st2 rfl _ _ _ _ rfl (blk11 R5.out) rfl size_heap15 und_heap15) rfl ?_
      refine ⟨_, c, O.set i { r with pins := r.pins + d }, true, by rw [List.length_set]; rfl, ?_, fr11 F5.out (.inr (by omega)), HS.out⟩
      exact O5.out.box (fr11 (Fr.refl [pb + 1] w5) (.inl (by simp))) q0
end Go.Proofs.Ytjgndfhfiekomaa
