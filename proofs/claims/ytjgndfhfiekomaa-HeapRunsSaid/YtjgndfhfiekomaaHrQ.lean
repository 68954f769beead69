/- The document's heap: Make. -/
import Derived.Test.YtjgndfhfiekomaaHrO
set_option linter.all false
namespace Go.Proofs.Ytjgndfhfiekomaa
open Go.ChangeShapes Go.WideShapes Go.RowKit
variable {B0 : Nat} {w w' : World} {wa ma oa : Option Addr} {wn wk tb tc mn mc oc : Nat} {A : Ar} {m : Nat} {O : List RO} {r : RO}
theorem own_lo {w : World} {B t z n : Nat} {v : Value} {xs : List Value} (h : w.ownsRow B t z v n xs) : ∀ x, x ∈ v.ownBlock.toList → B ≤ x := by
  intro x hx
  rcases h.2 with ⟨hv, _⟩ | ⟨g, cap, cur, hv, hb, _⟩
  · rw [hv] at hx; simp [Value.ownBlock] at hx
  · rw [hv] at hx; simp [Value.ownBlock] at hx; omega
/-- What Make does. -/
def MakeSpec (L : Nat) (A : Ar) (m : Nat) (O : List RO) (kd sz : Int) (A' : Ar) (O' : List RO) (y : Int) (b : Bool) : Prop :=
  (b = false ∧ y = 0 ∧ O' = O ∧ A' = A ∧ (kd < 0 ∨ 31 < kd ∨ sz < 0 ∨ 240 < sz)) ∨
  (¬ (kd < 0 ∨ 31 < kd ∨ sz < 0 ∨ 240 < sz) ∧ A' = (A.alloc m (sz + 1)).1 ∧
    ((b = false ∧ y = 0 ∧ O' = O ∧ (A.alloc m (sz + 1)).2 = none) ∨
     ∃ (k : Nat) (fa : Option Addr) (fc : Nat), b = true ∧ (A.alloc m (sz + 1)).2 = some k ∧ y = mkW 1 k ∧ O' = O ++ [⟨k, kd, 0, -1, List.replicate sz.toNat (emptyW kd), fa, fc⟩] ∧ ∀ b, fa = some ⟨b, 0, none⟩ → L ≤ b))
set_option maxRecDepth 100000 in
set_option maxHeartbeats 4000000 in
theorem rmake_c (w : World) (ok : A.Ok m) (hB : BsAt B0 w tb tc (tks A.lines)) (hm : m ≤ 100) (hx : NextOk A) (hO : OsAt B0 w oa oc O) (hn : O.length ≤ 999) (kd sz : Int) (hsz : -9223372036854775808 ≤ sz ∧ sz ≤ 9223372036854775807) :
    Calls Try.prog 16 #[.agg #[.slice wa wn wk, .slice (some ⟨tb, 0, none⟩) (m * 16) tc, .slice ma mn mc, .int .i64 ((A.sf : Int)), .int .i64 ((A.st : Int)), .int .i64 ((A.gf : Int)), .int .i64 ((A.gt : Int)), .int .i64 ((A.cf : Int)), .int .i64 ((A.ct : Int)), .int .i64 ((A.next : Int) * 16), .slice oa O.length oc], .int .i64 kd, .int .i64 sz] w (HpOk B0 wa ma wn wk mn mc m w (MakeSpec w.heap.size A m O kd sz)) := by
  have HO := Lib.hid hO
  obtain ⟨n, hnl⟩ : ∃ n, n = O.length := ⟨_, rfl⟩
  have HN := Lib.hid hnl
  have hoc := hO.cp.1
  have hoc2 : oc ≤ 9223372036854775807 := by have := hO.cp.2; unfold maxLen at this; omega
  have HB0 : Hid (B0 ≤ w.heap.size) := Lib.hid (Nat.le_trans hB.lo (Nat.le_of_lt hB.lt))
  have CF := Lib.hid (fun (w1 : World) (hF : Fr [] w w1) => ralloc_c (wa := wa) (wn := wn) (wk := wk) (ma := ma) (mn := mn) (mc := mc) w1 ok (hB.keep hF) hm hx (sz + 1))
  have HB := Lib.hid hB
  have HAL : Hid (1 ≤ A.lines.length) := Lib.hid (by have := ok.ll; have := ok.m1; omega)
  have HRL : Hid (1 ≤ (A.alloc m (sz + 1)).1.lines.length) := Lib.hid (by have := (ok.alloc (sz + 1)).ll; have := ok.m1; omega)
  rw [← hnl] at hn hoc ⊢
  obtain ⟨W2, hW2⟩ : ∃ W2, W2 = (w.alloc (.cells #[.slice wa wn wk, .slice (some ⟨tb, 0, none⟩) (m * 16) tc, .slice ma mn mc, .int .i64 ((A.sf : Int)), .int .i64 ((A.st : Int)), .int .i64 ((A.gf : Int)), .int .i64 ((A.gt : Int)), .int .i64 ((A.cf : Int)), .int .i64 ((A.ct : Int)), .int .i64 ((A.next : Int) * 16), .slice oa n oc] 34)).alloc (.cells #[.slice none 0 0, .slice none 0 0, .slice none 0 0, .int .i64 0, .int .i64 0, .int .i64 0, .int .i64 0, .int .i64 0, .int .i64 0, .int .i64 0, .slice none 0 0] 34) := ⟨_, rfl⟩
  have P1 := Lib.hid (show blk W2 w.heap.size = some (.cells #[.slice wa wn wk, .slice (some ⟨tb, 0, none⟩) (m * 16) tc, .slice ma mn mc, .int .i64 ((A.sf : Int)), .int .i64 ((A.st : Int)), .int .i64 ((A.gf : Int)), .int .i64 ((A.gt : Int)), .int .i64 ((A.cf : Int)), .int .i64 ((A.ct : Int)), .int .i64 ((A.next : Int) * 16), .slice oa n oc] 34 (0, 0)) by rw [hW2, blk_alloc, if_neg (by rw [size_alloc]; omega), blk_alloc, if_pos rfl])
  have R1 := Lib.hid (show blk W2 (w.heap.size + 1) = some (.cells #[.slice none 0 0, .slice none 0 0, .slice none 0 0, .int .i64 0, .int .i64 0, .int .i64 0, .int .i64 0, .int .i64 0, .int .i64 0, .int .i64 0, .slice none 0 0] 34 (0, 0)) by rw [hW2, blk_alloc, if_pos (by rw [size_alloc])])
  have F1 : Hid (Fr [] w W2) := Lib.hid (by rw [hW2]; exact ((Fr.refl _ _).alloc _).alloc _)
  obtain ⟨pb, hpb⟩ : ∃ pb, pb = w.heap.size := ⟨_, rfl⟩
  have HPB : Hid (pb = w.heap.size) := Lib.hid hpb
  rw [← hpb] at P1 R1
  clear hO hnl hB ok hx
  have hpl := lt_size R1.out
  have hpl0 : pb < W2.heap.size := by omega
  have hps : w.heap.size ≤ pb := by rw [HPB.out]; exact Nat.le_refl _
  go_enter Try.func16, Try.ntmps16
  go_upto_region 1 with fail
  rw [← hW2, ← hpb]
  clear hW2 hpb
  have p0 := cell_of P1.out (i := 0) rfl
  have p1 := cell_of P1.out (i := 1) rfl
  have p2 := cell_of P1.out (i := 2) rfl
  have p3 := cell_of P1.out (i := 3) rfl
  have p4 := cell_of P1.out (i := 4) rfl
  have p5 := cell_of P1.out (i := 5) rfl
  have p6 := cell_of P1.out (i := 6) rfl
  have p7 := cell_of P1.out (i := 7) rfl
  have p8 := cell_of P1.out (i := 8) rfl
  have p9 := cell_of P1.out (i := 9) rfl
  have p10 := cell_of P1.out (i := 10) rfl
  have q0 := cell_of R1.out (i := 0) rfl
  have q1 := cell_of R1.out (i := 1) rfl
  have q2 := cell_of R1.out (i := 2) rfl
  have q3 := cell_of R1.out (i := 3) rfl
  have q4 := cell_of R1.out (i := 4) rfl
  have q5 := cell_of R1.out (i := 5) rfl
  have q6 := cell_of R1.out (i := 6) rfl
  have q7 := cell_of R1.out (i := 7) rfl
  have q8 := cell_of R1.out (i := 8) rfl
  have q9 := cell_of R1.out (i := 9) rfl
  have q10 := cell_of R1.out (i := 10) rfl
  have qf0 := free_of R1.out (i := 0)
  have qf1 := free_of R1.out (i := 1)
  have qf2 := free_of R1.out (i := 2)
  have qf3 := free_of R1.out (i := 3)
  have qf4 := free_of R1.out (i := 4)
  have qf5 := free_of R1.out (i := 5)
  have qf6 := free_of R1.out (i := 6)
  have qf7 := free_of R1.out (i := 7)
  have qf8 := free_of R1.out (i := 8)
  have qf9 := free_of R1.out (i := 9)
  have qf10 := free_of R1.out (i := 10)
  by_cases hbad : kd < 0 ∨ 31 < kd ∨ sz < 0 ∨ 240 < sz
  · have HS : Hid (MakeSpec w.heap.size A m O kd sz A O 0 false) := Lib.hid (.inl ⟨rfl, rfl, rfl, rfl, hbad⟩)
    clear CF
    by_cases h1 : kd < 0
    · clear hbad
      go_wp2
      refine bodyPost_ret (ret_st3 rfl _ _ _ _ rfl (blk11 R1.out) rfl size_heap15 und_heap15) rfl ?_
      rw [HN.out]
      exact ⟨tb, tc, oa, oc, A, O, 0, false, rfl, (HB.out.keep F1.out).fr (fr11 (Fr.refl [pb + 1] W2) (.inl (by simp))) (by simpa using bs_far (HB.out.keep F1.out) (by rw [len_tks]; have := HAL.out; omega) q0), HO.out.keep (fr11 F1.out (.inr (by omega))), fr11 F1.out (.inr (by omega)), HS.out⟩
    by_cases h2 : 31 < kd
    · clear hbad
      go_wp2
      refine bodyPost_ret (ret_st3 rfl _ _ _ _ rfl (blk11 R1.out) rfl size_heap15 und_heap15) rfl ?_
      rw [HN.out]
      exact ⟨tb, tc, oa, oc, A, O, 0, false, rfl, (HB.out.keep F1.out).fr (fr11 (Fr.refl [pb + 1] W2) (.inl (by simp))) (by simpa using bs_far (HB.out.keep F1.out) (by rw [len_tks]; have := HAL.out; omega) q0), HO.out.keep (fr11 F1.out (.inr (by omega))), fr11 F1.out (.inr (by omega)), HS.out⟩
    by_cases h3 : sz < 0
    · clear hbad
      go_wp2
      refine bodyPost_ret (ret_st3 rfl _ _ _ _ rfl (blk11 R1.out) rfl size_heap15 und_heap15) rfl ?_
      rw [HN.out]
      exact ⟨tb, tc, oa, oc, A, O, 0, false, rfl, (HB.out.keep F1.out).fr (fr11 (Fr.refl [pb + 1] W2) (.inl (by simp))) (by simpa using bs_far (HB.out.keep F1.out) (by rw [len_tks]; have := HAL.out; omega) q0), HO.out.keep (fr11 F1.out (.inr (by omega))), fr11 F1.out (.inr (by omega)), HS.out⟩
    have h4 : 240 < sz := by omega
    clear hbad
    go_wp2
    refine bodyPost_ret (ret_st3 rfl _ _ _ _ rfl (blk11 R1.out) rfl size_heap15 und_heap15) rfl ?_
    rw [HN.out]
    exact ⟨tb, tc, oa, oc, A, O, 0, false, rfl, (HB.out.keep F1.out).fr (fr11 (Fr.refl [pb + 1] W2) (.inl (by simp))) (by simpa using bs_far (HB.out.keep F1.out) (by rw [len_tks]; have := HAL.out; omega) q0), HO.out.keep (fr11 F1.out (.inr (by omega))), fr11 F1.out (.inr (by omega)), HS.out⟩
  have HBD := Lib.hid hbad
  have h1 : 0 ≤ kd := by omega
  have h2 : kd ≤ 31 := by omega
  have h3 : 0 ≤ sz := by omega
  have h4 : sz ≤ 240 := by omega
  clear hbad
  obtain ⟨R, hR⟩ : ∃ R, R = A.alloc m (sz + 1) := ⟨_, rfl⟩
  have HRR := Lib.hid hR
  have HLL : Hid (1 ≤ R.1.lines.length) := Lib.hid (by rw [hR]; exact HRL.out)
  rw [← hR] at CF
  clear hR HRL
  go_wp2_with fail
  refine (CF.out _ F1.out).mono ?_
  rintro e w3 ⟨tb', tc', rfl, B3, F3⟩
  have P3 := Lib.hid (F3.at P1.out (by simp))
  have R3 := Lib.hid (F3.at R1.out (by simp))
  have F3 := Lib.hid (F1.out.same F3)
  have B3 := Lib.hid B3
  have hl3 := lt_size R3.out
  have hl30 : pb < w3.heap.size := by omega
  have hne0 : pb ≠ w3.heap.size := by omega
  have hne1 : pb + 1 ≠ w3.heap.size := by omega
  clear p0 p1 p2 p3 p4 p5 p6 p7 p8 p9 p10 q0 q1 q2 q3 q4 q5 q6 q7 q8 q9 q10 qf0 qf1 qf2 qf3 qf4 qf5 qf6 qf7 qf8 qf9 qf10
  have p0 := cell_of P3.out (i := 0) rfl
  have p1 := cell_of P3.out (i := 1) rfl
  have p2 := cell_of P3.out (i := 2) rfl
  have p3 := cell_of P3.out (i := 3) rfl
  have p4 := cell_of P3.out (i := 4) rfl
  have p5 := cell_of P3.out (i := 5) rfl
  have p6 := cell_of P3.out (i := 6) rfl
  have p7 := cell_of P3.out (i := 7) rfl
  have p8 := cell_of P3.out (i := 8) rfl
  have p9 := cell_of P3.out (i := 9) rfl
  have p10 := cell_of P3.out (i := 10) rfl
  have pf0 := free_of P3.out (i := 0)
  have pf1 := free_of P3.out (i := 1)
  have pf2 := free_of P3.out (i := 2)
  have pf3 := free_of P3.out (i := 3)
  have pf4 := free_of P3.out (i := 4)
  have pf5 := free_of P3.out (i := 5)
  have pf6 := free_of P3.out (i := 6)
  have pf7 := free_of P3.out (i := 7)
  have pf8 := free_of P3.out (i := 8)
  have pf9 := free_of P3.out (i := 9)
  have pf10 := free_of P3.out (i := 10)
  go_upto_region 5 with fail
  refine wp_gen (fun W => blk W pb = some (.cells #[.slice wa wn wk, .slice (some ⟨tb', 0, none⟩) (m * 16) tc', .slice ma mn mc, .int .i64 ((R.1.sf : Int)), .int .i64 ((R.1.st : Int)), .int .i64 ((R.1.gf : Int)), .int .i64 ((R.1.gt : Int)), .int .i64 ((R.1.cf : Int)), .int .i64 ((R.1.ct : Int)), .int .i64 ((R.1.next : Int) * 16), .slice oa n oc] 34 (0, 0)) ∧ blk W (pb + 1) = some (.cells #[.slice none 0 0, .slice none 0 0, .slice none 0 0, .int .i64 0, .int .i64 0, .int .i64 0, .int .i64 0, .int .i64 0, .int .i64 0, .int .i64 0, .slice none 0 0] 34 (0, 0)) ∧ BsAt B0 W tb' tc' (tks R.1.lines) ∧ Fr [] w W) ?_ ?_
  · have hfar : tb' ≠ pb := bs_far B3.out (by rw [len_tks]; have := HLL.out; omega) p0
    refine ⟨?_, ?_, ?_, ?_⟩
    · rw [blk_alloc, if_neg (Nat.ne_of_lt (Nat.lt_of_lt_of_le hl30 (fr10 (Fr.refl [pb] w3) (.inl (by simp))).size))]; exact blk10h P3.out
    · rw [blk_alloc, if_neg (Nat.ne_of_lt (Nat.lt_of_lt_of_le hl3 (fr10 (Fr.refl [pb] w3) (.inl (by simp))).size)), blk10_ne (by omega)]; exact R3.out
    · exact (B3.out.fr (fr10 (Fr.refl [pb] w3) (.inl (by simp))) (by simpa using hfar)).keep ((Fr.refl _ _).alloc _)
    · exact (fr10 F3.out (.inr hps)).alloc _
  rintro w6 ⟨P6, R6, B6, F6⟩
  have P6 := Lib.hid P6
  have R6 := Lib.hid R6
  have B6 := Lib.hid B6
  have F6 := Lib.hid F6
  clear P3 R3 B3 F3 hl3 hl30 hne0 hne1 p0 pf0 p1 pf1 p2 pf2 p3 pf3 p4 pf4 p5 pf5 p6 pf6 p7 pf7 p8 pf8 p9 pf9 p10 pf10
  have hl6 := lt_size R6.out
  have hl60 : pb < w6.heap.size := by omega
  have hne0 : pb ≠ w6.heap.size := by omega
  have hne1 : pb + 1 ≠ w6.heap.size := by omega
  have p0 := cell_of P6.out (i := 0) rfl
  have p1 := cell_of P6.out (i := 1) rfl
  have p2 := cell_of P6.out (i := 2) rfl
  have p3 := cell_of P6.out (i := 3) rfl
  have p4 := cell_of P6.out (i := 4) rfl
  have p5 := cell_of P6.out (i := 5) rfl
  have p6 := cell_of P6.out (i := 6) rfl
  have p7 := cell_of P6.out (i := 7) rfl
  have p8 := cell_of P6.out (i := 8) rfl
  have p9 := cell_of P6.out (i := 9) rfl
  have p10 := cell_of P6.out (i := 10) rfl
  have q0 := cell_of R6.out (i := 0) rfl
  have q1 := cell_of R6.out (i := 1) rfl
  have q2 := cell_of R6.out (i := 2) rfl
  have q3 := cell_of R6.out (i := 3) rfl
  have q4 := cell_of R6.out (i := 4) rfl
  have q5 := cell_of R6.out (i := 5) rfl
  have q6 := cell_of R6.out (i := 6) rfl
  have q7 := cell_of R6.out (i := 7) rfl
  have q8 := cell_of R6.out (i := 8) rfl
  have q9 := cell_of R6.out (i := 9) rfl
  have q10 := cell_of R6.out (i := 10) rfl
  have qf0 := free_of R6.out (i := 0)
  have qf1 := free_of R6.out (i := 1)
  have qf2 := free_of R6.out (i := 2)
  have qf3 := free_of R6.out (i := 3)
  have qf4 := free_of R6.out (i := 4)
  have qf5 := free_of R6.out (i := 5)
  have qf6 := free_of R6.out (i := 6)
  have qf7 := free_of R6.out (i := 7)
  have qf8 := free_of R6.out (i := 8)
  have qf9 := free_of R6.out (i := 9)
  have qf10 := free_of R6.out (i := 10)
  cases hk : R.2 with
  | none =>
    have HS : Hid (MakeSpec w.heap.size A m O kd sz R.1 O 0 false) := Lib.hid (.inr ⟨HBD.out, by rw [HRR.out], .inl ⟨rfl, rfl, rfl, by rw [← HRR.out]; exact hk⟩⟩)
    clear hk
    simp only [Option.getD_none, Option.isSome_none]
    go_wp2
    refine bodyPost_ret (ret_st3 rfl _ _ _ _ rfl (blk11 R6.out) rfl size_heap15 und_heap15) rfl ?_
    rw [HN.out]
    exact ⟨tb', tc', oa, oc, R.1, O, 0, false, rfl, B6.out.fr (fr11 (Fr.refl [pb + 1] w6) (.inl (by simp))) (by simpa using bs_far B6.out (by rw [len_tks]; have := HLL.out; omega) q0), HO.out.keep (fr11 F6.out (.inr (by omega))), fr11 F6.out (.inr (by omega)), HS.out⟩
  | some k =>
    have HK := Lib.hid hk
    clear hk
    simp only [Option.getD_some, Option.isSome_some]
    go_upto_region 8 with fail
    obtain ⟨W7, hW7⟩ : ∃ W7, W7 = w6.alloc (.cells #[.int .i64 (k : Int), .int .i64 kd, .int .i64 0, .int .i64 (-1), .slice none 0 0] 122) := ⟨_, rfl⟩
    have F7 : Hid (Fr [] w6 W7) := Lib.hid (by rw [hW7]; exact (Fr.refl _ _).alloc _)
    have BX := Lib.hid (show blk W7 w6.heap.size = some (.cells #[.int .i64 (k : Int), .int .i64 kd, .int .i64 0, .int .i64 (-1), .slice none 0 0] 122 (0, 0)) by rw [hW7, blk_alloc, if_pos rfl])
    have S7 : Hid (W7.heap.size = w6.heap.size + 1) := Lib.hid (by rw [hW7, size_alloc])
    rw [← hW7]
    clear hW7 p0 q0 qf0 p1 q1 qf1 p2 q2 qf2 p3 q3 qf3 p4 q4 qf4 p5 q5 qf5 p6 q6 qf6 p7 q7 qf7 p8 q8 qf8 p9 q9 qf9 p10 q10 qf10
    obtain ⟨sn, hsn⟩ : ∃ sn : Nat, sz = (sn : Int) := ⟨sz.toNat, by omega⟩
    subst hsn
    obtain ⟨i0, hii, hz0, hz1, hz2⟩ := info_parts info_word14
    have II := Lib.hid hii
    have Z0 := Lib.hid hz0
    have Z1 := Lib.hid hz1
    have Z2 := Lib.hid hz2
    clear hii hz0 hz1 hz2
    obtain ⟨ev, hev⟩ : ∃ ev, ev = emptyW kd := ⟨_, rfl⟩
    have HEV := Lib.hid hev
    have hevk : (15 < kd ∧ ev = 0) ∨ (kd ≤ 15 ∧ ev = 45) := by
      rw [hev]; unfold emptyW
      by_cases h : 16 ≤ kd ∧ kd < 32
      · rw [if_pos h]; omega
      · rw [if_neg h]; omega
    clear hev
    have CM := Lib.hid (fun w1 => wmade_r 5 5 w1 (by omega) (by omega))
    rw [single5] at CM
    have NB : Hid (∀ {wr : World} {fa : Option Addr} {j fc : Nat} {xs : List Value}, wr.ownsRow (w6.heap.size + 1) 37 1 (.slice fa j fc) j xs → w6.heap.size ∉ (Value.slice fa j fc).ownBlock.toList) := Lib.hid (fun h hx => by have := own_lo h _ hx; omega)
    go_wp2_with fail
    go_loopw [13, 14] (fun u _ wr => ∃ (j : Nat) (fa : Option Addr) (fc : Nat), j ≤ sn ∧ u = .int .i64 (j : Int) ∧ Hid ((j = 0 ∧ fa = none ∧ fc = 0) ∨ ∃ g, fa = some ⟨g, 0, none⟩) ∧ Hid (blk wr w6.heap.size = some (.cells #[.int .i64 (k : Int), .int .i64 kd, .int .i64 0, .int .i64 (-1), .slice fa j fc] 122 (0, 0))) ∧ Hid (wr.ownsRow (w6.heap.size + 1) 37 1 (.slice fa j fc) j (List.replicate j (Value.int .u64 ev))) ∧ Hid (Fr [w6.heap.size] W7 wr)) (fun u _ _ => sn - (intOf u).toNat)
    case atStart => exact ⟨0, none, 0, by omega, by go_num, Lib.hid (.inl ⟨rfl, rfl, rfl⟩), BX, Lib.hid (World.ownsRow_nil _ _ _ _), Lib.hid (Fr.refl _ _)⟩
    case round =>
      obtain ⟨j, fa, fc, hj, rfl, HFA, PX, OW, FW⟩ := hrel
      have px4 := cell_of PX.out (i := 4) rfl
      have hxl := lt_size PX.out
      have hxn : w6.heap.size ≠ wr.heap.size := by omega
      by_cases hlt : j < sn
      · rcases hevk with ⟨hk1, rfl⟩ | ⟨hk1, rfl⟩
        · have hk2 : 15 < kd := hk1
          have CE := Lib.hid (World.news_of_block (show blk (wr.alloc (.cells #[.int .u64 0] 37)) wr.heap.size = _ from by rw [blk_alloc, if_pos rfl]))
          have OWA := Lib.hid (own_fr OW.out ((Fr.refl [] wr).alloc (.cells #[.int .u64 0] 37)) (by simp))
          have FWA := Lib.hid (FW.out.alloc (.cells #[.int .u64 0] 37))
          have HSIZ : Hid (w6.heap.size + 1 ≤ (wr.alloc (.cells #[.int .u64 0] 37)).heap.size) := Lib.hid (by rw [size_alloc]; omega)
          have HREP : Hid (List.replicate j (Value.int .u64 0) ++ [.int .u64 0] = List.replicate (j + 1) (Value.int .u64 0)) := Lib.hid (by rw [List.replicate_succ'])
          have HLR : Hid ((List.replicate j (Value.int .u64 0)).length = j * 1) := Lib.hid (by simp)
          go_upto_region 14 with (go_at_call 64; refine (CM.out _).mono ?_; rintro e w' ⟨rfl, rfl⟩)
          go_wp2_with (at_builtin; refine wpList_append_own _ rfl _ _ 26 rfl (w6.heap.size + 1) 37 i0 (.int .u64 0) 1 8 Try.underlying26 II.out Z0.out Z1.out Z2.out rfl (by decide) (.slice fa j fc) j (List.replicate j (Value.int .u64 0)) rfl OWA.out ⟨wr.heap.size, 0, none⟩ 1 1 [.int .u64 0] rfl rfl CE.out (by simp [Value.oneCell']) (by unfold maxLen; omega) (by omega) HSIZ.out ?_; intro v' w9 hown hgrow hnil; obtain ⟨g5, cap5, hv5, _, _⟩ := hown.form (by omega); subst hv5; have hgr := grown_fr hgrow; have k9 := hgr.at (show blk (wr.alloc (.cells #[.int .u64 0] 37)) w6.heap.size = _ from by rw [blk_alloc, if_neg (by omega)]; exact PX.out) (NB.out OWA.out); have y4 := cell_of k9 (i := 4) rfl; have yf4 := free_of k9 (i := 4); have hown := Lib.hid hown; have hgr := Lib.hid hgr; have k9 := Lib.hid k9; clear hnil hgrow)
          go_roundw
          case measure => simp [intOf]; omega
          case rel =>
            have FF : Fr [w6.heap.size] W7 w9 := FWA.out.trans hgr.out (fun x hx => .inr (by rw [S7.out]; exact own_lo OW.out x hx))
            have hgb := own_base hown.out
            refine ⟨j + 1, some ⟨g5, 0, none⟩, cap5, by omega, by go_num, Lib.hid (.inr ⟨g5, rfl⟩), Lib.hid ?_, Lib.hid ?_, Lib.hid (FF.setCell (.inl (by simp)) _)⟩
            · rw [blk_set, if_pos rfl, k9.out]; rfl
            · rw [← HREP.out]
              exact own_fr hown.out ((Fr.refl [w6.heap.size] w9).setCell (.inl (by simp)) _) (by simp [Value.ownBlock]; omega)
        · have hk2 : ¬ 15 < kd := by omega
          have CE := Lib.hid (World.news_of_block (show blk (wr.alloc (.cells #[.int .u64 45] 37)) wr.heap.size = _ from by rw [blk_alloc, if_pos rfl]))
          have OWA := Lib.hid (own_fr OW.out ((Fr.refl [] wr).alloc (.cells #[.int .u64 45] 37)) (by simp))
          have FWA := Lib.hid (FW.out.alloc (.cells #[.int .u64 45] 37))
          have HSIZ : Hid (w6.heap.size + 1 ≤ (wr.alloc (.cells #[.int .u64 45] 37)).heap.size) := Lib.hid (by rw [size_alloc]; omega)
          have HREP : Hid (List.replicate j (Value.int .u64 45) ++ [.int .u64 45] = List.replicate (j + 1) (Value.int .u64 45)) := Lib.hid (by rw [List.replicate_succ'])
          have HLR : Hid ((List.replicate j (Value.int .u64 45)).length = j * 1) := Lib.hid (by simp)
          go_upto_region 14 with (go_at_call 64; refine (CM.out _).mono ?_; rintro e w' ⟨rfl, rfl⟩)
          go_wp2_with (at_builtin; refine wpList_append_own _ rfl _ _ 26 rfl (w6.heap.size + 1) 37 i0 (.int .u64 0) 1 8 Try.underlying26 II.out Z0.out Z1.out Z2.out rfl (by decide) (.slice fa j fc) j (List.replicate j (Value.int .u64 45)) rfl OWA.out ⟨wr.heap.size, 0, none⟩ 1 1 [.int .u64 45] rfl rfl CE.out (by simp [Value.oneCell']) (by unfold maxLen; omega) (by omega) HSIZ.out ?_; intro v' w9 hown hgrow hnil; obtain ⟨g5, cap5, hv5, _, _⟩ := hown.form (by omega); subst hv5; have hgr := grown_fr hgrow; have k9 := hgr.at (show blk (wr.alloc (.cells #[.int .u64 45] 37)) w6.heap.size = _ from by rw [blk_alloc, if_neg (by omega)]; exact PX.out) (NB.out OWA.out); have y4 := cell_of k9 (i := 4) rfl; have yf4 := free_of k9 (i := 4); have hown := Lib.hid hown; have hgr := Lib.hid hgr; have k9 := Lib.hid k9; clear hnil hgrow)
          go_roundw
          case measure => simp [intOf]; omega
          case rel =>
            have FF : Fr [w6.heap.size] W7 w9 := FWA.out.trans hgr.out (fun x hx => .inr (by rw [S7.out]; exact own_lo OW.out x hx))
            have hgb := own_base hown.out
            refine ⟨j + 1, some ⟨g5, 0, none⟩, cap5, by omega, by go_num, Lib.hid (.inr ⟨g5, rfl⟩), Lib.hid ?_, Lib.hid ?_, Lib.hid (FF.setCell (.inl (by simp)) _)⟩
            · rw [blk_set, if_pos rfl, k9.out]; rfl
            · rw [← HREP.out]
              exact own_fr hown.out ((Fr.refl [w6.heap.size] w9).setCell (.inl (by simp)) _) (by simp [Value.ownBlock]; omega)
      · have hje : j = sn := by omega
        obtain ⟨fs, hfs⟩ : ∃ fs, fs = List.replicate sn ev := ⟨_, rfl⟩
        have hfl : sn = fs.length := by rw [hfs, List.length_replicate]
        have F6r : Fr [] w6 wr := F7.out.trans FW.out (fun x hx => .inr (by simp only [List.mem_singleton] at hx; omega))
        have PZ := Lib.hid (F6r.at P6.out (by simp))
        have RZ := Lib.hid (F6r.at R6.out (by simp))
        have BZ := Lib.hid (B6.out.keep F6r)
        have FZ := Lib.hid (F6.out.same F6r)
        have OZ := Lib.hid (HO.out.keep FZ.out)
        have HNZ := HN
        have WSP : Hid (WsQ B0 wr fa fc fs) := Lib.hid (by
          rcases HFA.out with ⟨q1, q2, q3⟩ | ⟨g, q1⟩
          · have : fs = [] := List.eq_nil_of_length_eq_zero (by omega)
            rw [this, q3]; exact ⟨Nat.le_refl _, by unfold maxLen; omega, .inl rfl⟩
          · subst q1
            refine WsQ.of_own (B := w6.heap.size + 1) (n := j) ?_ (by omega) (by have := HB0.out; have := own_base OW.out; have := F6.out.size; omega)
            rw [hfs, ← hje, List.map_replicate]
            exact OW.out)
        have HS : Hid (MakeSpec w.heap.size A m O kd sn R.1 (O ++ [(⟨k, kd, 0, -1, fs, fa, fc⟩ : RO)]) (mkW 1 k) true) := Lib.hid (.inr ⟨HBD.out, by rw [HRR.out], .inr ⟨k, fa, fc, rfl, by rw [← HRR.out]; exact HK.out, rfl, by rw [hfs, Int.toNat_natCast, HEV.out], fun b hb => by
          rcases HFA.out with ⟨_, q2, _⟩ | ⟨g, q1⟩
          · rw [q2] at hb; simp at hb
          · subst q1
            simp only [Option.some.injEq, Addr.mk.injEq, and_true] at hb
            have := own_base OW.out
            have := F6.out.size
            omega⟩⟩)
        have PX : Hid (blk wr w6.heap.size = some (.cells #[.int .i64 (k : Int), .int .i64 kd, .int .i64 0, .int .i64 (-1), .slice fa fs.length fc] 122 (0, 0))) := Lib.hid (by rw [← hfl, ← hje]; exact PX.out)
        clear OW FW F6r BX F7 P6 R6 B6 F6 px4 NB HO hfs hfl hje
        have hzl := lt_size RZ.out
        have hzl0 : pb < wr.heap.size := by omega
        have hzn0 : pb ≠ wr.heap.size := by omega
        have hzn1 : pb + 1 ≠ wr.heap.size := by omega
        have hxl := lt_size PX.out
        have hxn : w6.heap.size ≠ wr.heap.size := by omega
        obtain ⟨iob, hii, hz0, hz1, hz2⟩ := info_parts info_obj15
        have II := Lib.hid hii
        have Z0 := Lib.hid hz0
        have Z1 := Lib.hid hz1
        have Z2 := Lib.hid hz2
        clear hii hz0 hz1 hz2
        have NL : Hid ((roCells (O)).length = n * 5) := Lib.hid (by rw [len_ro, HNZ.out])
        have OW : Hid ((wr.alloc (.cells #[] 122)).ownsRow wr.heap.size 122 5 (.slice (some ⟨wr.heap.size, 0, none⟩) 0 0) 0 []) := Lib.hid (own_mk (cur := #[]) (by rw [blk_alloc, if_pos rfl]) (Nat.le_refl _) (Nat.le_refl _) (Nat.zero_le _) rfl rfl)
        have F4 := Lib.hid ((Fr.refl [] wr).alloc (.cells #[] 122))
        have NEWS := Lib.hid (show n = 0 ∨ _ from by have := OZ.out.newsQ F4.out; rw [← HNZ.out] at this; exact this)
        have hocz := OZ.out.cp.1
        rw [← HNZ.out] at hocz
        have hocz2 : oc ≤ 9223372036854775807 := by have := OZ.out.cp.2; unfold maxLen at this; omega
        have z10 := cell_of PZ.out (i := 10) rfl
        go_upto_region 16 with (at_builtin; refine wpList_appQ _ rfl _ _ _ rfl wr.heap.size 122 iob (.agg #[.int .i64 0, .int .i64 0, .int .i64 0, .int .i64 0, .slice none 0 0]) 5 56 Try.underlying32 II.out Z0.out Z1.out Z2.out rfl (by decide) wr.heap.size 0 0 [] rfl OW.out (oa) n (oc) (roCells (O)) rfl NL.out NEWS.out (one_ro _) (by unfold maxLen; omega) (by omega) F4.out.size ?_; intro g1 c1 w5 own5 fr5 at5; rw [Nat.zero_add, List.nil_append] at own5; rw [Nat.zero_add]; have OW5 := Lib.hid own5; have F5 := Lib.hid (F4.out.trans fr5 (fun x hx => .inr (by simp only [List.mem_singleton] at hx; omega))); clear own5 fr5 at5 OW F4 NEWS)
        have hgb := own_base OW5.out
        have hgl := own_lt OW5.out
        have hc1 := own_cap OW5.out
        have hc1b : c1 ≤ 9223372036854775807 := by have := hc1.2; unfold maxLen at this; omega
        have hc1a := hc1.1
        have BX5 := Lib.hid (F5.out.at PX.out (by simp))
        have hxl5 := lt_size BX5.out
        have hxn5 : w6.heap.size ≠ w5.heap.size := by omega
        have hsz5 : wr.heap.size ≤ w5.heap.size := F5.out.size
        have hgn5 : g1 ≠ w5.heap.size := by omega
        have hpn5 : pb ≠ w5.heap.size := by omega
        have hpl5 : pb < w5.heap.size := by omega
        clear z10 hc1
        have o0 := cell_of BX5.out (i := 0) rfl
        have o1 := cell_of BX5.out (i := 1) rfl
        have o2 := cell_of BX5.out (i := 2) rfl
        have o3 := cell_of BX5.out (i := 3) rfl
        have o4 := cell_of BX5.out (i := 4) rfl
        have F6 := Lib.hid (F5.out.alloc (.cells #[.int .i64 (k : Int), .int .i64 kd, .int .i64 0, .int .i64 (-1), .slice fa fs.length fc] 122))
        have OW6 := Lib.hid (own_fr OW5.out ((Fr.refl [] w5).alloc (.cells #[.int .i64 (k : Int), .int .i64 kd, .int .i64 0, .int .i64 (-1), .slice fa fs.length fc] 122)) (by simp))
        have NEWS := Lib.hid (newsR (w := w5) (ro := (⟨k, kd, 0, -1, fs, fa, fc⟩ : RO)) (v0 := (.int .i64 (k : Int))) (v1 := (.int .i64 kd)) (v2 := (.int .i64 0)) (v3 := (.int .i64 (-1))) (v4 := (.slice fa fs.length fc)) rfl)
        have HSIZ : Hid (wr.heap.size ≤ (w5.alloc (.cells #[.int .i64 (k : Int), .int .i64 kd, .int .i64 0, .int .i64 (-1), .slice fa fs.length fc] 122)).heap.size) := Lib.hid (by rw [size_alloc]; omega)
        go_upto_region 17 with (at_builtin; refine wpList_app _ rfl _ _ _ rfl wr.heap.size 122 iob (.agg #[.int .i64 0, .int .i64 0, .int .i64 0, .int .i64 0, .slice none 0 0]) 5 56 Try.underlying32 II.out Z0.out Z1.out Z2.out rfl (by decide) g1 c1 n (roCells (O)) rfl OW6.out ⟨w5.heap.size, 0, none⟩ 1 1 (roC (⟨k, kd, 0, -1, fs, fa, fc⟩ : RO)) rfl rfl NEWS.out (one_roC _) (by unfold maxLen; omega) (by omega) HSIZ.out ?_; intro g2 c2 w8 own8 fr8 at8; rw [ro_snoc] at own8; have OW8 := Lib.hid own8; have F8 := Lib.hid (F6.out.trans fr8 (fun x hx => .inr (by simp only [List.mem_singleton] at hx; omega))); clear own8 fr8 at8 OW6 F6 NEWS HSIZ; have z10 := cell_of (F8.out.at PZ.out (by simp)) (i := 10) rfl; have zf10 := free_of (F8.out.at PZ.out (by simp)) (i := 10))
        have hg2b := own_base OW8.out
        have hg2l := own_lt OW8.out
        have P8 := Lib.hid (F8.out.at PZ.out (by simp))
        have R8 := Lib.hid (F8.out.at RZ.out (by simp))
        have hg2p : g2 ≠ pb := by omega
        refine wp_gen (fun W => blk W pb = some (.cells #[.slice wa wn wk, .slice (some ⟨tb', 0, none⟩) (m * 16) tc', .slice ma mn mc, .int .i64 ((R.1.sf : Int)), .int .i64 ((R.1.st : Int)), .int .i64 ((R.1.gf : Int)), .int .i64 ((R.1.gt : Int)), .int .i64 ((R.1.cf : Int)), .int .i64 ((R.1.ct : Int)), .int .i64 ((R.1.next : Int) * 16), .slice (some ⟨g2, 0, none⟩) (n + 1) c2] 34 (0, 0)) ∧ blk W (pb + 1) = some (.cells #[.slice none 0 0, .slice none 0 0, .slice none 0 0, .int .i64 0, .int .i64 0, .int .i64 0, .int .i64 0, .int .i64 0, .int .i64 0, .int .i64 0, .slice none 0 0] 34 (0, 0)) ∧ BsAt B0 W tb' tc' (tks R.1.lines) ∧ OsAt B0 W (some ⟨g2, 0, none⟩) c2 (O ++ [(⟨k, kd, 0, -1, fs, fa, fc⟩ : RO)]) ∧ Fr [] w W) ?_ ?_
        · have FS : Fr [pb] w8 (w8.setCell ⟨pb, 10, none⟩ (.slice (some ⟨g2, 0, none⟩) (n + 1) c2)) := (Fr.refl [pb] w8).setCell (.inl (by simp)) _
          have q0 := cell_of P8.out (i := 0) rfl
          refine ⟨by rw [blk_set, if_pos rfl, P8.out]; rfl, FS.at R8.out (by simp), (BZ.out.keep F8.out).fr FS (by simpa using bs_far (BZ.out.keep F8.out) (by rw [len_tks]; have := HLL.out; omega) q0), ?_, (FZ.out.same F8.out).setCell (.inr hps) _⟩
          refine OsAt.of_own (own_fr OW8.out FS (by simp [Value.ownBlock]; omega)) (by rw [List.length_append, ← HNZ.out]; rfl) (by have := HB0.out; omega) (fun r' hr' => ?_)
          rcases List.mem_append.1 hr' with hr' | hr'
          · exact ((OZ.out.fs r' hr').keep F8.out).box FS q0
          · rw [List.mem_singleton] at hr'
            subst hr'
            exact (WSP.out.keep F8.out).box FS q0
        clear OW8 F8 P8 R8 PZ RZ PX OZ BZ FZ z10 zf10 OW5 F5 BX5 o0 o1 o2 o3 o4 WSP NL
        rintro wq ⟨PQ, RQ, BQ, OQ, FQ⟩
        have PQ := Lib.hid PQ
        have RQ := Lib.hid RQ
        have BQ := Lib.hid BQ
        have OQ := Lib.hid OQ
        have FQ := Lib.hid FQ
        have CM := Lib.hid (fun w1 => wmade_r 1 (k : Int) w1 (by omega) (by omega))
        have hql := lt_size RQ.out
        have hqne : pb ≠ pb + 1 := by omega
        have p0 := cell_of PQ.out (i := 0) rfl
        have p1 := cell_of PQ.out (i := 1) rfl
        have p2 := cell_of PQ.out (i := 2) rfl
        have p3 := cell_of PQ.out (i := 3) rfl
        have p4 := cell_of PQ.out (i := 4) rfl
        have p5 := cell_of PQ.out (i := 5) rfl
        have p6 := cell_of PQ.out (i := 6) rfl
        have p7 := cell_of PQ.out (i := 7) rfl
        have p8 := cell_of PQ.out (i := 8) rfl
        have p9 := cell_of PQ.out (i := 9) rfl
        have p10 := cell_of PQ.out (i := 10) rfl
        have q0 := cell_of RQ.out (i := 0) rfl
        have q1 := cell_of RQ.out (i := 1) rfl
        have q2 := cell_of RQ.out (i := 2) rfl
        have q3 := cell_of RQ.out (i := 3) rfl
        have q4 := cell_of RQ.out (i := 4) rfl
        have q5 := cell_of RQ.out (i := 5) rfl
        have q6 := cell_of RQ.out (i := 6) rfl
        have q7 := cell_of RQ.out (i := 7) rfl
        have q8 := cell_of RQ.out (i := 8) rfl
        have q9 := cell_of RQ.out (i := 9) rfl
        have q10 := cell_of RQ.out (i := 10) rfl
        have qf0 := free_of RQ.out (i := 0)
        have qf1 := free_of RQ.out (i := 1)
        have qf2 := free_of RQ.out (i := 2)
        have qf3 := free_of RQ.out (i := 3)
        have qf4 := free_of RQ.out (i := 4)
        have qf5 := free_of RQ.out (i := 5)
        have qf6 := free_of RQ.out (i := 6)
        have qf7 := free_of RQ.out (i := 7)
        have qf8 := free_of RQ.out (i := 8)
        have qf9 := free_of RQ.out (i := 9)
        have qf10 := free_of RQ.out (i := 10)
        have KC : Hid (∀ W, Fr [pb + 1] wq W → W.cell? ⟨pb, 0, none⟩ = some (.slice wa wn wk) ∧ W.cell? ⟨pb, 1, none⟩ = some (.slice (some ⟨tb', 0, none⟩) (m * 16) tc') ∧ W.cell? ⟨pb, 2, none⟩ = some (.slice ma mn mc) ∧ W.cell? ⟨pb, 3, none⟩ = some (.int .i64 ((R.1.sf : Int))) ∧ W.cell? ⟨pb, 4, none⟩ = some (.int .i64 ((R.1.st : Int))) ∧ W.cell? ⟨pb, 5, none⟩ = some (.int .i64 ((R.1.gf : Int))) ∧ W.cell? ⟨pb, 6, none⟩ = some (.int .i64 ((R.1.gt : Int))) ∧ W.cell? ⟨pb, 7, none⟩ = some (.int .i64 ((R.1.cf : Int))) ∧ W.cell? ⟨pb, 8, none⟩ = some (.int .i64 ((R.1.ct : Int))) ∧ W.cell? ⟨pb, 9, none⟩ = some (.int .i64 ((R.1.next : Int) * 16)) ∧ W.cell? ⟨pb, 10, none⟩ = some (.slice (some ⟨g2, 0, none⟩) (n + 1) c2)) := Lib.hid (fun W hF => ⟨cell_frR p0 hF (by simp), cell_frR p1 hF (by simp), cell_frR p2 hF (by simp), cell_frR p3 hF (by simp), cell_frR p4 hF (by simp), cell_frR p5 hF (by simp), cell_frR p6 hF (by simp), cell_frR p7 hF (by simp), cell_frR p8 hF (by simp), cell_frR p9 hF (by simp), cell_frR p10 hF (by simp)⟩)
        refine wp_region_held_drew (S := fun W => W.cell? ⟨pb, 0, none⟩ = some (.slice wa wn wk) ∧ W.cell? ⟨pb, 1, none⟩ = some (.slice (some ⟨tb', 0, none⟩) (m * 16) tc') ∧ W.cell? ⟨pb, 2, none⟩ = some (.slice ma mn mc) ∧ W.cell? ⟨pb, 3, none⟩ = some (.int .i64 ((R.1.sf : Int))) ∧ W.cell? ⟨pb, 4, none⟩ = some (.int .i64 ((R.1.st : Int))) ∧ W.cell? ⟨pb, 5, none⟩ = some (.int .i64 ((R.1.gf : Int))) ∧ W.cell? ⟨pb, 6, none⟩ = some (.int .i64 ((R.1.gt : Int))) ∧ W.cell? ⟨pb, 7, none⟩ = some (.int .i64 ((R.1.cf : Int))) ∧ W.cell? ⟨pb, 8, none⟩ = some (.int .i64 ((R.1.ct : Int))) ∧ W.cell? ⟨pb, 9, none⟩ = some (.int .i64 ((R.1.next : Int) * 16)) ∧ W.cell? ⟨pb, 10, none⟩ = some (.slice (some ⟨g2, 0, none⟩) (n + 1) c2)) (by kernel_rfl) ?_ (fun hHeld => ?_)
        · exact KC.out _ (Fr.refl _ _).drew
        refine' wpAnyH_take (i := 0) (v := _) rfl (by kernel_rfl) (by kernel_rfl) (by kernel_rfl) (fun _ _ _ h => h) (Or.inl ⟨by rfl, ?ay0⟩) (by assumption) ?ae0
        case ay0 => intro w hSw; (try dsimp only at hSw); go_simp; try with_reducible rfl
        try simp only [Act.put, List.getElem_toArray, List.getElem_cons_succ, List.getElem_cons_zero, List.setIfInBounds_toArray, List.set_cons_zero, List.set_cons_succ]
        refine' wpAnyH_take (i := 1) (v := _) rfl (by kernel_rfl) (by kernel_rfl) (by kernel_rfl) (fun _ _ _ h => h) (Or.inl ⟨by rfl, ?ay1⟩) (by assumption) ?ae1
        case ay1 => intro w hSw; (try dsimp only at hSw); go_simp; try with_reducible rfl
        try simp only [Act.put, List.getElem_toArray, List.getElem_cons_succ, List.getElem_cons_zero, List.setIfInBounds_toArray, List.set_cons_zero, List.set_cons_succ]
        refine wpAnyH_ready (rs := [2]) (by kernel_rfl) (by simp) ?_
        refine AllReadyH.cons rfl (fun K hK => ?_) AllReadyH.nil
        go_simp
        refine (CM.out _).mono ?_
        rintro e w' ⟨rfl, rfl⟩
        refine hK.out _ _ hHeld (fun hHeld2 => ?_)
        clear hK K hHeld
        try simp only [Act.put, List.getElem_toArray, List.getElem_cons_succ, List.getElem_cons_zero, List.setIfInBounds_toArray, List.set_cons_zero, List.set_cons_succ]
        refine wpAnyH_ready (rs := [3]) (by kernel_rfl) (by simp) ?_
        refine AllReadyH.cons rfl (fun K hK => ?_) AllReadyH.nil
        go_simp
        refine hK.out _ _ (KC.out _ (fr11 (Fr.refl [pb + 1] wq) (.inl (by simp))).drew) (fun hHeld3 => ?_)
        clear hK K hHeld2
        try simp only [Act.put, List.getElem_toArray, List.getElem_cons_succ, List.getElem_cons_zero, List.setIfInBounds_toArray, List.set_cons_zero, List.set_cons_succ]
        refine' wpAnyH_take (i := 4) (v := _) rfl (by kernel_rfl) (by kernel_rfl) (by kernel_rfl) (fun _ _ _ h => h) (Or.inl ⟨by rfl, ?by4⟩) (by assumption) ?be4
        case by4 => intro w hSw; (try dsimp only at hSw); go_simp; try with_reducible rfl
        try simp only [Act.put, List.getElem_toArray, List.getElem_cons_succ, List.getElem_cons_zero, List.setIfInBounds_toArray, List.set_cons_zero, List.set_cons_succ]
        refine' wpAnyH_take (i := 5) (v := _) rfl (by kernel_rfl) (by kernel_rfl) (by kernel_rfl) (fun _ _ _ h => h) (Or.inl ⟨by rfl, ?by5⟩) (by assumption) ?be5
        case by5 => intro w hSw; (try dsimp only at hSw); go_simp; try with_reducible rfl
        try simp only [Act.put, List.getElem_toArray, List.getElem_cons_succ, List.getElem_cons_zero, List.setIfInBounds_toArray, List.set_cons_zero, List.set_cons_succ]
        refine wpAnyH_done (by kernel_rfl) ?_ _
        go_wp2
        refine bodyPost_ret (ret_st3 rfl _ _ _ _ rfl (by rw [blk_drew]; exact blk11 RQ.out) rfl size_heap15 und_heap15) rfl ?_
        refine ⟨tb', tc', some ⟨g2, 0, none⟩, c2, R.1, O ++ [(⟨k, kd, 0, -1, fs, fa, fc⟩ : RO)], mkW 1 k, true, by rw [List.length_append, ← HNZ.out]; rfl, ?_, ?_, (fr11 FQ.out (.inr (by omega))).drew, HS.out⟩
        · exact BQ.out.fr (fr11 (Fr.refl [pb + 1] wq) (.inl (by simp))).drew (by simpa using bs_far BQ.out (by rw [len_tks]; have := HLL.out; omega) q0)
        · exact OQ.out.box (fr11 (Fr.refl [pb + 1] wq) (.inl (by simp))).drew q0
end Go.Proofs.Ytjgndfhfiekomaa
