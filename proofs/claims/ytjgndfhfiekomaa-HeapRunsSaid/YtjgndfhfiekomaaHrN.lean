/- The document's heap: Set. -/
import Derived.Test.YtjgndfhfiekomaaHrM
set_option linter.all false
namespace Go.Proofs.Ytjgndfhfiekomaa
open Go.ChangeShapes Go.WideShapes Go.RowKit
variable {B0 : Nat} {w w' : World} {wa ta ma oa : Option Addr} {wn wk tn tc mn mc oc : Nat} {sf st gf gt cf ct nx : Int} {O : List RO} {r : RO}
/-- What Set does. -/
def SetSpec (L : Nat) (O : List RO) (x k v : Int) (O' : List RO) (c : Int) : Prop :=
  (c = 151 ∧ O' = O ∧ ∀ i r, hereR O x = some i → O[i]? = some r → k < 0 ∨ (r.fs.length : Int) ≤ k) ∨
  (c = 0 ∧ ∃ i r fa fc, hereR O x = some i ∧ O[i]? = some r ∧ 0 ≤ k ∧ k < (r.fs.length : Int) ∧ O' = O.set i { r with fs := r.fs.set k.toNat v, fa := fa, fc := fc } ∧ ∀ b, fa = some ⟨b, 0, none⟩ → L ≤ b)
def SetOk (B0 : Nat) (wa ta ma : Option Addr) (wn wk tn tc mn mc : Nat) (sf st gf gt cf ct nx : Int) (w : World) (O : List RO) (x k v : Int) (e : Ending) (w' : World) : Prop :=
  ∃ oa oc O' c, e = .returned (.tuple #[.agg #[.slice wa wn wk, .slice ta tn tc, .slice ma mn mc, .int .i64 sf, .int .i64 st, .int .i64 gf, .int .i64 gt, .int .i64 cf, .int .i64 ct, .int .i64 nx, .slice oa O'.length oc], .int .i64 c]) ∧ OsAt B0 w' oa oc O' ∧ Fr [] w w' ∧ SetSpec w.heap.size O x k v O' c
theorem one_ws (l : List Int) : ∀ u ∈ l.map (Value.int .u64), u.oneCell' = true := by
  intro u hu
  obtain ⟨x, _, rfl⟩ := List.mem_map.1 hu
  rfl
theorem WsQ.of_own {B g c n : Nat} {ws : List Int} (h : w.ownsRow B 37 1 (.slice (some ⟨g, 0, none⟩) n c) n (ws.map (Value.int .u64))) (hn : n = ws.length) (hlo : B0 ≤ g) : WsQ B0 w (some ⟨g, 0, none⟩) c ws := by
  subst hn
  refine ⟨(own_cap h).1, (own_cap h).2, .inr ⟨g, rfl, own_lt h, hlo, fun i x hx => ?_⟩⟩
  exact own_cell h (by rw [List.getElem?_map, hx]; rfl)
set_option maxRecDepth 100000 in
set_option maxHeartbeats 4000000 in
theorem rset_c (w : World) (hB0 : B0 ≤ w.heap.size) (hO : OsAt B0 w oa oc O) (hn : O.length ≤ 1000) (ha : ∀ r, r ∈ O → r.a ≤ 1000000) (hfl : ∀ r, r ∈ O → r.fs.length ≤ 240) (x k v : Int) :
    Calls Try.prog 20 #[.agg #[.slice wa wn wk, .slice ta tn tc, .slice ma mn mc, .int .i64 sf, .int .i64 st, .int .i64 gf, .int .i64 gt, .int .i64 cf, .int .i64 ct, .int .i64 nx, .slice oa O.length oc], .int .u64 x, .int .i64 k, .int .u64 v] w (SetOk B0 wa ta ma wn wk tn tc mn mc sf st gf gt cf ct nx w O x k v) := by
  have HO := Lib.hid hO
  obtain ⟨n, hnl⟩ : ∃ n, n = O.length := ⟨_, rfl⟩
  have HN := Lib.hid hnl
  have hoc := hO.cp.1
  have hoc2 : oc ≤ 9223372036854775807 := by have := hO.cp.2; unfold maxLen at this; omega
  have CH := Lib.hid (fun (w1 : World) (hF : Fr [] w w1) => rhere_c (wa := wa) (wn := wn) (wk := wk) (ta := ta) (tn := tn) (tc := tc) (ma := ma) (mn := mn) (mc := mc) (sf := sf) (st := st) (gf := gf) (gt := gt) (cf := cf) (ct := ct) (nx := nx) w1 (hO.keep hF) hn ha x)
  have CW := Lib.hid (fun (w1 : World) (hF : Fr [] w w1) => rwith_c (wa := wa) (wn := wn) (wk := wk) (ta := ta) (tn := tn) (tc := tc) (ma := ma) (mn := mn) (mc := mc) (sf := sf) (st := st) (gf := gf) (gt := gt) (cf := cf) (ct := ct) (nx := nx) w1 (Nat.le_trans hB0 hF.size) (hO.keep hF) hn)
  have HB0 := Lib.hid hB0
  have HL := Lib.hid hfl
  rw [← hnl] at hn hoc CH CW ⊢
  obtain ⟨W2, hW2⟩ : ∃ W2, W2 = (w.alloc (.cells #[.slice wa wn wk, .slice ta tn tc, .slice ma mn mc, .int .i64 sf, .int .i64 st, .int .i64 gf, .int .i64 gt, .int .i64 cf, .int .i64 ct, .int .i64 nx, .slice oa n oc] 34)).alloc (.cells #[.slice none 0 0, .slice none 0 0, .slice none 0 0, .int .i64 0, .int .i64 0, .int .i64 0, .int .i64 0, .int .i64 0, .int .i64 0, .int .i64 0, .slice none 0 0] 34) := ⟨_, rfl⟩
  have P1 := Lib.hid (show blk W2 w.heap.size = some (.cells #[.slice wa wn wk, .slice ta tn tc, .slice ma mn mc, .int .i64 sf, .int .i64 st, .int .i64 gf, .int .i64 gt, .int .i64 cf, .int .i64 ct, .int .i64 nx, .slice oa n oc] 34 (0, 0)) by rw [hW2, blk_alloc, if_neg (by rw [size_alloc]; omega), blk_alloc, if_pos rfl])
  have R1 := Lib.hid (show blk W2 (w.heap.size + 1) = some (.cells #[.slice none 0 0, .slice none 0 0, .slice none 0 0, .int .i64 0, .int .i64 0, .int .i64 0, .int .i64 0, .int .i64 0, .int .i64 0, .int .i64 0, .slice none 0 0] 34 (0, 0)) by rw [hW2, blk_alloc, if_pos (by rw [size_alloc])])
  have F1 : Hid (Fr [] w W2) := Lib.hid (by rw [hW2]; exact ((Fr.refl _ _).alloc _).alloc _)
  obtain ⟨pb, hpb⟩ : ∃ pb, pb = w.heap.size := ⟨_, rfl⟩
  have HPB : Hid (pb = w.heap.size) := Lib.hid hpb
  rw [← hpb] at P1 R1
  clear hB0 hO hnl ha hfl
  go_enter Try.func20, Try.ntmps20
  go_upto_region 1 with fail
  rw [← hW2, ← hpb]
  clear hW2 hpb
  have p0 := cell_of P1.out (i := 0) rfl
  have p1 := cell_of P1.out (i := 1) rfl
  have p2 := cell_of P1.out (i := 2) rfl
  have p3 := cell_of P1.out (i := 3) rfl
  have p4 := cell_of P1.out (i := 4) rfl
  have p5 := cell_of P1.out (i := 5) rfl
  have p6 := cell_of P1.out (i := 6) rfl
  have p7 := cell_of P1.out (i := 7) rfl
  have p8 := cell_of P1.out (i := 8) rfl
  have p9 := cell_of P1.out (i := 9) rfl
  have p10 := cell_of P1.out (i := 10) rfl
  go_wp2_with fail
  refine (CH.out _ F1.out).mono ?_
  rintro e w3 ⟨rfl, F3⟩
  have P3 := Lib.hid (F3.at P1.out (by simp))
  have R3 := Lib.hid (F3.at R1.out (by simp))
  have F3 := Lib.hid (F1.out.same F3)
  have hl3 := lt_size R3.out
  have hl30 : pb < w3.heap.size := by omega
  have hne0 : pb ≠ w3.heap.size := by omega
  have hne1 : pb + 1 ≠ w3.heap.size := by omega
  have hps : w.heap.size ≤ pb := by rw [HPB.out]; exact Nat.le_refl _
  cases hf : hereR O x with
  | none =>
    have HS : Hid (SetSpec w.heap.size O x k v O 151) := Lib.hid (.inl ⟨rfl, rfl, fun i r hi => by rw [hf] at hi; simp at hi⟩)
    clear hf CH CW P1 R1
    clear p0 p1 p2 p3 p4 p5 p6 p7 p8 p9 p10
    have p0 := cell_of P3.out (i := 0) rfl
    have p1 := cell_of P3.out (i := 1) rfl
    have p2 := cell_of P3.out (i := 2) rfl
    have p3 := cell_of P3.out (i := 3) rfl
    have p4 := cell_of P3.out (i := 4) rfl
    have p5 := cell_of P3.out (i := 5) rfl
    have p6 := cell_of P3.out (i := 6) rfl
    have p7 := cell_of P3.out (i := 7) rfl
    have p8 := cell_of P3.out (i := 8) rfl
    have p9 := cell_of P3.out (i := 9) rfl
    have p10 := cell_of P3.out (i := 10) rfl
    have q0 := cell_of R3.out (i := 0) rfl
    have q1 := cell_of R3.out (i := 1) rfl
    have q2 := cell_of R3.out (i := 2) rfl
    have q3 := cell_of R3.out (i := 3) rfl
    have q4 := cell_of R3.out (i := 4) rfl
    have q5 := cell_of R3.out (i := 5) rfl
    have q6 := cell_of R3.out (i := 6) rfl
    have q7 := cell_of R3.out (i := 7) rfl
    have q8 := cell_of R3.out (i := 8) rfl
    have q9 := cell_of R3.out (i := 9) rfl
    have q10 := cell_of R3.out (i := 10) rfl
    have qf0 := free_of R3.out (i := 0)
    have qf1 := free_of R3.out (i := 1)
    have qf2 := free_of R3.out (i := 2)
    have qf3 := free_of R3.out (i := 3)
    have qf4 := free_of R3.out (i := 4)
    have qf5 := free_of R3.out (i := 5)
    have qf6 := free_of R3.out (i := 6)
    have qf7 := free_of R3.out (i := 7)
    have qf8 := free_of R3.out (i := 8)
    have qf9 := free_of R3.out (i := 9)
    have qf10 := free_of R3.out (i := 10)
    simp only [lastI]
    go_wp2
    refine bodyPost_ret (ret_st2 rfl _ _ _ _ rfl (blk11 R3.out) rfl size_heap15 und_heap15) rfl ?_
    rw [HN.out]
    exact ⟨oa, oc, O, 151, rfl, HO.out.keep (fr11 F3.out (.inr (by omega))), fr11 F3.out (.inr (by omega)), HS.out⟩
  | some i =>
    obtain ⟨r, hr, _, _⟩ := hereR_some hf
    have hi : i < n := by rw [HN.out]; rcases Nat.lt_or_ge i O.length with h | h; exact h; rw [List.getElem?_eq_none h] at hr; simp at hr
    have hws := (HO.out.keep F3.out).fs r (List.mem_of_getElem? hr)
    obtain ⟨b, hoa, hbl, d0, d1, d2, d3, d4⟩ := (HO.out.keep F3.out).at hr
    subst hoa
    have hlr := HL.out r (List.mem_of_getElem? hr)
    by_cases h0 : k < 0 ∨ (r.fs.length : Int) ≤ k
    · have HS : Hid (SetSpec w.heap.size O x k v O 151) := Lib.hid (.inl ⟨rfl, rfl, fun i' r' hi' hr' => by rw [hf] at hi'; simp only [Option.some.injEq] at hi'; subst hi'; rw [hr] at hr'; simp only [Option.some.injEq] at hr'; subst hr'; exact h0⟩)
      obtain ⟨ln, hln⟩ : ∃ ln, ln = r.fs.length := ⟨_, rfl⟩
      rw [← hln] at d4 h0
      clear hf CH CW P1 R1 hr hws hln hlr
      clear p0 p1 p2 p3 p4 p5 p6 p7 p8 p9 p10
      have p0 := cell_of P3.out (i := 0) rfl
      have p1 := cell_of P3.out (i := 1) rfl
      have p2 := cell_of P3.out (i := 2) rfl
      have p3 := cell_of P3.out (i := 3) rfl
      have p4 := cell_of P3.out (i := 4) rfl
      have p5 := cell_of P3.out (i := 5) rfl
      have p6 := cell_of P3.out (i := 6) rfl
      have p7 := cell_of P3.out (i := 7) rfl
      have p8 := cell_of P3.out (i := 8) rfl
      have p9 := cell_of P3.out (i := 9) rfl
      have p10 := cell_of P3.out (i := 10) rfl
      have q0 := cell_of R3.out (i := 0) rfl
      have q1 := cell_of R3.out (i := 1) rfl
      have q2 := cell_of R3.out (i := 2) rfl
      have q3 := cell_of R3.out (i := 3) rfl
      have q4 := cell_of R3.out (i := 4) rfl
      have q5 := cell_of R3.out (i := 5) rfl
      have q6 := cell_of R3.out (i := 6) rfl
      have q7 := cell_of R3.out (i := 7) rfl
      have q8 := cell_of R3.out (i := 8) rfl
      have q9 := cell_of R3.out (i := 9) rfl
      have q10 := cell_of R3.out (i := 10) rfl
      have qf0 := free_of R3.out (i := 0)
      have qf1 := free_of R3.out (i := 1)
      have qf2 := free_of R3.out (i := 2)
      have qf3 := free_of R3.out (i := 3)
      have qf4 := free_of R3.out (i := 4)
      have qf5 := free_of R3.out (i := 5)
      have qf6 := free_of R3.out (i := 6)
      have qf7 := free_of R3.out (i := 7)
      have qf8 := free_of R3.out (i := 8)
      have qf9 := free_of R3.out (i := 9)
      have qf10 := free_of R3.out (i := 10)
      simp only [lastI]
      by_cases h1 : k < 0
      · go_wp2
        refine bodyPost_ret (ret_st2 rfl _ _ _ _ rfl (blk11 R3.out) rfl size_heap15 und_heap15) rfl ?_
        rw [HN.out]
        exact ⟨_, oc, O, 151, rfl, HO.out.keep (fr11 F3.out (.inr (by omega))), fr11 F3.out (.inr (by omega)), HS.out⟩
      · have h2 : (ln : Int) ≤ k := by omega
        clear h0
        go_wp2
        refine bodyPost_ret (ret_st2 rfl _ _ _ _ rfl (blk11 R3.out) rfl size_heap15 und_heap15) rfl ?_
        rw [HN.out]
        exact ⟨_, oc, O, 151, rfl, HO.out.keep (fr11 F3.out (.inr (by omega))), fr11 F3.out (.inr (by omega)), HS.out⟩
    · obtain ⟨q, rfl⟩ : ∃ q : Nat, k = (q : Int) := ⟨k.toNat, by omega⟩
      have hq : q < r.fs.length := by omega
      clear h0
      have HS : Hid (∀ fa fc, (∀ b, fa = some ⟨b, 0, none⟩ → w.heap.size ≤ b) → SetSpec w.heap.size O x q v (O.set i { r with fs := r.fs.set q v, fa := fa, fc := fc }) 0) := Lib.hid (fun fa fc hl => .inr ⟨rfl, i, r, fa, fc, hf, hr, by omega, by omega, by rw [Int.toNat_natCast], hl⟩)
      obtain ⟨hw1, hw2, hw3⟩ := hws
      rcases hw3 with hw3 | ⟨fb, hfa, hfl, hflo, hfx⟩
      · rw [hw3] at hq; simp at hq
      obtain ⟨fs', hfs⟩ : ∃ fs', fs' = r.fs.set q v := ⟨_, rfl⟩
      rw [← hfs] at HS
      have hll : r.fs.length = fs'.length := by rw [hfs, List.length_set]
      have HNW := Lib.hid (fun (w1 : World) (hF : Fr [] w3 w1) (j : Nat) u (hu : (r.fs.map (Value.int .u64))[j]? = some u) => (show w1.cell? ((⟨fb, 0, none⟩ : Addr).add j) = some u by
        rw [List.getElem?_map] at hu
        cases hx : r.fs[j]? with
        | none => rw [hx] at hu; simp at hu
        | some y =>
          rw [hx] at hu
          simp only [Option.map_some, Option.some.injEq] at hu
          subst hu
          rw [Addr.add_lit, Nat.zero_add, ← hfx j y hx]
          exact World.cell?_of_block (w := w3) (hF.block fb hfl (by simp))))
      have HNL : Hid ((r.fs.map (Value.int .u64)).length = fs'.length * 1) := Lib.hid (by rw [List.length_map, hll, Nat.mul_one])
      have HSET : Hid ((r.fs.map (Value.int .u64)).set q (.int .u64 v) = fs'.map (Value.int .u64)) := Lib.hid (by rw [hfs, List.map_set])
      rw [hll] at d4 hq hw1 hlr
      rw [hfa] at d4
      have hfc : r.fc ≤ 9223372036854775807 := by unfold maxLen at hw2; exact hw2
      have ONE := Lib.hid (one_ws r.fs)
      have HRA : Hid (∀ fa fc, ({ r with fs := fs', fa := fa, fc := fc } : RO).fs = fs') := Lib.hid (fun _ _ => rfl)
      obtain ⟨i0, hii, hz0, hz1, hz2⟩ := info_parts info_word14
      have II := Lib.hid hii
      have Z0 := Lib.hid hz0
      have Z1 := Lib.hid hz1
      have Z2 := Lib.hid hz2
      clear hf CH P1 R1 hr hfs hll hw2 hflo hfx hii hz0 hz1 hz2 hfl
      clear p0 p1 p2 p3 p4 p5 p6 p7 p8 p9 p10
      have p0 := cell_of P3.out (i := 0) rfl
      have p1 := cell_of P3.out (i := 1) rfl
      have p2 := cell_of P3.out (i := 2) rfl
      have p3 := cell_of P3.out (i := 3) rfl
      have p4 := cell_of P3.out (i := 4) rfl
      have p5 := cell_of P3.out (i := 5) rfl
      have p6 := cell_of P3.out (i := 6) rfl
      have p7 := cell_of P3.out (i := 7) rfl
      have p8 := cell_of P3.out (i := 8) rfl
      have p9 := cell_of P3.out (i := 9) rfl
      have p10 := cell_of P3.out (i := 10) rfl
      have q0 := cell_of R3.out (i := 0) rfl
      have q1 := cell_of R3.out (i := 1) rfl
      have q2 := cell_of R3.out (i := 2) rfl
      have q3 := cell_of R3.out (i := 3) rfl
      have q4 := cell_of R3.out (i := 4) rfl
      have q5 := cell_of R3.out (i := 5) rfl
      have q6 := cell_of R3.out (i := 6) rfl
      have q7 := cell_of R3.out (i := 7) rfl
      have q8 := cell_of R3.out (i := 8) rfl
      have q9 := cell_of R3.out (i := 9) rfl
      have q10 := cell_of R3.out (i := 10) rfl
      have qf0 := free_of R3.out (i := 0)
      have qf1 := free_of R3.out (i := 1)
      have qf2 := free_of R3.out (i := 2)
      have qf3 := free_of R3.out (i := 3)
      have qf4 := free_of R3.out (i := 4)
      have qf5 := free_of R3.out (i := 5)
      have qf6 := free_of R3.out (i := 6)
      have qf7 := free_of R3.out (i := 7)
      have qf8 := free_of R3.out (i := 8)
      have qf9 := free_of R3.out (i := 9)
      have qf10 := free_of R3.out (i := 10)
      simp only [lastI]
      go_upto_region 5 with fail
      obtain ⟨W4, hW4⟩ : ∃ W4, W4 = w3.alloc (.cells #[.int .i64 (r.a : Int), .int .i64 r.kind, .int .i64 r.pins, .int .i64 r.dst, .slice (some ⟨fb, 0, none⟩) fs'.length r.fc] 122) := ⟨_, rfl⟩
      have B4 := Lib.hid (show blk W4 w3.heap.size = some (.cells #[.int .i64 (r.a : Int), .int .i64 r.kind, .int .i64 r.pins, .int .i64 r.dst, .slice (some ⟨fb, 0, none⟩) fs'.length r.fc] 122 (0, 0)) by rw [hW4, blk_alloc, if_pos rfl])
      have F4 : Hid (Fr [] w3 W4) := Lib.hid (by rw [hW4]; exact (Fr.refl _ _).alloc _)
      rw [← hW4]
      have hob2 := lt_size B4.out
      have hob3 : w3.heap.size ≠ W4.heap.size := by omega
      have P4 := Lib.hid (F4.out.at P3.out (by simp))
      have hpb4 : pb ≠ W4.heap.size := by omega
      have hpb5 : pb < W4.heap.size := by omega
      clear hW4
      clear p0 p1 p2 p3 p4 p5 p6 p7 p8 p9 p10 q0 q1 q2 q3 q4 q5 q6 q7 q8 q9 q10 qf0 qf1 qf2 qf3 qf4 qf5 qf6 qf7 qf8 qf9 qf10
      have o4 := cell_of B4.out (i := 4) rfl
      have OW : Hid ((W4.alloc (.cells #[] 37)).ownsRow W4.heap.size 37 1 (.slice (some ⟨W4.heap.size, 0, none⟩) 0 0) 0 []) := Lib.hid (own_mk (cur := #[]) (by rw [blk_alloc, if_pos rfl]) (Nat.le_refl _) (Nat.le_refl _) (Nat.zero_le _) rfl rfl)
      have F5 := Lib.hid ((Fr.refl [] W4).alloc (.cells #[] 37))
      go_upto_region 6 with (at_builtin; refine wpList_app _ rfl _ _ _ rfl W4.heap.size 37 i0 (.int .u64 0) 1 8 Try.underlying26 II.out Z0.out Z1.out Z2.out rfl (by decide) W4.heap.size 0 0 [] rfl OW.out ⟨fb, 0, none⟩ fs'.length r.fc (r.fs.map (Value.int .u64)) rfl HNL.out (HNW.out _ (F4.out.same F5.out)) ONE.out (by unfold maxLen; omega) (by omega) F5.out.size ?_; intro g1 c1 w5 own5 fr5 at5; rw [Nat.zero_add, List.nil_append] at own5; rw [Nat.zero_add]; have OW5 := Lib.hid own5; have F6 := Lib.hid (F5.out.trans fr5 (fun x hx => .inr (by simp only [List.mem_singleton] at hx; omega))); clear own5 fr5 at5 OW F5)
      have hgb := own_base OW5.out
      have hgl := own_lt OW5.out
      have hg0 : g1 ≠ pb := by omega
      have hg1 : g1 ≠ w3.heap.size := by omega
      have hc1 := (own_cap OW5.out).1
      obtain ⟨y, hy⟩ : ∃ y, (r.fs.map (Value.int .u64))[q]? = some y := by
        refine ⟨_, List.getElem?_eq_getElem ?_⟩
        rw [HNL.out]; omega
      have e1 := own_cell OW5.out hy
      have ef := own_free OW5.out q
      clear hy o4
      go_upto_region 7 with fail
      obtain ⟨W6, hW6⟩ : ∃ W6, W6 = w5.setCell ⟨g1, q, none⟩ (.int .u64 v) := ⟨_, rfl⟩
      have OW6 := Lib.hid (show W6.ownsRow W4.heap.size 37 1 (.slice (some ⟨g1, 0, none⟩) fs'.length c1) fs'.length (fs'.map (Value.int .u64)) by rw [hW6, ← HSET.out]; exact own_set OW5.out _ _)
      have F7 := Lib.hid (show Fr [] W4 W6 by rw [hW6]; exact F6.out.setCell (.inr hgb) _)
      rw [← hW6]
      have B6 := Lib.hid (F7.out.at B4.out (by simp))
      clear hW6 OW5 F6 e1 ef HSET HNL HNW ONE
      have o4 := cell_of B6.out (i := 4) rfl
      have of4 := free_of B6.out (i := 4)
      go_upto_region 8 with fail
      obtain ⟨W7, hW7⟩ : ∃ W7, W7 = W6.setCell ⟨w3.heap.size, 4, none⟩ (.slice (some ⟨g1, 0, none⟩) fs'.length c1) := ⟨_, rfl⟩
      have OW7 := Lib.hid (show W7.ownsRow W4.heap.size 37 1 (.slice (some ⟨g1, 0, none⟩) fs'.length c1) fs'.length (fs'.map (Value.int .u64)) by rw [hW7]; exact own_fr OW6.out ((Fr.refl [w3.heap.size] W6).setCell (.inl (by simp)) _) (by simp [Value.ownBlock]; omega))
      have F8 := Lib.hid (show Fr [] w3 W7 by rw [hW7]; exact (F4.out.same F7.out).setCell (.inr (Nat.le_refl _)) _)
      have B7 := Lib.hid (show blk W7 w3.heap.size = some (.cells #[.int .i64 (r.a : Int), .int .i64 r.kind, .int .i64 r.pins, .int .i64 r.dst, .slice (some ⟨g1, 0, none⟩) fs'.length c1] 122 (0, 0)) by rw [hW7, blk_set, if_pos rfl, B6.out]; rfl)
      rw [← hW7]
      clear hW7 OW6 F7 B6 o4 of4 B4 F4
      have P7 := Lib.hid (F8.out.at P3.out (by simp))
      have R7 := Lib.hid (F8.out.at R3.out (by simp))
      have p0 := cell_of P7.out (i := 0) rfl
      have p1 := cell_of P7.out (i := 1) rfl
      have p2 := cell_of P7.out (i := 2) rfl
      have p3 := cell_of P7.out (i := 3) rfl
      have p4 := cell_of P7.out (i := 4) rfl
      have p5 := cell_of P7.out (i := 5) rfl
      have p6 := cell_of P7.out (i := 6) rfl
      have p7 := cell_of P7.out (i := 7) rfl
      have p8 := cell_of P7.out (i := 8) rfl
      have p9 := cell_of P7.out (i := 9) rfl
      have p10 := cell_of P7.out (i := 10) rfl
      have o0 := cell_of B7.out (i := 0) rfl
      have o1 := cell_of B7.out (i := 1) rfl
      have o2 := cell_of B7.out (i := 2) rfl
      have o3 := cell_of B7.out (i := 3) rfl
      have o4 := cell_of B7.out (i := 4) rfl
      have LG : Hid (∀ b, (some ⟨g1, 0, none⟩ : Option Addr) = some ⟨b, 0, none⟩ → w.heap.size ≤ b) := Lib.hid (fun b he => by simp only [Option.some.injEq, Addr.mk.injEq, and_true] at he; omega)
      have WS := Lib.hid (WsQ.of_own (B0 := B0) OW7.out rfl (by have := HB0.out; omega))
      go_wp2_with fail
      refine (CW.out _ (F3.out.same F8.out) i hi { r with fs := fs', fa := some ⟨g1, 0, none⟩, fc := c1 } WS.out).mono ?_
      rintro e w9 ⟨g, c, rfl, O9, F9⟩
      have R9 := Lib.hid (F9.at R7.out (by simp))
      have F9 := Lib.hid ((F3.out.same F8.out).same F9)
      have O9 := Lib.hid O9
      have HS9 := Lib.hid (HS.out (some ⟨g1, 0, none⟩) c1 LG.out)
      clear p0 p1 p2 p3 p4 p5 p6 p7 p8 p9 p10
      have q0 := cell_of R9.out (i := 0) rfl
      have q1 := cell_of R9.out (i := 1) rfl
      have q2 := cell_of R9.out (i := 2) rfl
      have q3 := cell_of R9.out (i := 3) rfl
      have q4 := cell_of R9.out (i := 4) rfl
      have q5 := cell_of R9.out (i := 5) rfl
      have q6 := cell_of R9.out (i := 6) rfl
      have q7 := cell_of R9.out (i := 7) rfl
      have q8 := cell_of R9.out (i := 8) rfl
      have q9 := cell_of R9.out (i := 9) rfl
      have q10 := cell_of R9.out (i := 10) rfl
      have qf0 := free_of R9.out (i := 0)
      have qf1 := free_of R9.out (i := 1)
      have qf2 := free_of R9.out (i := 2)
      have qf3 := free_of R9.out (i := 3)
      have qf4 := free_of R9.out (i := 4)
      have qf5 := free_of R9.out (i := 5)
      have qf6 := free_of R9.out (i := 6)
      have qf7 := free_of R9.out (i := 7)
      have qf8 := free_of R9.out (i := 8)
      have qf9 := free_of R9.out (i := 9)
      have qf10 := free_of R9.out (i := 10)
      go_wp2
      refine bodyPost_ret (ret_st2 rfl _ _ _ _ rfl (blk11 R9.out) rfl size_heap15 und_heap15) rfl ?_
      refine ⟨_, c, O.set i { r with fs := fs', fa := some ⟨g1, 0, none⟩, fc := c1 }, 0, by rw [List.length_set]; rfl, ?_, fr11 F9.out (.inr (by omega)), HS9.out⟩
      exact O9.out.box (fr11 (Fr.refl [pb + 1] w9) (.inl (by simp))) q0
end Go.Proofs.Ytjgndfhfiekomaa
