/- Collecting: the chapter's example. -/
import Derived.Test.YtjgndfhfiekomaaColX
set_option linter.all false
namespace Go.Proofs.Ytjgndfhfiekomaa
open Go.ChangeShapes Go.WideShapes Go.RowKit Go.Maps
variable {w w' : World} {hb b wb lb : Nat} {A : Ar} {m N : Nat} {G K : List Bool} {D : Nat → Option Ob}
/-- One row of two words at its block. -/
def row2 (g : Nat) (x y : Int) : Rw := ⟨g, 2, 0, 2, some ⟨g, 0, none⟩, [x, y]⟩
theorem row2_in {g : Nat} {x y u v : Int} (h : blk w g = some (.cells #[.int .u64 u, .int .u64 v] 37 (0, 0))) : RowsIn w [row2 g x y] [[u, v]] := by
  refine ⟨rfl, ?_⟩
  intro i r l hr hl
  match i with
  | 0 =>
    simp only [List.getElem?_cons_zero, Option.some.injEq] at hr hl
    subst hr hl
    refine ⟨rfl, .inr ⟨rfl, _, h, rfl, ?_⟩⟩
    intro j hj
    match j, hj with
    | 0, _ => rfl
    | 1, _ => rfl
  | i + 1 => simp at hr
theorem row2_arg {g g2 : Nat} {x y : Int} (h : blk w g2 = some (.cells #[.slice (some ⟨g, 0, none⟩) 2 2] 26 (0, 0))) (hg : g < w.heap.size) (hne : g2 ≠ g) (h1 : g ∉ [hb, b, wb, lb]) (h2 : g2 ∉ [hb, b, wb, lb]) :
    RowsArg w hb b wb lb (.slice (some ⟨g2, 0, none⟩) 1 1) [row2 g x y] := by
  refine ⟨⟨_, 1, rfl⟩, ?_, ?_, ?_, by simp, ?_⟩
  · intro i r hr
    match i with
    | 0 =>
      simp only [List.getElem?_cons_zero, Option.some.injEq] at hr
      subst hr
      exact ⟨g2, 0, 1, rfl, cell_of h rfl, h2, by simp [row2]; exact hne⟩
    | i + 1 => simp at hr
  · intro r hr
    simp only [List.mem_singleton] at hr
    subst hr
    exact ⟨hg, h1⟩
  · intro i j r s hij hr hs
    match i, j with
    | 0, 0 => exact absurd rfl hij
    | 0, j + 1 => simp at hs
    | i + 1, _ => simp at hr
  · intro r hr
    simp only [List.mem_singleton] at hr
    subst hr
    simp [row2]
theorem row2_cells {g : Nat} {x y u v : Int} (h : RowsIn w [row2 g x y] [[u, v]]) : w.cell? ⟨g, 0, none⟩ = some (.int .u64 u) ∧ w.cell? ⟨g, 1, none⟩ = some (.int .u64 v) ∧ (∀ i, w.frozen? ⟨g, i, none⟩ = false) := by
  obtain ⟨_, h⟩ := h
  have h0 := h 0 _ _ rfl rfl
  have h1 := h0.cell (j := 0) (by simp [row2])
  have h2 := h0.cell (j := 1) (by simp [row2])
  refine ⟨h1.2.1, h2.2.1, ?_⟩
  obtain ⟨_, h3⟩ := h0
  rcases h3 with h3 | ⟨_, arr, h3, _⟩
  · simp [row2] at h3
  · exact fun i => free_of h3
theorem row2_set {g : Nat} {x y u v : Int} (h : RowsIn w [row2 g x y] [[u, v]]) (z : Int) : RowsIn (w.setCell ⟨g, 0, none⟩ (.int .u64 z)) [row2 g x y] [[z, v]] := by
  have := h.store (i := 0) (r := row2 g x y) (l := [u, v]) (j := 0) (fun i j r s hij hr hs => by
    match i, j with
    | 0, 0 => exact absurd rfl hij
    | 0, j + 1 => simp at hs
    | i + 1, _ => simp at hr) rfl rfl (by simp [row2]) z
  simpa [row2] using this
theorem row_same {C : Nat → Option Ob} {ms : List Nat} {l l' : List Int} (h : Rel2 (Tx D C ms) l l') (hn : ∀ x, x ∈ l → x % 8 ≠ 1) : l' = l := by
  apply List.ext_getElem h.1
  intro i h1 h2
  have := (h.2 i h2).non (by rw [List.getElem?_eq_getElem h2, Option.getD_some]; exact hn _ (List.getElem_mem h2))
  rwa [List.getElem?_eq_getElem h1, List.getElem?_eq_getElem h2, Option.getD_some, Option.getD_some] at this
theorem rows_same {cl : Int → Int} {ls ls' : List (List Int)} {T : Tr} {C : Nat → Option Ob} {ms : List Nat} (h : After D m cl ls ls' T G K C ms) (hn : ∀ l, l ∈ ls → ∀ x, x ∈ l → x % 8 ≠ 1) : ls' = ls := by
  apply List.ext_getElem h.rl
  intro i h1 h2
  have := row_same (h.rt i h2) (by rw [List.getElem?_eq_getElem h2, Option.getD_some]; exact hn _ (List.getElem_mem h2))
  rwa [List.getElem?_eq_getElem h1, List.getElem?_eq_getElem h2, Option.getD_some, Option.getD_some] at this
set_option maxRecDepth 100000 in
set_option maxHeartbeats 4000000 in
theorem collectAlive_c (w : World) : Calls Try.prog 37 #[] w fun e w' => e = .returned (.bool true) ∧ Fr [] w w' := by
  have e1 : Hid ((makeF (Ar.new 3) 3 0 2).2 = some 1) := Lib.hid (by decide +kernel)
  have e2 : Hid ((makeF cx1 3 0 2).2 = some 25) := Lib.hid (by decide +kernel)
  have e3 : Hid ((setF cx2 3 1 0 25).2 = 0) := Lib.hid (by decide +kernel)
  have e4 : Hid ((setF cx3 3 25 0 1).2 = 0) := Lib.hid (by decide +kernel)
  have e5 : Hid ((setF cx4 3 25 1 64).2 = 0) := Lib.hid (by decide +kernel)
  have o0 : Hid ((Ar.new 3).Ok 3) := Lib.hid (Ar.new_ok 3 (by omega) (by omega))
  have o1 : Hid (cx1.Ok 3) := Lib.hid (makeF_ok o0.out _ _)
  have o2 : Hid (cx2.Ok 3) := Lib.hid (makeF_ok o1.out _ _)
  have o3 : Hid (cx3.Ok 3) := Lib.hid (setF_ok o2.out _ _ _)
  have o4 : Hid (cx4.Ok 3) := Lib.hid (setF_ok o3.out _ _ _)
  have d2 : Hid cx2.Wd := Lib.hid (wd_of (by decide +kernel))
  have d3 : Hid cx3.Wd := Lib.hid (wd_of (by decide +kernel))
  have d4 : Hid cx4.Wd := Lib.hid (wd_of (by decide +kernel))
  go_enter Try.func37, Try.ntmps37
  go_wp2_with fail
  refine (onew_c _ _).mono ?_
  rintro e w0 ⟨hb, b, wb, lb, rfl, H0, F0, q0, q1, q2, q3⟩
  have H0 : Hid (HeAt w0 hb b wb lb (Ar.new 3)) := Lib.hid H0
  go_wp2_with fail
  refine (omake_c _ H0.out o0.out 0 2).mono ?_
  rintro e w1 ⟨rfl, H1, F1⟩
  rw [e1.out]; simp only [wordVal]
  have H1 : Hid (HeAt w1 hb b wb lb cx1) := Lib.hid H1
  go_wp2_with fail
  refine (omake_c _ H1.out o1.out 0 2).mono ?_
  rintro e w2 ⟨rfl, H2, F2⟩
  rw [e2.out]; simp only [wordVal]
  have H2 : Hid (HeAt w2 hb b wb lb cx2) := Lib.hid H2
  go_wp2_with fail
  refine (oset_c _ H2.out o2.out d2.out 1 0 25 (by omega) (by omega) (by omega)).mono ?_
  rintro e w3 ⟨rfl, H3, F3⟩
  rw [e3.out]
  have H3 : Hid (HeAt w3 hb b wb lb cx3) := Lib.hid H3
  go_wp2_with fail
  refine (oset_c _ H3.out o3.out d3.out 25 0 1 (by omega) (by omega) (by omega)).mono ?_
  rintro e w4 ⟨rfl, H4, F4⟩
  rw [e4.out]
  have H4 : Hid (HeAt w4 hb b wb lb cx4) := Lib.hid H4
  go_wp2_with fail
  refine (oset_c _ H4.out o4.out d4.out 25 1 64 (by omega) (by omega) (by omega)).mono ?_
  rintro e w5 ⟨rfl, H5, F5⟩
  rw [e5.out]
  have H5 : Hid (HeAt w5 hb b wb lb cx5) := Lib.hid H5
  have FW : Hid (Fr [] w w5) := Lib.hid (((((F0.trans F1 (by simp; omega)).trans F2 (by simp; omega)).trans F3 (by simp; omega)).trans F4 (by simp; omega)).trans F5 (by simp; omega))
  have LT : Hid (hb < w5.heap.size ∧ b < w5.heap.size ∧ wb < w5.heap.size ∧ lb < w5.heap.size ∧ w.heap.size ≤ hb ∧ w.heap.size ≤ b ∧ w.heap.size ≤ wb ∧ w.heap.size ≤ lb) := Lib.hid ⟨lt_size H5.out.p, lt_size H5.out.ar.hb, lt_size H5.out.ar.hw, lt_size H5.out.ar.hl, q0, q1, q2, q3⟩
  clear F0 F1 F2 F3 F4 F5 H0 H1 H2 H3 H4 e1 e2 e3 e4 e5 o0 o1 o2 o3 o4 d2 d3 d4 q0 q1 q2 q3
  obtain ⟨un5, G5, hg5⟩ := cx_hg
  have FA : Fr [] w5 ((w5.alloc (.cells #[.int .u64 25, .int .u64 8] 37)).alloc (.cells #[.slice (some ⟨w5.heap.size, 0, none⟩) 2 2] 26)) := ((Fr.refl _ _).alloc _).alloc _
  have Bg : blk ((w5.alloc (.cells #[.int .u64 25, .int .u64 8] 37)).alloc (.cells #[.slice (some ⟨w5.heap.size, 0, none⟩) 2 2] 26)) w5.heap.size = some (.cells #[.int .u64 25, .int .u64 8] 37 (0, 0)) := by
    rw [blk_alloc, if_neg (by simp only [size_alloc]; omega), blk_alloc, if_pos rfl]
  have Bg2 : blk ((w5.alloc (.cells #[.int .u64 25, .int .u64 8] 37)).alloc (.cells #[.slice (some ⟨w5.heap.size, 0, none⟩) 2 2] 26)) (w5.heap.size + 1) = some (.cells #[.slice (some ⟨w5.heap.size, 0, none⟩) 2 2] 26 (0, 0)) := by
    rw [blk_alloc, if_pos (by simp only [size_alloc])]
  have NG : Hid ((w5.heap.size ∉ [hb, b, wb, lb]) ∧ w5.heap.size + 1 ∉ [hb, b, wb, lb]) := Lib.hid (by
    obtain ⟨l1, l2, l3, l4, _⟩ := LT.out
    simp only [List.mem_cons, List.not_mem_nil, or_false, not_or]
    omega)
  have ARG := row2_arg (x := 25) (y := 8) Bg2 (lt_size Bg) (by omega) NG.out.1 NG.out.2
  have R1 := Lib.hid (run_law (H5.out.keep FA) hg5 un5 cxD_bd (by omega) cx_closed _ _ _ ARG (row2_in Bg) (fun l hl x hx => by
    simp only [List.mem_singleton] at hl
    subst hl
    simp only [List.mem_cons, List.not_mem_nil, or_false] at hx
    rcases hx with rfl | rfl
    · exact .inr ⟨1, _, rfl, rfl⟩
    · exact .inl (by decide)) (fun l hl x hx => by
    simp only [List.mem_singleton] at hl
    subst hl
    simp only [List.mem_cons, List.not_mem_nil, or_false] at hx
    rcases hx with rfl | rfl <;> omega) 5 1)
  have BG := Lib.hid (And.intro Bg Bg2)
  have SA : Hid (((w5.alloc (.cells #[.int .u64 25, .int .u64 8] 37)).alloc (.cells #[.slice (some ⟨w5.heap.size, 0, none⟩) 2 2] 26)).heap.size = w5.heap.size + 2) := Lib.hid (by simp only [size_alloc])
  have FWA : Hid (Fr [] w ((w5.alloc (.cells #[.int .u64 25, .int .u64 8] 37)).alloc (.cells #[.slice (some ⟨w5.heap.size, 0, none⟩) 2 2] 26))) := Lib.hid ((FW.out.alloc _).alloc _)
  clear Bg Bg2 ARG FA hg5 un5 H5 FW
  go_wp2_with fail
  refine R1.out.mono ?_
  rintro e w6 ⟨cl, T, ls', G6, K6, C, ms, AF, _, rfl, H6, R6, F6⟩
  clear R1
  obtain ⟨hlv, y, hls, y0, y1, hgy⟩ := cx_after AF
  subst hls
  obtain ⟨c0, c1, f0⟩ := row2_cells R6
  have G2N : Hid (w5.heap.size + 1 ∉ (b :: wb :: lb :: [row2 w5.heap.size 25 8].map Rw.g)) := Lib.hid (by
    have := NG.out.2
    simp only [List.mem_cons, List.not_mem_nil, or_false, not_or, List.map_cons, List.map_nil, row2] at this ⊢
    omega)
  have Q6 := Lib.hid (F6.at BG.out.2 G2N.out)
  have k0 : w6.cell? ⟨w5.heap.size + 1, 0, none⟩ = some (.slice (some ⟨w5.heap.size, 0, none⟩) 2 2) := cell_of Q6.out rfl
  have S6 : Hid (w5.heap.size + 2 ≤ w6.heap.size) := Lib.hid (by have := F6.size; rw [SA.out] at this; exact this)
  have F6 : Hid (Fr [] w w6) := Lib.hid (FWA.out.trans F6 (fun x hx => by
    obtain ⟨l1, l2, l3, l4, l5, l6, l7, l8⟩ := LT.out
    simp only [List.mem_cons, List.not_mem_nil, or_false, List.map_cons, List.map_nil, row2] at hx
    omega))
  have AF := Lib.hid AF
  have H6 := Lib.hid H6
  have R6 := Lib.hid R6
  have hz0 : w5.heap.size < w6.heap.size := by have := S6.out; omega
  have hz1 : w5.heap.size + 1 < w6.heap.size := by have := S6.out; omega
  have hn0 : w5.heap.size ≠ w6.heap.size := by omega
  have hn1 : w5.heap.size + 1 ≠ w6.heap.size := by omega
  have CG := Lib.hid (fun w7 (hF : Fr [] w6 w7) => oget_c w7 (H6.out.keep hF) AF.out.hg.inv.ok AF.out.hg.wd y 1 y0 y1 (by omega))
  rw [hgy] at CG
  rw [hlv]
  clear hgy FWA SA BG hlv
  go_wp2_with fail
  refine (CG.out _ ((Fr.refl _ _).alloc _)).mono ?_
  rintro e w7 ⟨rfl, F7⟩
  clear CG k0 c0 c1 f0
  have F67 : Fr [] w6 w7 := ((Fr.refl _ _).alloc _).same F7
  have R7 := R6.out.keep fun r hr o ho => F67.at ho (by simp)
  obtain ⟨c0, c1, f0⟩ := row2_cells R7
  have Q7 := F67.at Q6.out (by simp)
  have k0 : w7.cell? ⟨w5.heap.size + 1, 0, none⟩ = some (.slice (some ⟨w5.heap.size, 0, none⟩) 2 2) := cell_of Q7 rfl
  have P7 := Lib.hid (F7.at (k := w6.heap.size) (by rw [blk_alloc, if_pos rfl]) (by simp))
  have FB0 : Fr [w5.heap.size] w7 (w7.setCell ⟨w5.heap.size, 0, none⟩ (.int .u64 0)) := (Fr.refl _ _).setCell (by simp) _
  have RB := row2_set R7 0
  have BB := FB0.at Q7 (by simp)
  have HB := Lib.hid ((H6.out.keep F67).fr FB0 (by have := NG.out.1; simp only [List.mem_cons, List.not_mem_nil, or_false, not_or] at this ⊢; omega) (by have := NG.out.1; simp only [List.mem_cons, List.not_mem_nil, or_false, not_or] at this ⊢; omega) (by have := NG.out.1; simp only [List.mem_cons, List.not_mem_nil, or_false, not_or] at this ⊢; omega) (by have := NG.out.1; simp only [List.mem_cons, List.not_mem_nil, or_false, not_or] at this ⊢; omega))
  have S7 := F67.size
  have ARG := row2_arg (hb := hb) (b := b) (wb := wb) (lb := lb) (x := 25) (y := 8) BB (by rw [size_set]; omega) (by omega) NG.out.1 NG.out.2
  have R2 := Lib.hid (run_law HB.out AF.out.hg AF.out.mr (AF.out.bd cxD_bd) (by omega) AF.out.closed _ _ _ ARG RB (fun l hl x hx => by
    simp only [List.mem_singleton] at hl
    subst hl
    simp only [List.mem_cons, List.not_mem_nil, or_false] at hx
    rcases hx with rfl | rfl
    · exact .inl (by decide)
    · exact .inl (by decide)) (fun l hl x hx => by
    simp only [List.mem_singleton] at hl
    subst hl
    simp only [List.mem_cons, List.not_mem_nil, or_false] at hx
    rcases hx with rfl | rfl <;> omega) 0 0)
  have Q8 := Lib.hid BB
  have P8 := Lib.hid (FB0.at P7.out (by simp; omega))
  have S8 : Hid (w6.heap.size < (w7.setCell ⟨w5.heap.size, 0, none⟩ (.int .u64 0)).heap.size) := Lib.hid (by have := F7.size; rw [size_alloc] at this; rw [size_set]; omega)
  have F9 : Hid (Fr [] w (w7.setCell ⟨w5.heap.size, 0, none⟩ (.int .u64 0))) := Lib.hid ((F6.out.same F67).trans FB0 (fun x hx => by
    obtain ⟨l1, l2, l3, l4, l5, l6, l7, l8⟩ := LT.out
    simp only [List.mem_singleton] at hx
    omega))
  clear F67 R7 Q7 P7 FB0 RB BB HB ARG H6 R6 Q6 F6 F7 AF
  go_wp2_with fail
  refine R2.out.mono ?_
  rintro e w8 ⟨cl2, T2, ls2, G7, K7, C2, ms2, AF2, _, rfl, H8, R8, F8⟩
  have hnon : ∀ l, l ∈ [[(0 : Int), 8]] → ∀ x, x ∈ l → x % 8 ≠ 1 := fun l hl x hx => by
    simp only [List.mem_singleton] at hl
    subst hl
    simp only [List.mem_cons, List.not_mem_nil, or_false] at hx
    rcases hx with rfl | rfl <;> decide
  have hls2 := rows_same AF2 hnon
  subst hls2
  obtain ⟨_, hl2, hm2, he2⟩ := AF2.none hnon
  rw [hl2, hm2, he2]
  obtain ⟨c0', c1', f0'⟩ := row2_cells R8
  have P9 := F8.at P8.out (by
    obtain ⟨l1, l2, l3, l4, l5, l6, l7, l8⟩ := LT.out
    simp only [List.mem_cons, List.not_mem_nil, or_false, List.map_cons, List.map_nil, row2, not_or]
    omega)
  have k0' : w8.cell? ⟨w5.heap.size + 1, 0, none⟩ = some (.slice (some ⟨w5.heap.size, 0, none⟩) 2 2) := cell_of (F8.at Q8.out G2N.out) rfl
  have r0 : w8.cell? ⟨w6.heap.size, 0, none⟩ = some (.int .i64 2) := cell_of P9 rfl
  have S9 := F8.size
  have S8' := S8.out
  have FF : Hid (Fr [] w w8) := Lib.hid (F9.out.trans F8 (fun x hx => by
    obtain ⟨l1, l2, l3, l4, l5, l6, l7, l8⟩ := LT.out
    simp only [List.mem_cons, List.not_mem_nil, or_false, List.map_cons, List.map_nil, row2] at hx
    omega))
  have z1 : w5.heap.size + 1 < w8.heap.size := by omega
  have z2 : w5.heap.size < w8.heap.size := by omega
  have z3 : w6.heap.size < w8.heap.size := by omega
  have z4 : w5.heap.size + 1 ≠ w8.heap.size := by omega
  have z5 : w5.heap.size ≠ w8.heap.size := by omega
  have z6 : w6.heap.size ≠ w8.heap.size := by omega
  clear AF2 R8 H8 F8 P9 P8 Q8 F9 S9 S8 S8' S7 hl2 hm2 he2 hnon R2 c0 c1 f0 k0 S6 G2N NG LT
  go_wp2
  go_ret
  refine ⟨rfl, ?_⟩
  repeat (first | exact FF.out | apply Fr.alloc | apply Fr.drew)
end Go.Proofs.Ytjgndfhfiekomaa
