/- A collection of the law's world tells what it should. -/
import Derived.Test.YtjgndfhfiekomaaZP
import Derived.Test.YtjgndfhfiekomaaZH
import Derived.Deep.AppendLies
import Derived.Deep.DeepCutAuto
import Derived.Deep.RegionHeld3
set_option linter.all false
namespace Go.Proofs.Ytjgndfhfiekomaa
open Go.ChangeShapes Go.WideShapes Go.RowKit
variable {w0 w w' : World} {c : Yk} {A A' : Ar} {S : Ys} {ex : List RV} {m : Nat} {G K : List Bool} {D C : Nat → Option Ob} {ms : List Nat} {cl : Int → Int} {T : Tr}
def ColOk (w0 : World) (c : Yk) (ex : List RV) (m : Nat) (S : Ys) (e : Ending) (w' : World) : Prop :=
  ∃ (A : Ar) (R : List Int) (G K : List Bool) (D : Nat → Option Ob), e = .returned (.bool true) ∧ YAt w0 w' c A { S with roots := R } ex ∧ YI m A { S with roots := R } G K D
structure RunK (w0 : World) (c : Yk) (ex : List RV) (m : Nat) (S : Ys) (D : Nat → Option Ob) (p0 p1 : Int) (px g : Nat) (wx : World) (cl : Int → Int) (T : Tr) (R : List Int) (ls' : List (List Int)) (G K : List Bool) (C : Nat → Option Ob) (ms : List Nat) : Prop where
  af : After D m cl [S.roots.take 3, S.roots.drop 3] ls' T G K C ms
  pz : p0 ≤ 0 ∨ p1 ≤ 0 → T.moved = 0
  y : YAt w0 wx c T.A.sweep { S with roots := R } ex
  r8 : R.length = 8
  tx : ∀ j : Nat, j < 8 → Tx D C ms (S.roots[j]?.getD 0) (R[j]?.getD 0)
  pb : blk wx px = some (.cells #[.int .i64 p0, .int .i64 p1] 72 (0, 0))
  ws : ∀ j : Nat, j < 8 → wx.cell? ⟨g, j, none⟩ = some (.int .u64 (S.roots[j]?.getD 0))
def ColCut (w0 : World) (c : Yk) (ex : List RV) (m : Nat) (S : Ys) (D : Nat → Option Ob) (p0 p1 : Int) (px g : Nat) (s6 : Value) (wx : World) : Prop :=
  ∃ (rx : Nat) (cl : Int → Int) (T : Tr) (R : List Int) (ls' : List (List Int)) (G K : List Bool) (C : Nat → Option Ob) (ms : List Nat), s6 = .pointer (some ⟨rx, 0, none⟩) ∧
    blk wx rx = some (.cells #[.int .i64 T.live, .int .i64 T.moved, .int .i64 (emptyIn T.A.sweep.lines m)] 69 (0, 0)) ∧ RunK w0 c ex m S D p0 p1 px g wx cl T R ls' G K C ms
theorem blk_a1 (w : World) (o : Obj) : blk (w.alloc o) w.heap.size = some o := by rw [blk_alloc, if_pos rfl]
theorem blk_a2 (w : World) (o p : Obj) : blk ((w.alloc o).alloc p) w.heap.size = some o := by rw [blk_alloc, if_neg (by rw [size_alloc]; omega), blk_alloc, if_pos rfl]
theorem blk_a3 (w : World) (o p : Obj) : blk ((w.alloc o).alloc p) (w.heap.size + 1) = some p := by rw [blk_alloc, if_pos (by rw [size_alloc])]
theorem rep_cells {L : List Nat} {wz w3 : World} {rx : Nat} {v0 v1 v2 : Value} {t : TypeId} (hF : Fr L wz w3) (hb : blk wz rx = some (.cells #[v0, v1, v2] t (0, 0))) (hn : rx ∉ L) :
    blk w3 rx = some (.cells #[v0, v1, v2] t (0, 0)) ∧ w3.cell? ⟨rx, 0, none⟩ = some v0 ∧ w3.cell? ⟨rx, 1, none⟩ = some v1 ∧ w3.cell? ⟨rx, 2, none⟩ = some v2 ∧ w3.frozen? ⟨rx, 0, none⟩ = false ∧ w3.frozen? ⟨rx, 1, none⟩ = false ∧ w3.frozen? ⟨rx, 2, none⟩ = false := by
  have h := hF.at hb hn
  exact ⟨h, cell_of h rfl, cell_of h rfl, cell_of h rfl, free_of h, free_of h, free_of h⟩
theorem rep_then {L : List Nat} {wz w3 : World} {rx : Nat} {v0 v1 v2 : Value} {t : TypeId} {P : Prop} (hF : Fr L wz w3) (hb : blk wz rx = some (.cells #[v0, v1, v2] t (0, 0))) (hn : rx ∉ L)
    (k : (blk w3 rx = some (.cells #[v0, v1, v2] t (0, 0)) ∧ w3.cell? ⟨rx, 0, none⟩ = some v0 ∧ w3.cell? ⟨rx, 1, none⟩ = some v1 ∧ w3.cell? ⟨rx, 2, none⟩ = some v2 ∧ w3.frozen? ⟨rx, 0, none⟩ = false ∧ w3.frozen? ⟨rx, 1, none⟩ = false ∧ w3.frozen? ⟨rx, 2, none⟩ = false) → P) : P := k (rep_cells hF hb hn)
theorem col_fin {w2 w3 wx : World} {px g2 rx : Nat} {p0 p1 : Int} {ls' : List (List Int)} (Y2 : YAt w0 w2 c A S ex) (hlp : ∀ x, x ∈ c.all → x < px) (hrp : S.rb < px) (hg : px + 1 ≤ g2) (hgl : g2 < w2.heap.size) (P2 : blk w2 px = some (.cells #[.int .i64 p0, .int .i64 p1] 72 (0, 0)))
    (W2 : ∀ j : Nat, j < 8 → w2.cell? ⟨g2, j, none⟩ = some (.int .u64 (S.roots[j]?.getD 0))) (AF : After D m cl [S.roots.take 3, S.roots.drop 3] ls' T G K C ms) (pz : p0 ≤ 0 ∨ p1 ≤ 0 → T.moved = 0)
    (H3 : HeAt w3 c.hb c.b c.wb c.lb T.A.sweep) (R3 : RowsIn w3 (rw3 S.rb S.roots) ls') (F4 : Fr [c.b, c.wb, c.lb, S.rb] w2 w3) (hrx : w2.heap.size ≤ rx) (FX : Fr [rx] w3 wx)
    (hb : blk wx rx = some (.cells #[.int .i64 T.live, .int .i64 T.moved, .int .i64 (emptyIn T.A.sweep.lines m)] 69 (0, 0))) : ColCut w0 c ex m S D p0 p1 px g2 (.pointer (some ⟨rx, 0, none⟩)) wx := by
  have hall := Y2.all_lt
  have hr2 := Y2.lt_all.2.1
  have ha : ∀ x, x ∈ c.all → x ≠ rx := fun x hx he => by have := hall x hx; omega
  have m1 : c.hb ∈ c.all ∧ c.b ∈ c.all ∧ c.wb ∈ c.all ∧ c.lb ∈ c.all := by simp [Yk.all]
  have F5 : Fr [c.b, c.wb, c.lb, S.rb] w2 wx := F4.trans FX (fun x hx => by simp only [List.mem_singleton] at hx; right; omega)
  have H5 := H3.fr FX (by simpa using ha _ m1.1) (by simpa using ha _ m1.2.1) (by simpa using ha _ m1.2.2.1) (by simpa using ha _ m1.2.2.2)
  have hm4 : ∀ x, px ≤ x → x ∉ [c.b, c.wb, c.lb, S.rb] := fun x hx hm => by
    simp only [List.mem_cons, List.not_mem_nil, or_false] at hm
    have b1 := hlp _ m1.2.1
    have b2 := hlp _ m1.2.2.1
    have b3 := hlp _ m1.2.2.2
    omega
  have R5 : RowsIn wx (rw3 S.rb S.roots) ls' := R3.keep (fun r hr o ho => FX.at ho (by
    simp only [rw3, List.mem_cons, List.not_mem_nil, or_false] at hr
    simp only [List.mem_singleton]
    rcases hr with rfl | rfl <;> (simp only; omega)))
  obtain ⟨R, arr, a1, a2, a3, a4, a5⟩ := ran_two AF Y2.n8.1 R5
  exact ⟨rx, cl, T, R, ls', G, K, C, ms, rfl, hb, AF, pz, Y2.ran H5 F5 a2 a3 a1 a4, a1, a5, F5.at P2 (hm4 _ (Nat.le_refl _)), fun j hj => cell_fr (W2 j hj) F5 (hm4 _ (by omega))⟩
theorem col_same {R : List Int} {ls ls' : List (List Int)} (h : YI m A S G K D) {G' K' : List Bool} (AF : After D m cl ls ls' T G' K' C ms) {i : Nat} (hi : i < 8) (tx : Tx D C ms (S.roots[i]?.getD 0) (R[i]?.getD 0))
    (hc : (S.mr[i]?.getD ⟨0, -1⟩).k < 0 ∨ (∃ (j : Nat) (p : Int), (j : Int) = (S.mr[i]?.getD ⟨0, -1⟩).k ∧ S.pins[j]? = some p ∧ 0 < p) ∨ T.moved = 0) : R[i]?.getD 0 = S.roots[i]?.getD 0 := by
  rcases tx with ⟨_, h2⟩ | ⟨k, ok, ck, h2, h3, h4, h5, h6⟩
  · exact h2
  · have key : ck.a = ok.a := by
      rcases hc with hc | ⟨j, p, hj, hp, h0⟩ | hc
      · obtain ⟨f, a1, a2⟩ := h.rt i hi
        rw [a1, Option.getD_some] at hc
        rcases a2 with ⟨_, _, a5⟩ | ⟨q, oq, a3, _⟩
        · rw [h3, pw_mod] at a5; exact absurd rfl a5
        · omega
      · obtain ⟨o, x, q, d1, d2, d3, d4, d5⟩ := h.rootObj hi hj
        have hjk := h.hg.uniq d1 h2 (pw_inj (d5.symm.trans h3))
        subst hjk
        rw [d1] at h2
        injection h2 with h2
        subst h2
        obtain ⟨o', c', m1, m2, m3, m4⟩ := AF.mo j h4
        rw [d1] at m1
        rw [h5] at m2
        injection m1 with m1
        injection m2 with m2
        subst m1 m2
        have e1 := m3.q
        have e2 := d4.p
        rw [hp] at d3
        injection d3 with d3
        by_cases hne : ck.a = o.a
        · exact hne
        · have := m4 hne; omega
      · exact AF.mz hc k ok ck h2 h5
    rw [h6, h3, key]
set_option maxRecDepth 100000 in
set_option maxHeartbeats 8000000 in
theorem wcollect_c (hY : YAt w0 w c A S ex) (hI : YI m A S G K D) (p0 p1 : Int) : Calls Try.prog 42 #[.pointer (some ⟨c.y, 0, none⟩), .agg #[.int .i64 p0, .int .i64 p1]] w (ColOk w0 c ex m S) := by
  have HY := Lib.hid hY
  have HI := Lib.hid hI
  have n8 := hY.n8.1
  have y1 := hY.y1
  have HRT := Lib.hid (fun wz (hF : Fr [] w wz) (j : Nat) (hj : j < 8) => ((hY.keep hF).root hj).1)
  have hyl : c.y < w.heap.size := lt_size hY.yc
  have hyl1 : c.y < w.heap.size + 1 := by omega
  have hyn : c.y ≠ w.heap.size := by omega
  have hyn1 : c.y ≠ w.heap.size + 1 := by omega
  have F2 : Fr [] w ((w.alloc (.cells #[.int .i64 p0, .int .i64 p1] 72)).alloc (.cells #[] 37)) := ((Fr.refl [] w).alloc _).alloc _
  have OW : Hid (((w.alloc (.cells #[.int .i64 p0, .int .i64 p1] 72)).alloc (.cells #[] 37)).ownsRow (w.heap.size + 1) 37 1 (.slice (some ⟨w.heap.size + 1, 0, none⟩) 0 0) 0 []) := Lib.hid
    (own_mk (cur := #[]) (by rw [blk_alloc, if_pos (by rw [size_alloc])]) (Nat.le_refl _) (Nat.le_refl _) (Nat.zero_le _) rfl rfl)
  have NEWS : Hid (∀ (j : Nat) (u : Value), (S.roots.map (.int .u64))[j]? = some u → ((w.alloc (.cells #[.int .i64 p0, .int .i64 p1] 72)).alloc (.cells #[] 37)).cell? ((⟨S.rb, 0, none⟩ : Addr).add j) = some u) := Lib.hid (fun j u hu => by
    simp only [List.getElem?_map, Option.map_eq_some_iff] at hu
    obtain ⟨x, hx, rfl⟩ := hu
    have hj := lt_some hx
    have := HRT.out _ F2 j (by omega)
    rw [hx] at this
    rw [Addr.add_lit, Nat.zero_add]
    exact this)
  have ONE : Hid (∀ u ∈ S.roots.map (Value.int .u64), u.oneCell' = true) := Lib.hid (by
    intro u hu
    simp only [List.mem_map] at hu
    obtain ⟨x, _, rfl⟩ := hu; rfl)
  obtain ⟨i0, hi, hz0, hz1, hz2⟩ := info_parts info_word
  have II := Lib.hid hi
  have Z0 := Lib.hid hz0
  have Z1 := Lib.hid hz1
  have Z2 := Lib.hid hz2
  have N8 : Hid ((S.roots.map (Value.int .u64)).length = 8 * 1) := Lib.hid (by rw [List.length_map, n8])
  have HSZ : Hid (w.heap.size + 1 ≤ ((w.alloc (.cells #[.int .i64 p0, .int .i64 p1] 72)).alloc (.cells #[] 37)).heap.size) := Lib.hid (by simp only [size_alloc]; omega)
  have HF2 := Lib.hid F2
  have B2 := Lib.hid (show blk ((w.alloc (.cells #[.int .i64 p0, .int .i64 p1] 72)).alloc (.cells #[] 37)) w.heap.size = some (.cells #[.int .i64 p0, .int .i64 p1] 72 (0, 0)) by rw [blk_alloc, if_neg (by rw [size_alloc]; omega), blk_alloc, if_pos rfl])
  have S2 : Hid (((w.alloc (.cells #[.int .i64 p0, .int .i64 p1] 72)).alloc (.cells #[] 37)).heap.size = w.heap.size + 1 + 1) := Lib.hid (by simp only [size_alloc])
  clear hY hI n8 hi hz0 hz1 hz2 F2
  go_enter Try.func42, Try.ntmps42
  go_wp2_with (at_builtin; refine wpList_append_lies _ rfl _ _ _ rfl (w.heap.size + 1) 37 i0 (.int .u64 0) 1 8 Try.underlying26 II.out Z0.out Z1.out Z2.out rfl (by omega) (.slice (some ⟨w.heap.size + 1, 0, none⟩) 0 0) 0 [] rfl OW.out ⟨S.rb, 0, none⟩ 8 8 (S.roots.map (.int .u64)) rfl N8.out NEWS.out ONE.out (by omega) (by unfold maxLen; omega) (by omega) HSZ.out _ S2.out ?_; intro g2 cap2 w2 own2 gr2 at2 lt2; have OW2 := Lib.hid own2; have GR2 := Lib.hid gr2; clear own2 gr2 at2)
  have F2 : Hid (Fr [] w w2) := Lib.hid (HF2.out.trans (grown_fr GR2.out) (fun x hx => by
    simp only [Value.ownBlock, Option.toList_some, List.mem_singleton] at hx
    right; omega))
  have P2 := Lib.hid ((grown_fr GR2.out).at B2.out (by simp only [Value.ownBlock, Option.toList_some, List.mem_singleton]; omega))
  have W2 : Hid (∀ j : Nat, j < 8 → w2.cell? ⟨g2, j, none⟩ = some (.int .u64 (S.roots[j]?.getD 0))) := Lib.hid (fun j hj => by
    have n8 := HY.out.n8.1
    refine own_cell OW2.out (i := j) ?_
    simp [List.getElem?_eq_getElem (by omega : j < S.roots.length)])
  have G2 : Hid (w.heap.size + 1 ≤ g2) := Lib.hid (own_lt' OW2.out g2 rfl).1
  have Y2 := Lib.hid (HY.out.keep F2.out)
  have RN : Hid (∀ (wz : World) (bz : Nat), Fr [] w2 wz → w2.heap.size ≤ bz → blk wz bz = some (.cells #[.slice (some ⟨S.rb, 0, none⟩) 3 8, .slice (some ⟨S.rb, 3, none⟩) 5 5] 26 (0, 0)) →
      Calls Try.prog 36 #[.pointer (some ⟨c.hb, 0, none⟩), .slice (some ⟨bz, 0, none⟩) 2 2, .agg #[.int .i64 p0, .int .i64 p1]] wz (RunG c.hb c.b c.wb c.lb m (rw3 S.rb S.roots) D [S.roots.take 3, S.roots.drop 3] p0 p1 wz)) := Lib.hid (fun wz bz hF hbz hb => by
    have h := Y2.out.keep hF
    have hI := HI.out
    obtain ⟨arr, a1, a2, a3⟩ := h.rblk
    have n8 := h.n8.1
    have hlt := Y2.out.lt_all.2.1
    have hall := Y2.out.all_lt
    have h4 : ∀ x, x ∉ c.all → x ∉ [c.hb, c.b, c.wb, c.lb] := fun x hx hm => hx (by
      simp only [Yk.all, List.mem_cons, List.not_mem_nil, or_false] at hm ⊢
      rcases hm with h | h | h | h <;> simp [h])
    have hmem : ∀ l, l ∈ [S.roots.take 3, S.roots.drop 3] → ∀ x, x ∈ l → ∃ i, i < 8 ∧ S.roots[i]?.getD 0 = x := fun l hl x hx => by
      have hx2 : x ∈ S.roots := by
        simp only [List.mem_cons, List.not_mem_nil, or_false] at hl
        rcases hl with rfl | rfl
        · exact List.mem_of_mem_take hx
        · exact List.mem_of_mem_drop hx
      obtain ⟨i, hi, hix⟩ := List.getElem_of_mem hx2
      exact ⟨i, by omega, by rw [List.getElem?_eq_getElem hi, Option.getD_some, hix]⟩
    refine run_law h.he hI.hg hI.un hI.bd (by have := hI.mb.n; omega) hI.closed _ _ _ (rw3_arg n8 hb (by have := hF.size; omega) (by omega) (h4 _ (h.far _ (List.mem_of_getElem? (rowsY_r S ex)) S.rb rfl)) (h4 _ (fun hm => by have := hall _ hm; omega))) (rw3_in n8 a1 a2 a3) ?_ ?_ p0 p1
    · intro l hl x hx
      obtain ⟨i, hi, rfl⟩ := hmem l hl x hx
      obtain ⟨f, _, h2⟩ := hI.rt i hi
      exact h2.wok
    · intro l hl x hx
      obtain ⟨i, hi, rfl⟩ := hmem l hl x hx
      exact hI.rw hi)
  have HLT := Lib.hid lt2
  have NRX : Hid (∀ x, w2.heap.size ≤ x → x ∉ (c.b :: c.wb :: c.lb :: (rw3 S.rb S.roots).map Rw.g)) := Lib.hid (fun x hx hm => by
    have hall := Y2.out.all_lt
    have hr2 := Y2.out.lt_all.2.1
    have b1 := hall c.b (by simp [Yk.all])
    have b2 := hall c.wb (by simp [Yk.all])
    have b3 := hall c.lb (by simp [Yk.all])
    simp only [rw3, List.map_cons, List.map_nil, List.mem_cons, List.not_mem_nil, or_false] at hm
    omega)
  clear HRT B2 OW NEWS OW2 GR2 HSZ S2 HF2 N8 ONE II Z0 Z1 Z2 hyl1 hyn1 y1 hyl hyn lt2
  have NP := Lib.hid (HY.out.all_lt)
  have NR := Lib.hid HY.out.lt_all
  generalize w.heap.size = px at *
  go_cut [6] (fun s6 wx => ColCut w0 c ex m S D p0 p1 px g2 s6 wx)
  case first =>
    have y0 : w2.cell? ⟨c.y, 0, none⟩ = _ := Y2.out.y0
    have y1 : w2.cell? ⟨c.y, 1, none⟩ = some (.slice (some ⟨S.rb, 0, none⟩) 8 8) := Y2.out.y1
    have k0 := cell_of P2.out (i := 0) rfl
    have k1 := cell_of P2.out (i := 1) rfl
    have hy4 : c.y ∉ [c.b, c.wb, c.lb, S.rb] := by
      have h1 := HY.out.yne.1
      have h2 := HY.out.ny.1
      simp only [List.mem_cons, List.not_mem_nil, or_false, not_or] at h1 ⊢
      exact ⟨h1.1, h1.2.1, h1.2.2, h2⟩
    have hp4 : px ∉ [c.b, c.wb, c.lb, S.rb] := by
      have h1 := NP.out
      have h2 := NR.out.2.1
      simp only [Yk.all, List.mem_cons, List.not_mem_nil, or_false] at h1
      simp only [List.mem_cons, List.not_mem_nil, or_false, not_or]
      have a1 := h1 c.b (by simp)
      have a2 := h1 c.wb (by simp)
      have a3 := h1 c.lb (by simp)
      omega
    have KC : Hid (∀ wz, Fr [c.b, c.wb, c.lb, S.rb] w2 wz → wz.cell? ⟨c.y, 0, none⟩ = some (.pointer (some ⟨c.hb, 0, none⟩)) ∧ wz.cell? ⟨c.y, 1, none⟩ = some (.slice (some ⟨S.rb, 0, none⟩) 8 8) ∧ wz.cell? ⟨px, 0, none⟩ = some (.int .i64 p0) ∧ wz.cell? ⟨px, 1, none⟩ = some (.int .i64 p1)) := Lib.hid (fun wz hF => ⟨cell_fr y0 hF hy4, cell_fr y1 hF hy4, cell_fr k0 hF hp4, cell_fr k1 hF hp4⟩)
    go_region_held3 (fun W => W.cell? ⟨c.y, 0, none⟩ = some (.pointer (some ⟨c.hb, 0, none⟩)) ∧ W.cell? ⟨c.y, 1, none⟩ = some (.slice (some ⟨S.rb, 0, none⟩) 8 8) ∧ W.cell? ⟨px, 0, none⟩ = some (.int .i64 p0) ∧ W.cell? ⟨px, 1, none⟩ = some (.int .i64 p1)) (first | with_reducible assumption | exact KC.out _ (by repeat (first | with_reducible assumption | exact Fr.refl _ _ | apply Fr.drew | apply Fr.alloc | (refine Fr.setCell ?_ (.inr (by omega)) _)))) (first | (go_at_call 36; refine (RN.out _ _ (by repeat (first | exact Fr.refl _ _ | apply Fr.drew | apply Fr.alloc)) (by omega) (by first | exact blk_a1 w2 _ | exact blk_a3 w2 _ _ | exact blk_a2 w2 _ _)).mono ?_; rintro e w3 ⟨cl, T, ls', G', K', C, ms, AF, hcz, rfl, H3, R3, F3⟩; have F4 : Fr [c.b, c.wb, c.lb, S.rb] w2 w3 := Fr.pre (by repeat (first | exact Fr.refl _ _ | apply Fr.drew | apply Fr.alloc)) (F3.mono (fun x hx => .inl (by simpa [rw3] using hx))); first | (refine rep_then (rx := w2.heap.size) (v0 := .int .i64 0) (v1 := .int .i64 0) (v2 := .int .i64 0) (t := 69) F3 ?_ ?_ ?_; (focus (first | exact blk_a1 w2 _ | exact blk_a3 w2 _ _ | exact blk_a2 w2 _ _)); exact NRX.out _ (by omega); rintro ⟨qb, q0, q1, q2, q3, q4, q5⟩) | (refine rep_then (rx := w2.heap.size + 1) (v0 := .int .i64 0) (v1 := .int .i64 0) (v2 := .int .i64 0) (t := 69) F3 ?_ ?_ ?_; (focus (first | exact blk_a1 w2 _ | exact blk_a3 w2 _ _ | exact blk_a2 w2 _ _)); exact NRX.out _ (by omega); rintro ⟨qb, q0, q1, q2, q3, q4, q5⟩) | skip))
    all_goals
      go_wp2_with fail
      go_meet
      first
      | exact col_fin Y2.out NP.out NR.out.2.1 G2.out HLT.out P2.out W2.out AF hcz H3 R3 F4 F4.size (((Fr.refl [w3.heap.size] w3).alloc _)) (blk_a1 w3 _)
      | exact col_fin Y2.out NP.out NR.out.2.1 G2.out HLT.out P2.out W2.out AF hcz H3 R3 F4 (by omega) ((((Fr.refl [_] w3).setCell (by simp) _).setCell (by simp) _).setCell (by simp) _) (by rw [blk_set, if_pos rfl, blk_set, if_pos rfl, blk_set, if_pos rfl, qb]; rfl)
  case rest =>
    obtain ⟨rx, cl, T, R, ls', G', K', C, ms, rfl, RB, RK⟩ := hcut
    have RK := Lib.hid RK
    have y2 : wc.cell? ⟨c.y, 2, none⟩ = some S.ov := RK.out.y.y2
    have y3 : wc.cell? ⟨c.y, 3, none⟩ = some S.mv := RK.out.y.y3
    have RB := Lib.hid RB
    have hn := HI.out.mb.n
    go_wp2_with fail
    refine (reached_m _ S.ov S.mv S.objs S.mr RK.out.y.min HI.out.mb).mono ?_
    rintro e w4 ⟨gl, L, rfl, hbL, hLl, hLr, _, F4⟩
    have CM := many_m w4 gl L hbL (by omega)
    rw [hLl] at CM
    have CM := Lib.hid CM
    have HLL := Lib.hid hLl
    have LV := Lib.hid (HI.out.live RK.out.af (fun x => by
      have := HY.out.n8.1
      constructor
      · rintro ⟨l, hl, hx⟩
        simp only [List.mem_cons, List.not_mem_nil, or_false] at hl
        rcases hl with rfl | rfl
        · exact List.mem_of_mem_take hx
        · exact List.mem_of_mem_drop hx
      · intro hx
        have := List.take_append_drop 3 S.roots
        rw [← this, List.mem_append] at hx
        rcases hx with hx | hx
        · exact ⟨_, by simp, hx⟩
        · exact ⟨_, by simp, hx⟩) hLl hLr)
    have F4 := Lib.hid F4
    clear hbL hLl hLr y2 y3
    go_wp2_with fail
    refine CM.out.mono ?_
    rintro e w5 ⟨rfl, F5⟩
    have F5 := Lib.hid (F4.out.same F5)
    have Y5 := Lib.hid (RK.out.y.keep F5.out)
    have y0 : w5.cell? ⟨c.y, 0, none⟩ = _ := Y5.out.y0
    have hlc : cntT L ≤ 1000 := by
      have := HLL.out
      have h2 : cntT L ≤ L.length := List.countP_le_length
      omega
    clear CM F4
    go_wp2_with fail
    refine (oarena_c _ Y5.out.he).mono ?_
    rintro e w' ⟨rfl, rfl⟩
    go_wp2_with fail
    refine (blocks_c _ Y5.out.he.ar RK.out.af.hg.inv.ok).mono ?_
    rintro e w' ⟨rfl, rfl⟩
    have RB5 := Lib.hid (F5.out.at RB.out (by simp))
    have PB5 := Lib.hid (F5.out.at RK.out.pb (by simp))
    rw [LV.out] at RB5
    have OKR := Lib.hid RK.out.af.hg.inv.ok
    have hmb := OKR.out.m2
    have hm0 := RK.out.af.m0
    have hm1 := RK.out.af.m1
    have hm2 := RK.out.af.em
    have hm3 := RK.out.af.lv
    rw [LV.out] at hm1 hm3
    have CE := Lib.hid (fun wz (hF : Fr [] w5 wz) => empty_c wz (Y5.out.keep hF).he.ar RK.out.af.hg.inv.ok)
    have CA := Lib.hid (fun wz (hF : Fr [] w5 wz) => oarena_c wz (Y5.out.keep hF).he)
    have PZ := Lib.hid RK.out.pz
    have SAME := Lib.hid (fun i (hi : i < 8) => col_same HI.out RK.out.af hi (RK.out.tx i hi))
    obtain ⟨mv, hmv⟩ : ∃ mv, mv = T.moved := ⟨_, rfl⟩
    rw [← hmv] at RB5 hm0 hm1 PZ SAME
    obtain ⟨em, hem⟩ : ∃ em, em = emptyIn T.A.sweep.lines m := ⟨_, rfl⟩
    rw [← hem] at RB5 hm2 CE
    obtain ⟨lv, hlv⟩ : ∃ lv, lv = cntT L := ⟨_, rfl⟩
    rw [← hlv] at RB5 hm1 hm3 hlc ⊢
    have hem2 : (m : Int) - (lv : Int) ≤ (em : Int) := by omega
    clear hm2 hm3 hmv hem hlv y0
    go_wp2_with fail
    go_cut [95] (fun s95 wx => s95 = .bool false ∧ Hid (Fr [] w5 wx))
    case first =>
      have r0 := cell_of RB5.out (i := 0) rfl
      have r1 := cell_of RB5.out (i := 1) rfl
      have r2 := cell_of RB5.out (i := 2) rfl
      have q0 := cell_of PB5.out (i := 0) rfl
      have q1 := cell_of PB5.out (i := 1) rfl
      have y0 : w5.cell? ⟨c.y, 0, none⟩ = _ := Y5.out.y0
      have KC : Hid (∀ wz, Fr [] w5 wz → wz.cell? ⟨rx, 0, none⟩ = some (.int .i64 (lv : Int)) ∧ wz.cell? ⟨rx, 1, none⟩ = some (.int .i64 mv) ∧ wz.cell? ⟨rx, 2, none⟩ = some (.int .i64 (em : Int)) ∧ wz.cell? ⟨px, 0, none⟩ = some (.int .i64 p0) ∧ wz.cell? ⟨px, 1, none⟩ = some (.int .i64 p1) ∧ wz.cell? ⟨c.y, 0, none⟩ = some (.pointer (some ⟨c.hb, 0, none⟩))) := Lib.hid (fun wz hF => ⟨cell_fr r0 hF (by simp), cell_fr r1 hF (by simp), cell_fr r2 hF (by simp), cell_fr q0 hF (by simp), cell_fr q1 hF (by simp), cell_fr y0 hF (by simp)⟩)
      have c1 : decide (mv < 0) = false := by simpa using hm0
      have c2 : decide ((lv : Int) < mv) = false := by simpa using hm1
      have c3 : decide ((em : Int) < (m : Int) - (lv : Int)) = false := by simpa using hem2
      have c4 : IntKind.i64.wrap ((m : Int) - (lv : Int)) = (m : Int) - (lv : Int) := by rw [IntKind.wrap_i64]; omega
      clear r0 r1 r2 q0 q1 y0
      by_cases h0 : p0 ≤ 0
      · have b0 : decide (p0 ≤ 0) = true := by simpa using h0
        have hz := PZ.out (.inl h0)
        have bz : (mv != 0) = false := by rw [hz]; rfl
        clear hz
        refine wp_region_held_drew (S := (fun W => W.cell? ⟨rx, 0, none⟩ = some (.int .i64 (lv : Int)) ∧ W.cell? ⟨rx, 1, none⟩ = some (.int .i64 mv) ∧ W.cell? ⟨rx, 2, none⟩ = some (.int .i64 (em : Int)) ∧ W.cell? ⟨px, 0, none⟩ = some (.int .i64 p0) ∧ W.cell? ⟨px, 1, none⟩ = some (.int .i64 p1) ∧ W.cell? ⟨c.y, 0, none⟩ = some (.pointer (some ⟨c.hb, 0, none⟩)))) (by kernel_rfl) ?_ (fun hHeld => ?_)
        · with_reducible first | exact KC.out _ (by assumption) | exact KC.out _ (Fr.refl _ _).drew | exact KC.out _ (Fr.refl _ _) | assumption
        refine' wpAnyH_take (i := 0) (v := _) rfl (by kernel_rfl) (by kernel_rfl) (by kernel_rfl) (fun _ _ _ h => h) (Or.inl ⟨by rfl, ?hy1_0⟩) (by assumption) ?re1_0
        case hy1_0 => intro w hSw; (try dsimp only at hSw); go_simp; try with_reducible rfl
        try simp only [Act.put, List.getElem_toArray, List.getElem_cons_succ, List.getElem_cons_zero, List.setIfInBounds_toArray, List.set_cons_zero, List.set_cons_succ]
        refine' wpAnyH_take (i := 1) (v := _) rfl (by kernel_rfl) (by kernel_rfl) (by kernel_rfl) (fun _ _ _ h => h) (Or.inl ⟨by rfl, ?hy1_1⟩) (by assumption) ?re1_1
        case hy1_1 => intro w hSw; (try dsimp only at hSw); go_simp; try with_reducible rfl
        try simp only [Act.put, List.getElem_toArray, List.getElem_cons_succ, List.getElem_cons_zero, List.setIfInBounds_toArray, List.set_cons_zero, List.set_cons_succ]
        refine' wpAnyH_take (i := 2) (v := _) rfl (by kernel_rfl) (by kernel_rfl) (by kernel_rfl) (fun _ _ _ h => h) (Or.inl ⟨by rfl, ?hy1_2⟩) (by assumption) ?re1_2
        case hy1_2 => intro w hSw; (try dsimp only at hSw); go_simp; try with_reducible rfl
        try simp only [Act.put, List.getElem_toArray, List.getElem_cons_succ, List.getElem_cons_zero, List.setIfInBounds_toArray, List.set_cons_zero, List.set_cons_succ]
        refine' wpAnyH_take (i := 3) (v := _) rfl (by kernel_rfl) (by kernel_rfl) (by kernel_rfl) (fun _ _ _ h => h) (Or.inl ⟨by rfl, ?hy1_3⟩) (by assumption) ?re1_3
        case hy1_3 => intro w hSw; (try dsimp only at hSw); go_simp; try with_reducible rfl
        try simp only [Act.put, List.getElem_toArray, List.getElem_cons_succ, List.getElem_cons_zero, List.setIfInBounds_toArray, List.set_cons_zero, List.set_cons_succ]
        refine' wpAnyH_take (i := 4) (v := _) rfl (by kernel_rfl) (by kernel_rfl) (by kernel_rfl) (fun _ _ _ h => h) (Or.inl ⟨by rfl, ?hy1_4⟩) (by assumption) ?re1_4
        case hy1_4 => intro w hSw; (try dsimp only at hSw); go_simp; try with_reducible rfl
        try simp only [Act.put, List.getElem_toArray, List.getElem_cons_succ, List.getElem_cons_zero, List.setIfInBounds_toArray, List.set_cons_zero, List.set_cons_succ]
        refine' wpAnyH_take (i := 5) (v := _) rfl (by kernel_rfl) (by kernel_rfl) (by kernel_rfl) (fun _ _ _ h => h) (Or.inl ⟨by rfl, ?hy1_5⟩) (by assumption) ?re1_5
        case hy1_5 => intro w hSw; (try dsimp only at hSw); go_simp; try with_reducible rfl
        try simp only [Act.put, List.getElem_toArray, List.getElem_cons_succ, List.getElem_cons_zero, List.setIfInBounds_toArray, List.set_cons_zero, List.set_cons_succ]
        refine' wpAnyH_take (i := 6) (v := _) rfl (by kernel_rfl) (by kernel_rfl) (by kernel_rfl) (fun _ _ _ h => h) (Or.inl ⟨by rfl, ?hy1_6⟩) (by assumption) ?re1_6
        case hy1_6 => intro w hSw; (try dsimp only at hSw); go_simp; try with_reducible rfl
        try simp only [Act.put, List.getElem_toArray, List.getElem_cons_succ, List.getElem_cons_zero, List.setIfInBounds_toArray, List.set_cons_zero, List.set_cons_succ]
        refine' wpAnyH_take (i := 7) (v := _) rfl (by kernel_rfl) (by kernel_rfl) (by kernel_rfl) (fun _ _ _ h => h) (Or.inl ⟨by rfl, ?hy1_7⟩) (by assumption) ?re1_7
        case hy1_7 => intro w hSw; (try dsimp only at hSw); go_simp; try with_reducible rfl
        try simp only [Act.put, List.getElem_toArray, List.getElem_cons_succ, List.getElem_cons_zero, List.setIfInBounds_toArray, List.set_cons_zero, List.set_cons_succ]
        refine' wpAnyH_take (i := 8) (v := _) rfl (by kernel_rfl) (by kernel_rfl) (by kernel_rfl) (fun _ _ _ h => h) (Or.inl ⟨by rfl, ?hy1_8⟩) (by assumption) ?re1_8
        case hy1_8 => intro w hSw; (try dsimp only at hSw); go_simp; try with_reducible rfl
        try simp only [Act.put, List.getElem_toArray, List.getElem_cons_succ, List.getElem_cons_zero, List.setIfInBounds_toArray, List.set_cons_zero, List.set_cons_succ]
        refine' wpAnyH_take (i := 9) (v := _) rfl (by kernel_rfl) (by kernel_rfl) (by kernel_rfl) (fun _ _ _ h => h) (Or.inl ⟨by rfl, ?hy1_9⟩) (by assumption) ?re1_9
        case hy1_9 => intro w hSw; (try dsimp only at hSw); go_simp; try with_reducible rfl
        try simp only [Act.put, List.getElem_toArray, List.getElem_cons_succ, List.getElem_cons_zero, List.setIfInBounds_toArray, List.set_cons_zero, List.set_cons_succ]
        refine' wpAnyH_take (i := 10) (v := _) rfl (by kernel_rfl) (by kernel_rfl) (by kernel_rfl) (fun _ _ _ h => h) (Or.inl ⟨by rfl, ?hy1_10⟩) (by assumption) ?re1_10
        case hy1_10 => intro w hSw; (try dsimp only at hSw); go_simp; try with_reducible rfl
        try simp only [Act.put, List.getElem_toArray, List.getElem_cons_succ, List.getElem_cons_zero, List.setIfInBounds_toArray, List.set_cons_zero, List.set_cons_succ]
        refine' wpAnyH_take (i := 11) (v := _) rfl (by kernel_rfl) (by kernel_rfl) (by kernel_rfl) (fun _ _ _ h => h) (Or.inl ⟨by rfl, ?hy1_11⟩) (by assumption) ?re1_11
        case hy1_11 => intro w hSw; (try dsimp only at hSw); go_simp; try with_reducible rfl
        try simp only [Act.put, List.getElem_toArray, List.getElem_cons_succ, List.getElem_cons_zero, List.setIfInBounds_toArray, List.set_cons_zero, List.set_cons_succ]
        refine' wpAnyH_take (i := 12) (v := _) rfl (by kernel_rfl) (by kernel_rfl) (by kernel_rfl) (fun _ _ _ h => h) (Or.inl ⟨by rfl, ?hy1_12⟩) (by assumption) ?re1_12
        case hy1_12 => intro w hSw; (try dsimp only at hSw); go_simp; try with_reducible rfl
        try simp only [Act.put, List.getElem_toArray, List.getElem_cons_succ, List.getElem_cons_zero, List.setIfInBounds_toArray, List.set_cons_zero, List.set_cons_succ]
        refine' wpAnyH_take (i := 13) (v := _) rfl (by kernel_rfl) (by kernel_rfl) (by kernel_rfl) (fun _ _ _ h => h) (Or.inl ⟨by rfl, ?hy1_13⟩) (by assumption) ?re1_13
        case hy1_13 => intro w hSw; (try dsimp only at hSw); go_simp; try with_reducible rfl
        try simp only [Act.put, List.getElem_toArray, List.getElem_cons_succ, List.getElem_cons_zero, List.setIfInBounds_toArray, List.set_cons_zero, List.set_cons_succ]
        refine' wpAnyH_take (i := 14) (v := _) rfl (by kernel_rfl) (by kernel_rfl) (by kernel_rfl) (fun _ _ _ h => h) (Or.inl ⟨by rfl, ?hy1_14⟩) (by assumption) ?re1_14
        case hy1_14 => intro w hSw; (try dsimp only at hSw); go_simp; try with_reducible rfl
        try simp only [Act.put, List.getElem_toArray, List.getElem_cons_succ, List.getElem_cons_zero, List.setIfInBounds_toArray, List.set_cons_zero, List.set_cons_succ]
        refine' wpAnyH_take (i := 15) (v := _) rfl (by kernel_rfl) (by kernel_rfl) (by kernel_rfl) (fun _ _ _ h => h) (Or.inl ⟨by rfl, ?hy1_15⟩) (by assumption) ?re1_15
        case hy1_15 => intro w hSw; (try dsimp only at hSw); go_simp; try with_reducible rfl
        try simp only [Act.put, List.getElem_toArray, List.getElem_cons_succ, List.getElem_cons_zero, List.setIfInBounds_toArray, List.set_cons_zero, List.set_cons_succ]
        refine' wpAnyH_take (i := 16) (v := _) rfl (by kernel_rfl) (by kernel_rfl) (by kernel_rfl) (fun _ _ _ h => h) (Or.inl ⟨by rfl, ?hy1_16⟩) (by assumption) ?re1_16
        case hy1_16 => intro w hSw; (try dsimp only at hSw); go_simp; try with_reducible rfl
        try simp only [Act.put, List.getElem_toArray, List.getElem_cons_succ, List.getElem_cons_zero, List.setIfInBounds_toArray, List.set_cons_zero, List.set_cons_succ]
        refine' wpAnyH_take (i := 17) (v := _) rfl (by kernel_rfl) (by kernel_rfl) (by kernel_rfl) (fun _ _ _ h => h) (Or.inl ⟨by rfl, ?hy1_17⟩) (by assumption) ?re1_17
        case hy1_17 => intro w hSw; (try dsimp only at hSw); go_simp; try with_reducible rfl
        try simp only [Act.put, List.getElem_toArray, List.getElem_cons_succ, List.getElem_cons_zero, List.setIfInBounds_toArray, List.set_cons_zero, List.set_cons_succ]
        refine' wpAnyH_take (i := 18) (v := _) rfl (by kernel_rfl) (by kernel_rfl) (by kernel_rfl) (fun _ _ _ h => h) (Or.inl ⟨by rfl, ?hy1_18⟩) (by assumption) ?re1_18
        case hy1_18 => intro w hSw; (try dsimp only at hSw); go_simp; try with_reducible rfl
        try simp only [Act.put, List.getElem_toArray, List.getElem_cons_succ, List.getElem_cons_zero, List.setIfInBounds_toArray, List.set_cons_zero, List.set_cons_succ]
        refine' wpAnyH_take (i := 19) (v := _) rfl (by kernel_rfl) (by kernel_rfl) (by kernel_rfl) (fun _ _ _ h => h) (Or.inl ⟨by rfl, ?hy1_19⟩) (by assumption) ?re1_19
        case hy1_19 => intro w hSw; (try dsimp only at hSw); go_simp; try with_reducible rfl
        try simp only [Act.put, List.getElem_toArray, List.getElem_cons_succ, List.getElem_cons_zero, List.setIfInBounds_toArray, List.set_cons_zero, List.set_cons_succ]
        refine wpAnyH_take (i := 20) (v := undef) rfl (by kernel_rfl) (by kernel_rfl) (by kernel_rfl) (fun _ _ _ h => h) (Or.inr ⟨by rfl, rfl⟩) (by assumption) ?_
        try simp only [Act.put, List.getElem_toArray, List.getElem_cons_succ, List.getElem_cons_zero, List.setIfInBounds_toArray, List.set_cons_zero, List.set_cons_succ]
        refine wpAnyH_take (i := 21) (v := undef) rfl (by kernel_rfl) (by kernel_rfl) (by kernel_rfl) (fun _ _ _ h => h) (Or.inr ⟨by rfl, rfl⟩) (by assumption) ?_
        try simp only [Act.put, List.getElem_toArray, List.getElem_cons_succ, List.getElem_cons_zero, List.setIfInBounds_toArray, List.set_cons_zero, List.set_cons_succ]
        refine wpAnyH_take (i := 22) (v := undef) rfl (by kernel_rfl) (by kernel_rfl) (by kernel_rfl) (fun _ _ _ h => h) (Or.inr ⟨by rfl, rfl⟩) (by assumption) ?_
        try simp only [Act.put, List.getElem_toArray, List.getElem_cons_succ, List.getElem_cons_zero, List.setIfInBounds_toArray, List.set_cons_zero, List.set_cons_succ]
        refine' wpAnyH_take (i := 23) (v := _) rfl (by kernel_rfl) (by kernel_rfl) (by kernel_rfl) (fun _ _ _ h => h) (Or.inl ⟨by rfl, ?hy1_23⟩) (by assumption) ?re1_23
        case hy1_23 => intro w hSw; (try dsimp only at hSw); go_simp; try with_reducible rfl
        try simp only [Act.put, List.getElem_toArray, List.getElem_cons_succ, List.getElem_cons_zero, List.setIfInBounds_toArray, List.set_cons_zero, List.set_cons_succ]
        refine' wpAnyH_take (i := 24) (v := _) rfl (by kernel_rfl) (by kernel_rfl) (by kernel_rfl) (fun _ _ _ h => h) (Or.inl ⟨by rfl, ?hy1_24⟩) (by assumption) ?re1_24
        case hy1_24 => intro w hSw; (try dsimp only at hSw); go_simp; try with_reducible rfl
        try simp only [Act.put, List.getElem_toArray, List.getElem_cons_succ, List.getElem_cons_zero, List.setIfInBounds_toArray, List.set_cons_zero, List.set_cons_succ]
        refine' wpAnyH_take (i := 25) (v := _) rfl (by kernel_rfl) (by kernel_rfl) (by kernel_rfl) (fun _ _ _ h => h) (Or.inl ⟨by rfl, ?hy1_25⟩) (by assumption) ?re1_25
        case hy1_25 => intro w hSw; (try dsimp only at hSw); go_simp; try with_reducible rfl
        try simp only [Act.put, List.getElem_toArray, List.getElem_cons_succ, List.getElem_cons_zero, List.setIfInBounds_toArray, List.set_cons_zero, List.set_cons_succ]
        refine' wpAnyH_take (i := 26) (v := _) rfl (by kernel_rfl) (by kernel_rfl) (by kernel_rfl) (fun _ _ _ h => h) (Or.inl ⟨by rfl, ?hy1_26⟩) (by assumption) ?re1_26
        case hy1_26 => intro w hSw; (try dsimp only at hSw); go_simp; try with_reducible rfl
        try simp only [Act.put, List.getElem_toArray, List.getElem_cons_succ, List.getElem_cons_zero, List.setIfInBounds_toArray, List.set_cons_zero, List.set_cons_succ]
        refine' wpAnyH_take (i := 27) (v := _) rfl (by kernel_rfl) (by kernel_rfl) (by kernel_rfl) (fun _ _ _ h => h) (Or.inl ⟨by rfl, ?hy1_27⟩) (by assumption) ?re1_27
        case hy1_27 => intro w hSw; (try dsimp only at hSw); go_simp; try with_reducible rfl
        try simp only [Act.put, List.getElem_toArray, List.getElem_cons_succ, List.getElem_cons_zero, List.setIfInBounds_toArray, List.set_cons_zero, List.set_cons_succ]
        refine' wpAnyH_take (i := 28) (v := _) rfl (by kernel_rfl) (by kernel_rfl) (by kernel_rfl) (fun _ _ _ h => h) (Or.inl ⟨by rfl, ?hy1_28⟩) (by assumption) ?re1_28
        case hy1_28 => intro w hSw; (try dsimp only at hSw); go_simp; try with_reducible rfl
        try simp only [Act.put, List.getElem_toArray, List.getElem_cons_succ, List.getElem_cons_zero, List.setIfInBounds_toArray, List.set_cons_zero, List.set_cons_succ]
        refine' wpAnyH_take (i := 29) (v := _) rfl (by kernel_rfl) (by kernel_rfl) (by kernel_rfl) (fun _ _ _ h => h) (Or.inl ⟨by rfl, ?hy1_29⟩) (by assumption) ?re1_29
        case hy1_29 => intro w hSw; (try dsimp only at hSw); go_simp; try with_reducible rfl
        try simp only [Act.put, List.getElem_toArray, List.getElem_cons_succ, List.getElem_cons_zero, List.setIfInBounds_toArray, List.set_cons_zero, List.set_cons_succ]
        refine' wpAnyH_take (i := 30) (v := _) rfl (by kernel_rfl) (by kernel_rfl) (by kernel_rfl) (fun _ _ _ h => h) (Or.inl ⟨by rfl, ?hy1_30⟩) (by assumption) ?re1_30
        case hy1_30 => intro w hSw; (try dsimp only at hSw); go_simp; try with_reducible rfl
        try simp only [Act.put, List.getElem_toArray, List.getElem_cons_succ, List.getElem_cons_zero, List.setIfInBounds_toArray, List.set_cons_zero, List.set_cons_succ]
        refine' wpAnyH_take (i := 31) (v := _) rfl (by kernel_rfl) (by kernel_rfl) (by kernel_rfl) (fun _ _ _ h => h) (Or.inl ⟨by rfl, ?hy1_31⟩) (by assumption) ?re1_31
        case hy1_31 => intro w hSw; (try dsimp only at hSw); go_simp; try with_reducible rfl
        try simp only [Act.put, List.getElem_toArray, List.getElem_cons_succ, List.getElem_cons_zero, List.setIfInBounds_toArray, List.set_cons_zero, List.set_cons_succ]
        refine' wpAnyH_take (i := 32) (v := _) rfl (by kernel_rfl) (by kernel_rfl) (by kernel_rfl) (fun _ _ _ h => h) (Or.inl ⟨by rfl, ?hy1_32⟩) (by assumption) ?re1_32
        case hy1_32 => intro w hSw; (try dsimp only at hSw); go_simp; try with_reducible rfl
        try simp only [Act.put, List.getElem_toArray, List.getElem_cons_succ, List.getElem_cons_zero, List.setIfInBounds_toArray, List.set_cons_zero, List.set_cons_succ]
        refine' wpAnyH_take (i := 33) (v := _) rfl (by kernel_rfl) (by kernel_rfl) (by kernel_rfl) (fun _ _ _ h => h) (Or.inl ⟨by rfl, ?hy1_33⟩) (by assumption) ?re1_33
        case hy1_33 => intro w hSw; (try dsimp only at hSw); go_simp; try with_reducible rfl
        try simp only [Act.put, List.getElem_toArray, List.getElem_cons_succ, List.getElem_cons_zero, List.setIfInBounds_toArray, List.set_cons_zero, List.set_cons_succ]
        refine' wpAnyH_take (i := 34) (v := _) rfl (by kernel_rfl) (by kernel_rfl) (by kernel_rfl) (fun _ _ _ h => h) (Or.inl ⟨by rfl, ?hy1_34⟩) (by assumption) ?re1_34
        case hy1_34 => intro w hSw; (try dsimp only at hSw); go_simp; try with_reducible rfl
        try simp only [Act.put, List.getElem_toArray, List.getElem_cons_succ, List.getElem_cons_zero, List.setIfInBounds_toArray, List.set_cons_zero, List.set_cons_succ]
        refine' wpAnyH_take (i := 35) (v := _) rfl (by kernel_rfl) (by kernel_rfl) (by kernel_rfl) (fun _ _ _ h => h) (Or.inl ⟨by rfl, ?hy1_35⟩) (by assumption) ?re1_35
        case hy1_35 => intro w hSw; (try dsimp only at hSw); go_simp; try with_reducible rfl
        try simp only [Act.put, List.getElem_toArray, List.getElem_cons_succ, List.getElem_cons_zero, List.setIfInBounds_toArray, List.set_cons_zero, List.set_cons_succ]
        refine' wpAnyH_take (i := 36) (v := _) rfl (by kernel_rfl) (by kernel_rfl) (by kernel_rfl) (fun _ _ _ h => h) (Or.inl ⟨by rfl, ?hy1_36⟩) (by assumption) ?re1_36
        case hy1_36 => intro w hSw; (try dsimp only at hSw); go_simp; try with_reducible rfl
        try simp only [Act.put, List.getElem_toArray, List.getElem_cons_succ, List.getElem_cons_zero, List.setIfInBounds_toArray, List.set_cons_zero, List.set_cons_succ]
        refine wpAnyH_ready (rs := [37]) (by kernel_rfl) (by simp) ?_
        refine AllReadyH.cons rfl (fun K hK => ?_) AllReadyH.nil
        go_simp
        (go_at_call 33; refine (CA.out _ (by repeat (first | exact Fr.refl _ _ | with_reducible assumption | apply Fr.drew))).mono ?_; rintro e wA ⟨rfl, rfl⟩)
        refine hK.out _ _ ?_ (fun hHeld2 => ?_)
        · with_reducible first | exact KC.out _ (by assumption) | exact KC.out _ (Fr.refl _ _).drew | exact KC.out _ (Fr.refl _ _) | assumption
        clear hK K hHeld
        try simp only [Act.put, List.getElem_toArray, List.getElem_cons_succ, List.getElem_cons_zero, List.setIfInBounds_toArray, List.set_cons_zero, List.set_cons_succ]
        refine wpAnyH_ready (rs := [38]) (by kernel_rfl) (by simp) ?_
        refine AllReadyH.cons rfl (fun K hK => ?_) AllReadyH.nil
        go_simp
        (go_at_call 34; refine (CE.out _ (by repeat (first | exact Fr.refl _ _ | with_reducible assumption | apply Fr.drew))).mono ?_; rintro e w6 ⟨rfl, F6⟩; have F7 : Fr [] w5 w6 := Fr.same (by repeat (first | exact Fr.refl _ _ | with_reducible assumption | apply Fr.drew)) F6)
        refine hK.out _ _ ?_ (fun hHeld3 => ?_)
        · with_reducible first | exact KC.out _ (by assumption) | exact KC.out _ (Fr.refl _ _).drew | exact KC.out _ (Fr.refl _ _) | assumption
        clear hK K hHeld2
        try simp only [Act.put, List.getElem_toArray, List.getElem_cons_succ, List.getElem_cons_zero, List.setIfInBounds_toArray, List.set_cons_zero, List.set_cons_succ]
        refine' wpAnyH_take (i := 39) (v := _) rfl (by kernel_rfl) (by kernel_rfl) (by kernel_rfl) (fun _ _ _ h => h) (Or.inl ⟨by rfl, ?hy1_39⟩) (by assumption) ?re1_39
        case hy1_39 => intro w hSw; (try dsimp only at hSw); go_simp; try with_reducible rfl
        try simp only [Act.put, List.getElem_toArray, List.getElem_cons_succ, List.getElem_cons_zero, List.setIfInBounds_toArray, List.set_cons_zero, List.set_cons_succ]
        refine' wpAnyH_take (i := 40) (v := _) rfl (by kernel_rfl) (by kernel_rfl) (by kernel_rfl) (fun _ _ _ h => h) (Or.inl ⟨by rfl, ?hy1_40⟩) (by assumption) ?re1_40
        case hy1_40 => intro w hSw; (try dsimp only at hSw); go_simp; try with_reducible rfl
        try simp only [Act.put, List.getElem_toArray, List.getElem_cons_succ, List.getElem_cons_zero, List.setIfInBounds_toArray, List.set_cons_zero, List.set_cons_succ]
        refine' wpAnyH_take (i := 41) (v := _) rfl (by kernel_rfl) (by kernel_rfl) (by kernel_rfl) (fun _ _ _ h => h) (Or.inl ⟨by rfl, ?hy1_41⟩) (by assumption) ?re1_41
        case hy1_41 => intro w hSw; (try dsimp only at hSw); go_simp; try with_reducible rfl
        try simp only [Act.put, List.getElem_toArray, List.getElem_cons_succ, List.getElem_cons_zero, List.setIfInBounds_toArray, List.set_cons_zero, List.set_cons_succ]
        refine' wpAnyH_take (i := 42) (v := _) rfl (by kernel_rfl) (by kernel_rfl) (by kernel_rfl) (fun _ _ _ h => h) (Or.inl ⟨by rfl, ?hy1_42⟩) (by assumption) ?re1_42
        case hy1_42 => intro w hSw; (try dsimp only at hSw); go_simp; try with_reducible rfl
        try simp only [Act.put, List.getElem_toArray, List.getElem_cons_succ, List.getElem_cons_zero, List.setIfInBounds_toArray, List.set_cons_zero, List.set_cons_succ]
        refine' wpAnyH_take (i := 43) (v := _) rfl (by kernel_rfl) (by kernel_rfl) (by kernel_rfl) (fun _ _ _ h => h) (Or.inl ⟨by rfl, ?hy1_43⟩) (by assumption) ?re1_43
        case hy1_43 => intro w hSw; (try dsimp only at hSw); go_simp; try with_reducible rfl
        try simp only [Act.put, List.getElem_toArray, List.getElem_cons_succ, List.getElem_cons_zero, List.setIfInBounds_toArray, List.set_cons_zero, List.set_cons_succ]
        refine' wpAnyH_take (i := 44) (v := _) rfl (by kernel_rfl) (by kernel_rfl) (by kernel_rfl) (fun _ _ _ h => h) (Or.inl ⟨by rfl, ?hy1_44⟩) (by assumption) ?re1_44
        case hy1_44 => intro w hSw; (try dsimp only at hSw); go_simp; try with_reducible rfl
        try simp only [Act.put, List.getElem_toArray, List.getElem_cons_succ, List.getElem_cons_zero, List.setIfInBounds_toArray, List.set_cons_zero, List.set_cons_succ]
        refine' wpAnyH_take (i := 45) (v := _) rfl (by kernel_rfl) (by kernel_rfl) (by kernel_rfl) (fun _ _ _ h => h) (Or.inl ⟨by rfl, ?hy1_45⟩) (by assumption) ?re1_45
        case hy1_45 => intro w hSw; (try dsimp only at hSw); go_simp; try with_reducible rfl
        try simp only [Act.put, List.getElem_toArray, List.getElem_cons_succ, List.getElem_cons_zero, List.setIfInBounds_toArray, List.set_cons_zero, List.set_cons_succ]
        refine' wpAnyH_take (i := 46) (v := _) rfl (by kernel_rfl) (by kernel_rfl) (by kernel_rfl) (fun _ _ _ h => h) (Or.inl ⟨by rfl, ?hy1_46⟩) (by assumption) ?re1_46
        case hy1_46 => intro w hSw; (try dsimp only at hSw); go_simp; try with_reducible rfl
        try simp only [Act.put, List.getElem_toArray, List.getElem_cons_succ, List.getElem_cons_zero, List.setIfInBounds_toArray, List.set_cons_zero, List.set_cons_succ]
        refine' wpAnyH_take (i := 47) (v := _) rfl (by kernel_rfl) (by kernel_rfl) (by kernel_rfl) (fun _ _ _ h => h) (Or.inl ⟨by rfl, ?hy1_47⟩) (by assumption) ?re1_47
        case hy1_47 => intro w hSw; (try dsimp only at hSw); go_simp; try with_reducible rfl
        try simp only [Act.put, List.getElem_toArray, List.getElem_cons_succ, List.getElem_cons_zero, List.setIfInBounds_toArray, List.set_cons_zero, List.set_cons_succ]
        refine' wpAnyH_take (i := 48) (v := _) rfl (by kernel_rfl) (by kernel_rfl) (by kernel_rfl) (fun _ _ _ h => h) (Or.inl ⟨by rfl, ?hy1_48⟩) (by assumption) ?re1_48
        case hy1_48 => intro w hSw; (try dsimp only at hSw); go_simp; try with_reducible rfl
        try simp only [Act.put, List.getElem_toArray, List.getElem_cons_succ, List.getElem_cons_zero, List.setIfInBounds_toArray, List.set_cons_zero, List.set_cons_succ]
        refine wpAnyH_done (by kernel_rfl) ?_ _
        go_wp2_with fail
        go_meet
        exact ⟨rfl, Lib.hid F7⟩
      · have b0 : decide (p0 ≤ 0) = false := by simpa using h0
        by_cases h1 : p1 ≤ 0
        · have b1 : decide (p1 ≤ 0) = true := by simpa using h1
          have hz := PZ.out (.inr h1)
          have bz : (mv != 0) = false := by rw [hz]; rfl
          clear hz
          refine wp_region_held_drew (S := (fun W => W.cell? ⟨rx, 0, none⟩ = some (.int .i64 (lv : Int)) ∧ W.cell? ⟨rx, 1, none⟩ = some (.int .i64 mv) ∧ W.cell? ⟨rx, 2, none⟩ = some (.int .i64 (em : Int)) ∧ W.cell? ⟨px, 0, none⟩ = some (.int .i64 p0) ∧ W.cell? ⟨px, 1, none⟩ = some (.int .i64 p1) ∧ W.cell? ⟨c.y, 0, none⟩ = some (.pointer (some ⟨c.hb, 0, none⟩)))) (by kernel_rfl) ?_ (fun hHeld => ?_)
          · with_reducible first | exact KC.out _ (by assumption) | exact KC.out _ (Fr.refl _ _).drew | exact KC.out _ (Fr.refl _ _) | assumption
          refine' wpAnyH_take (i := 0) (v := _) rfl (by kernel_rfl) (by kernel_rfl) (by kernel_rfl) (fun _ _ _ h => h) (Or.inl ⟨by rfl, ?hy2_0⟩) (by assumption) ?re2_0
          case hy2_0 => intro w hSw; (try dsimp only at hSw); go_simp; try with_reducible rfl
          try simp only [Act.put, List.getElem_toArray, List.getElem_cons_succ, List.getElem_cons_zero, List.setIfInBounds_toArray, List.set_cons_zero, List.set_cons_succ]
          refine' wpAnyH_take (i := 1) (v := _) rfl (by kernel_rfl) (by kernel_rfl) (by kernel_rfl) (fun _ _ _ h => h) (Or.inl ⟨by rfl, ?hy2_1⟩) (by assumption) ?re2_1
          case hy2_1 => intro w hSw; (try dsimp only at hSw); go_simp; try with_reducible rfl
          try simp only [Act.put, List.getElem_toArray, List.getElem_cons_succ, List.getElem_cons_zero, List.setIfInBounds_toArray, List.set_cons_zero, List.set_cons_succ]
          refine' wpAnyH_take (i := 2) (v := _) rfl (by kernel_rfl) (by kernel_rfl) (by kernel_rfl) (fun _ _ _ h => h) (Or.inl ⟨by rfl, ?hy2_2⟩) (by assumption) ?re2_2
          case hy2_2 => intro w hSw; (try dsimp only at hSw); go_simp; try with_reducible rfl
          try simp only [Act.put, List.getElem_toArray, List.getElem_cons_succ, List.getElem_cons_zero, List.setIfInBounds_toArray, List.set_cons_zero, List.set_cons_succ]
          refine' wpAnyH_take (i := 3) (v := _) rfl (by kernel_rfl) (by kernel_rfl) (by kernel_rfl) (fun _ _ _ h => h) (Or.inl ⟨by rfl, ?hy2_3⟩) (by assumption) ?re2_3
          case hy2_3 => intro w hSw; (try dsimp only at hSw); go_simp; try with_reducible rfl
          try simp only [Act.put, List.getElem_toArray, List.getElem_cons_succ, List.getElem_cons_zero, List.setIfInBounds_toArray, List.set_cons_zero, List.set_cons_succ]
          refine' wpAnyH_take (i := 4) (v := _) rfl (by kernel_rfl) (by kernel_rfl) (by kernel_rfl) (fun _ _ _ h => h) (Or.inl ⟨by rfl, ?hy2_4⟩) (by assumption) ?re2_4
          case hy2_4 => intro w hSw; (try dsimp only at hSw); go_simp; try with_reducible rfl
          try simp only [Act.put, List.getElem_toArray, List.getElem_cons_succ, List.getElem_cons_zero, List.setIfInBounds_toArray, List.set_cons_zero, List.set_cons_succ]
          refine' wpAnyH_take (i := 5) (v := _) rfl (by kernel_rfl) (by kernel_rfl) (by kernel_rfl) (fun _ _ _ h => h) (Or.inl ⟨by rfl, ?hy2_5⟩) (by assumption) ?re2_5
          case hy2_5 => intro w hSw; (try dsimp only at hSw); go_simp; try with_reducible rfl
          try simp only [Act.put, List.getElem_toArray, List.getElem_cons_succ, List.getElem_cons_zero, List.setIfInBounds_toArray, List.set_cons_zero, List.set_cons_succ]
          refine' wpAnyH_take (i := 6) (v := _) rfl (by kernel_rfl) (by kernel_rfl) (by kernel_rfl) (fun _ _ _ h => h) (Or.inl ⟨by rfl, ?hy2_6⟩) (by assumption) ?re2_6
          case hy2_6 => intro w hSw; (try dsimp only at hSw); go_simp; try with_reducible rfl
          try simp only [Act.put, List.getElem_toArray, List.getElem_cons_succ, List.getElem_cons_zero, List.setIfInBounds_toArray, List.set_cons_zero, List.set_cons_succ]
          refine' wpAnyH_take (i := 7) (v := _) rfl (by kernel_rfl) (by kernel_rfl) (by kernel_rfl) (fun _ _ _ h => h) (Or.inl ⟨by rfl, ?hy2_7⟩) (by assumption) ?re2_7
          case hy2_7 => intro w hSw; (try dsimp only at hSw); go_simp; try with_reducible rfl
          try simp only [Act.put, List.getElem_toArray, List.getElem_cons_succ, List.getElem_cons_zero, List.setIfInBounds_toArray, List.set_cons_zero, List.set_cons_succ]
          refine' wpAnyH_take (i := 8) (v := _) rfl (by kernel_rfl) (by kernel_rfl) (by kernel_rfl) (fun _ _ _ h => h) (Or.inl ⟨by rfl, ?hy2_8⟩) (by assumption) ?re2_8
          case hy2_8 => intro w hSw; (try dsimp only at hSw); go_simp; try with_reducible rfl
          try simp only [Act.put, List.getElem_toArray, List.getElem_cons_succ, List.getElem_cons_zero, List.setIfInBounds_toArray, List.set_cons_zero, List.set_cons_succ]
          refine' wpAnyH_take (i := 9) (v := _) rfl (by kernel_rfl) (by kernel_rfl) (by kernel_rfl) (fun _ _ _ h => h) (Or.inl ⟨by rfl, ?hy2_9⟩) (by assumption) ?re2_9
          case hy2_9 => intro w hSw; (try dsimp only at hSw); go_simp; try with_reducible rfl
          try simp only [Act.put, List.getElem_toArray, List.getElem_cons_succ, List.getElem_cons_zero, List.setIfInBounds_toArray, List.set_cons_zero, List.set_cons_succ]
          refine' wpAnyH_take (i := 10) (v := _) rfl (by kernel_rfl) (by kernel_rfl) (by kernel_rfl) (fun _ _ _ h => h) (Or.inl ⟨by rfl, ?hy2_10⟩) (by assumption) ?re2_10
          case hy2_10 => intro w hSw; (try dsimp only at hSw); go_simp; try with_reducible rfl
          try simp only [Act.put, List.getElem_toArray, List.getElem_cons_succ, List.getElem_cons_zero, List.setIfInBounds_toArray, List.set_cons_zero, List.set_cons_succ]
          refine' wpAnyH_take (i := 11) (v := _) rfl (by kernel_rfl) (by kernel_rfl) (by kernel_rfl) (fun _ _ _ h => h) (Or.inl ⟨by rfl, ?hy2_11⟩) (by assumption) ?re2_11
          case hy2_11 => intro w hSw; (try dsimp only at hSw); go_simp; try with_reducible rfl
          try simp only [Act.put, List.getElem_toArray, List.getElem_cons_succ, List.getElem_cons_zero, List.setIfInBounds_toArray, List.set_cons_zero, List.set_cons_succ]
          refine' wpAnyH_take (i := 12) (v := _) rfl (by kernel_rfl) (by kernel_rfl) (by kernel_rfl) (fun _ _ _ h => h) (Or.inl ⟨by rfl, ?hy2_12⟩) (by assumption) ?re2_12
          case hy2_12 => intro w hSw; (try dsimp only at hSw); go_simp; try with_reducible rfl
          try simp only [Act.put, List.getElem_toArray, List.getElem_cons_succ, List.getElem_cons_zero, List.setIfInBounds_toArray, List.set_cons_zero, List.set_cons_succ]
          refine' wpAnyH_take (i := 13) (v := _) rfl (by kernel_rfl) (by kernel_rfl) (by kernel_rfl) (fun _ _ _ h => h) (Or.inl ⟨by rfl, ?hy2_13⟩) (by assumption) ?re2_13
          case hy2_13 => intro w hSw; (try dsimp only at hSw); go_simp; try with_reducible rfl
          try simp only [Act.put, List.getElem_toArray, List.getElem_cons_succ, List.getElem_cons_zero, List.setIfInBounds_toArray, List.set_cons_zero, List.set_cons_succ]
          refine' wpAnyH_take (i := 14) (v := _) rfl (by kernel_rfl) (by kernel_rfl) (by kernel_rfl) (fun _ _ _ h => h) (Or.inl ⟨by rfl, ?hy2_14⟩) (by assumption) ?re2_14
          case hy2_14 => intro w hSw; (try dsimp only at hSw); go_simp; try with_reducible rfl
          try simp only [Act.put, List.getElem_toArray, List.getElem_cons_succ, List.getElem_cons_zero, List.setIfInBounds_toArray, List.set_cons_zero, List.set_cons_succ]
          refine' wpAnyH_take (i := 15) (v := _) rfl (by kernel_rfl) (by kernel_rfl) (by kernel_rfl) (fun _ _ _ h => h) (Or.inl ⟨by rfl, ?hy2_15⟩) (by assumption) ?re2_15
          case hy2_15 => intro w hSw; (try dsimp only at hSw); go_simp; try with_reducible rfl
          try simp only [Act.put, List.getElem_toArray, List.getElem_cons_succ, List.getElem_cons_zero, List.setIfInBounds_toArray, List.set_cons_zero, List.set_cons_succ]
          refine' wpAnyH_take (i := 16) (v := _) rfl (by kernel_rfl) (by kernel_rfl) (by kernel_rfl) (fun _ _ _ h => h) (Or.inl ⟨by rfl, ?hy2_16⟩) (by assumption) ?re2_16
          case hy2_16 => intro w hSw; (try dsimp only at hSw); go_simp; try with_reducible rfl
          try simp only [Act.put, List.getElem_toArray, List.getElem_cons_succ, List.getElem_cons_zero, List.setIfInBounds_toArray, List.set_cons_zero, List.set_cons_succ]
          refine' wpAnyH_take (i := 17) (v := _) rfl (by kernel_rfl) (by kernel_rfl) (by kernel_rfl) (fun _ _ _ h => h) (Or.inl ⟨by rfl, ?hy2_17⟩) (by assumption) ?re2_17
          case hy2_17 => intro w hSw; (try dsimp only at hSw); go_simp; try with_reducible rfl
          try simp only [Act.put, List.getElem_toArray, List.getElem_cons_succ, List.getElem_cons_zero, List.setIfInBounds_toArray, List.set_cons_zero, List.set_cons_succ]
          refine' wpAnyH_take (i := 18) (v := _) rfl (by kernel_rfl) (by kernel_rfl) (by kernel_rfl) (fun _ _ _ h => h) (Or.inl ⟨by rfl, ?hy2_18⟩) (by assumption) ?re2_18
          case hy2_18 => intro w hSw; (try dsimp only at hSw); go_simp; try with_reducible rfl
          try simp only [Act.put, List.getElem_toArray, List.getElem_cons_succ, List.getElem_cons_zero, List.setIfInBounds_toArray, List.set_cons_zero, List.set_cons_succ]
          refine' wpAnyH_take (i := 19) (v := _) rfl (by kernel_rfl) (by kernel_rfl) (by kernel_rfl) (fun _ _ _ h => h) (Or.inl ⟨by rfl, ?hy2_19⟩) (by assumption) ?re2_19
          case hy2_19 => intro w hSw; (try dsimp only at hSw); go_simp; try with_reducible rfl
          try simp only [Act.put, List.getElem_toArray, List.getElem_cons_succ, List.getElem_cons_zero, List.setIfInBounds_toArray, List.set_cons_zero, List.set_cons_succ]
          refine' wpAnyH_take (i := 20) (v := _) rfl (by kernel_rfl) (by kernel_rfl) (by kernel_rfl) (fun _ _ _ h => h) (Or.inl ⟨by rfl, ?hy2_20⟩) (by assumption) ?re2_20
          case hy2_20 => intro w hSw; (try dsimp only at hSw); go_simp; try with_reducible rfl
          try simp only [Act.put, List.getElem_toArray, List.getElem_cons_succ, List.getElem_cons_zero, List.setIfInBounds_toArray, List.set_cons_zero, List.set_cons_succ]
          refine' wpAnyH_take (i := 21) (v := _) rfl (by kernel_rfl) (by kernel_rfl) (by kernel_rfl) (fun _ _ _ h => h) (Or.inl ⟨by rfl, ?hy2_21⟩) (by assumption) ?re2_21
          case hy2_21 => intro w hSw; (try dsimp only at hSw); go_simp; try with_reducible rfl
          try simp only [Act.put, List.getElem_toArray, List.getElem_cons_succ, List.getElem_cons_zero, List.setIfInBounds_toArray, List.set_cons_zero, List.set_cons_succ]
          refine' wpAnyH_take (i := 22) (v := _) rfl (by kernel_rfl) (by kernel_rfl) (by kernel_rfl) (fun _ _ _ h => h) (Or.inl ⟨by rfl, ?hy2_22⟩) (by assumption) ?re2_22
          case hy2_22 => intro w hSw; (try dsimp only at hSw); go_simp; try with_reducible rfl
          try simp only [Act.put, List.getElem_toArray, List.getElem_cons_succ, List.getElem_cons_zero, List.setIfInBounds_toArray, List.set_cons_zero, List.set_cons_succ]
          refine' wpAnyH_take (i := 23) (v := _) rfl (by kernel_rfl) (by kernel_rfl) (by kernel_rfl) (fun _ _ _ h => h) (Or.inl ⟨by rfl, ?hy2_23⟩) (by assumption) ?re2_23
          case hy2_23 => intro w hSw; (try dsimp only at hSw); go_simp; try with_reducible rfl
          try simp only [Act.put, List.getElem_toArray, List.getElem_cons_succ, List.getElem_cons_zero, List.setIfInBounds_toArray, List.set_cons_zero, List.set_cons_succ]
          refine' wpAnyH_take (i := 24) (v := _) rfl (by kernel_rfl) (by kernel_rfl) (by kernel_rfl) (fun _ _ _ h => h) (Or.inl ⟨by rfl, ?hy2_24⟩) (by assumption) ?re2_24
          case hy2_24 => intro w hSw; (try dsimp only at hSw); go_simp; try with_reducible rfl
          try simp only [Act.put, List.getElem_toArray, List.getElem_cons_succ, List.getElem_cons_zero, List.setIfInBounds_toArray, List.set_cons_zero, List.set_cons_succ]
          refine' wpAnyH_take (i := 25) (v := _) rfl (by kernel_rfl) (by kernel_rfl) (by kernel_rfl) (fun _ _ _ h => h) (Or.inl ⟨by rfl, ?hy2_25⟩) (by assumption) ?re2_25
          case hy2_25 => intro w hSw; (try dsimp only at hSw); go_simp; try with_reducible rfl
          try simp only [Act.put, List.getElem_toArray, List.getElem_cons_succ, List.getElem_cons_zero, List.setIfInBounds_toArray, List.set_cons_zero, List.set_cons_succ]
          refine' wpAnyH_take (i := 26) (v := _) rfl (by kernel_rfl) (by kernel_rfl) (by kernel_rfl) (fun _ _ _ h => h) (Or.inl ⟨by rfl, ?hy2_26⟩) (by assumption) ?re2_26
          case hy2_26 => intro w hSw; (try dsimp only at hSw); go_simp; try with_reducible rfl
          try simp only [Act.put, List.getElem_toArray, List.getElem_cons_succ, List.getElem_cons_zero, List.setIfInBounds_toArray, List.set_cons_zero, List.set_cons_succ]
          refine' wpAnyH_take (i := 27) (v := _) rfl (by kernel_rfl) (by kernel_rfl) (by kernel_rfl) (fun _ _ _ h => h) (Or.inl ⟨by rfl, ?hy2_27⟩) (by assumption) ?re2_27
          case hy2_27 => intro w hSw; (try dsimp only at hSw); go_simp; try with_reducible rfl
          try simp only [Act.put, List.getElem_toArray, List.getElem_cons_succ, List.getElem_cons_zero, List.setIfInBounds_toArray, List.set_cons_zero, List.set_cons_succ]
          refine' wpAnyH_take (i := 28) (v := _) rfl (by kernel_rfl) (by kernel_rfl) (by kernel_rfl) (fun _ _ _ h => h) (Or.inl ⟨by rfl, ?hy2_28⟩) (by assumption) ?re2_28
          case hy2_28 => intro w hSw; (try dsimp only at hSw); go_simp; try with_reducible rfl
          try simp only [Act.put, List.getElem_toArray, List.getElem_cons_succ, List.getElem_cons_zero, List.setIfInBounds_toArray, List.set_cons_zero, List.set_cons_succ]
          refine' wpAnyH_take (i := 29) (v := _) rfl (by kernel_rfl) (by kernel_rfl) (by kernel_rfl) (fun _ _ _ h => h) (Or.inl ⟨by rfl, ?hy2_29⟩) (by assumption) ?re2_29
          case hy2_29 => intro w hSw; (try dsimp only at hSw); go_simp; try with_reducible rfl
          try simp only [Act.put, List.getElem_toArray, List.getElem_cons_succ, List.getElem_cons_zero, List.setIfInBounds_toArray, List.set_cons_zero, List.set_cons_succ]
          refine' wpAnyH_take (i := 30) (v := _) rfl (by kernel_rfl) (by kernel_rfl) (by kernel_rfl) (fun _ _ _ h => h) (Or.inl ⟨by rfl, ?hy2_30⟩) (by assumption) ?re2_30
          case hy2_30 => intro w hSw; (try dsimp only at hSw); go_simp; try with_reducible rfl
          try simp only [Act.put, List.getElem_toArray, List.getElem_cons_succ, List.getElem_cons_zero, List.setIfInBounds_toArray, List.set_cons_zero, List.set_cons_succ]
          refine' wpAnyH_take (i := 31) (v := _) rfl (by kernel_rfl) (by kernel_rfl) (by kernel_rfl) (fun _ _ _ h => h) (Or.inl ⟨by rfl, ?hy2_31⟩) (by assumption) ?re2_31
          case hy2_31 => intro w hSw; (try dsimp only at hSw); go_simp; try with_reducible rfl
          try simp only [Act.put, List.getElem_toArray, List.getElem_cons_succ, List.getElem_cons_zero, List.setIfInBounds_toArray, List.set_cons_zero, List.set_cons_succ]
          refine' wpAnyH_take (i := 32) (v := _) rfl (by kernel_rfl) (by kernel_rfl) (by kernel_rfl) (fun _ _ _ h => h) (Or.inl ⟨by rfl, ?hy2_32⟩) (by assumption) ?re2_32
          case hy2_32 => intro w hSw; (try dsimp only at hSw); go_simp; try with_reducible rfl
          try simp only [Act.put, List.getElem_toArray, List.getElem_cons_succ, List.getElem_cons_zero, List.setIfInBounds_toArray, List.set_cons_zero, List.set_cons_succ]
          refine' wpAnyH_take (i := 33) (v := _) rfl (by kernel_rfl) (by kernel_rfl) (by kernel_rfl) (fun _ _ _ h => h) (Or.inl ⟨by rfl, ?hy2_33⟩) (by assumption) ?re2_33
          case hy2_33 => intro w hSw; (try dsimp only at hSw); go_simp; try with_reducible rfl
          try simp only [Act.put, List.getElem_toArray, List.getElem_cons_succ, List.getElem_cons_zero, List.setIfInBounds_toArray, List.set_cons_zero, List.set_cons_succ]
          refine' wpAnyH_take (i := 34) (v := _) rfl (by kernel_rfl) (by kernel_rfl) (by kernel_rfl) (fun _ _ _ h => h) (Or.inl ⟨by rfl, ?hy2_34⟩) (by assumption) ?re2_34
          case hy2_34 => intro w hSw; (try dsimp only at hSw); go_simp; try with_reducible rfl
          try simp only [Act.put, List.getElem_toArray, List.getElem_cons_succ, List.getElem_cons_zero, List.setIfInBounds_toArray, List.set_cons_zero, List.set_cons_succ]
          refine' wpAnyH_take (i := 35) (v := _) rfl (by kernel_rfl) (by kernel_rfl) (by kernel_rfl) (fun _ _ _ h => h) (Or.inl ⟨by rfl, ?hy2_35⟩) (by assumption) ?re2_35
          case hy2_35 => intro w hSw; (try dsimp only at hSw); go_simp; try with_reducible rfl
          try simp only [Act.put, List.getElem_toArray, List.getElem_cons_succ, List.getElem_cons_zero, List.setIfInBounds_toArray, List.set_cons_zero, List.set_cons_succ]
          refine' wpAnyH_take (i := 36) (v := _) rfl (by kernel_rfl) (by kernel_rfl) (by kernel_rfl) (fun _ _ _ h => h) (Or.inl ⟨by rfl, ?hy2_36⟩) (by assumption) ?re2_36
          case hy2_36 => intro w hSw; (try dsimp only at hSw); go_simp; try with_reducible rfl
          try simp only [Act.put, List.getElem_toArray, List.getElem_cons_succ, List.getElem_cons_zero, List.setIfInBounds_toArray, List.set_cons_zero, List.set_cons_succ]
          refine wpAnyH_ready (rs := [37]) (by kernel_rfl) (by simp) ?_
          refine AllReadyH.cons rfl (fun K hK => ?_) AllReadyH.nil
          go_simp
          (go_at_call 33; refine (CA.out _ (by repeat (first | exact Fr.refl _ _ | with_reducible assumption | apply Fr.drew))).mono ?_; rintro e wA ⟨rfl, rfl⟩)
          refine hK.out _ _ ?_ (fun hHeld2 => ?_)
          · with_reducible first | exact KC.out _ (by assumption) | exact KC.out _ (Fr.refl _ _).drew | exact KC.out _ (Fr.refl _ _) | assumption
          clear hK K hHeld
          try simp only [Act.put, List.getElem_toArray, List.getElem_cons_succ, List.getElem_cons_zero, List.setIfInBounds_toArray, List.set_cons_zero, List.set_cons_succ]
          refine wpAnyH_ready (rs := [38]) (by kernel_rfl) (by simp) ?_
          refine AllReadyH.cons rfl (fun K hK => ?_) AllReadyH.nil
          go_simp
          (go_at_call 34; refine (CE.out _ (by repeat (first | exact Fr.refl _ _ | with_reducible assumption | apply Fr.drew))).mono ?_; rintro e w6 ⟨rfl, F6⟩; have F7 : Fr [] w5 w6 := Fr.same (by repeat (first | exact Fr.refl _ _ | with_reducible assumption | apply Fr.drew)) F6)
          refine hK.out _ _ ?_ (fun hHeld3 => ?_)
          · with_reducible first | exact KC.out _ (by assumption) | exact KC.out _ (Fr.refl _ _).drew | exact KC.out _ (Fr.refl _ _) | assumption
          clear hK K hHeld2
          try simp only [Act.put, List.getElem_toArray, List.getElem_cons_succ, List.getElem_cons_zero, List.setIfInBounds_toArray, List.set_cons_zero, List.set_cons_succ]
          refine' wpAnyH_take (i := 39) (v := _) rfl (by kernel_rfl) (by kernel_rfl) (by kernel_rfl) (fun _ _ _ h => h) (Or.inl ⟨by rfl, ?hy2_39⟩) (by assumption) ?re2_39
          case hy2_39 => intro w hSw; (try dsimp only at hSw); go_simp; try with_reducible rfl
          try simp only [Act.put, List.getElem_toArray, List.getElem_cons_succ, List.getElem_cons_zero, List.setIfInBounds_toArray, List.set_cons_zero, List.set_cons_succ]
          refine' wpAnyH_take (i := 40) (v := _) rfl (by kernel_rfl) (by kernel_rfl) (by kernel_rfl) (fun _ _ _ h => h) (Or.inl ⟨by rfl, ?hy2_40⟩) (by assumption) ?re2_40
          case hy2_40 => intro w hSw; (try dsimp only at hSw); go_simp; try with_reducible rfl
          try simp only [Act.put, List.getElem_toArray, List.getElem_cons_succ, List.getElem_cons_zero, List.setIfInBounds_toArray, List.set_cons_zero, List.set_cons_succ]
          refine' wpAnyH_take (i := 41) (v := _) rfl (by kernel_rfl) (by kernel_rfl) (by kernel_rfl) (fun _ _ _ h => h) (Or.inl ⟨by rfl, ?hy2_41⟩) (by assumption) ?re2_41
          case hy2_41 => intro w hSw; (try dsimp only at hSw); go_simp; try with_reducible rfl
          try simp only [Act.put, List.getElem_toArray, List.getElem_cons_succ, List.getElem_cons_zero, List.setIfInBounds_toArray, List.set_cons_zero, List.set_cons_succ]
          refine' wpAnyH_take (i := 42) (v := _) rfl (by kernel_rfl) (by kernel_rfl) (by kernel_rfl) (fun _ _ _ h => h) (Or.inl ⟨by rfl, ?hy2_42⟩) (by assumption) ?re2_42
          case hy2_42 => intro w hSw; (try dsimp only at hSw); go_simp; try with_reducible rfl
          try simp only [Act.put, List.getElem_toArray, List.getElem_cons_succ, List.getElem_cons_zero, List.setIfInBounds_toArray, List.set_cons_zero, List.set_cons_succ]
          refine' wpAnyH_take (i := 43) (v := _) rfl (by kernel_rfl) (by kernel_rfl) (by kernel_rfl) (fun _ _ _ h => h) (Or.inl ⟨by rfl, ?hy2_43⟩) (by assumption) ?re2_43
          case hy2_43 => intro w hSw; (try dsimp only at hSw); go_simp; try with_reducible rfl
          try simp only [Act.put, List.getElem_toArray, List.getElem_cons_succ, List.getElem_cons_zero, List.setIfInBounds_toArray, List.set_cons_zero, List.set_cons_succ]
          refine' wpAnyH_take (i := 44) (v := _) rfl (by kernel_rfl) (by kernel_rfl) (by kernel_rfl) (fun _ _ _ h => h) (Or.inl ⟨by rfl, ?hy2_44⟩) (by assumption) ?re2_44
          case hy2_44 => intro w hSw; (try dsimp only at hSw); go_simp; try with_reducible rfl
          try simp only [Act.put, List.getElem_toArray, List.getElem_cons_succ, List.getElem_cons_zero, List.setIfInBounds_toArray, List.set_cons_zero, List.set_cons_succ]
          refine' wpAnyH_take (i := 45) (v := _) rfl (by kernel_rfl) (by kernel_rfl) (by kernel_rfl) (fun _ _ _ h => h) (Or.inl ⟨by rfl, ?hy2_45⟩) (by assumption) ?re2_45
          case hy2_45 => intro w hSw; (try dsimp only at hSw); go_simp; try with_reducible rfl
          try simp only [Act.put, List.getElem_toArray, List.getElem_cons_succ, List.getElem_cons_zero, List.setIfInBounds_toArray, List.set_cons_zero, List.set_cons_succ]
          refine' wpAnyH_take (i := 46) (v := _) rfl (by kernel_rfl) (by kernel_rfl) (by kernel_rfl) (fun _ _ _ h => h) (Or.inl ⟨by rfl, ?hy2_46⟩) (by assumption) ?re2_46
          case hy2_46 => intro w hSw; (try dsimp only at hSw); go_simp; try with_reducible rfl
          try simp only [Act.put, List.getElem_toArray, List.getElem_cons_succ, List.getElem_cons_zero, List.setIfInBounds_toArray, List.set_cons_zero, List.set_cons_succ]
          refine' wpAnyH_take (i := 47) (v := _) rfl (by kernel_rfl) (by kernel_rfl) (by kernel_rfl) (fun _ _ _ h => h) (Or.inl ⟨by rfl, ?hy2_47⟩) (by assumption) ?re2_47
          case hy2_47 => intro w hSw; (try dsimp only at hSw); go_simp; try with_reducible rfl
          try simp only [Act.put, List.getElem_toArray, List.getElem_cons_succ, List.getElem_cons_zero, List.setIfInBounds_toArray, List.set_cons_zero, List.set_cons_succ]
          refine' wpAnyH_take (i := 48) (v := _) rfl (by kernel_rfl) (by kernel_rfl) (by kernel_rfl) (fun _ _ _ h => h) (Or.inl ⟨by rfl, ?hy2_48⟩) (by assumption) ?re2_48
          case hy2_48 => intro w hSw; (try dsimp only at hSw); go_simp; try with_reducible rfl
          try simp only [Act.put, List.getElem_toArray, List.getElem_cons_succ, List.getElem_cons_zero, List.setIfInBounds_toArray, List.set_cons_zero, List.set_cons_succ]
          refine wpAnyH_done (by kernel_rfl) ?_ _
          go_wp2_with fail
          go_meet
          exact ⟨rfl, Lib.hid F7⟩
        · have b1 : decide (p1 ≤ 0) = false := by simpa using h1
          refine wp_region_held_drew (S := (fun W => W.cell? ⟨rx, 0, none⟩ = some (.int .i64 (lv : Int)) ∧ W.cell? ⟨rx, 1, none⟩ = some (.int .i64 mv) ∧ W.cell? ⟨rx, 2, none⟩ = some (.int .i64 (em : Int)) ∧ W.cell? ⟨px, 0, none⟩ = some (.int .i64 p0) ∧ W.cell? ⟨px, 1, none⟩ = some (.int .i64 p1) ∧ W.cell? ⟨c.y, 0, none⟩ = some (.pointer (some ⟨c.hb, 0, none⟩)))) (by kernel_rfl) ?_ (fun hHeld => ?_)
          · with_reducible first | exact KC.out _ (by assumption) | exact KC.out _ (Fr.refl _ _).drew | exact KC.out _ (Fr.refl _ _) | assumption
          refine' wpAnyH_take (i := 0) (v := _) rfl (by kernel_rfl) (by kernel_rfl) (by kernel_rfl) (fun _ _ _ h => h) (Or.inl ⟨by rfl, ?hy3_0⟩) (by assumption) ?re3_0
          case hy3_0 => intro w hSw; (try dsimp only at hSw); go_simp; try with_reducible rfl
          try simp only [Act.put, List.getElem_toArray, List.getElem_cons_succ, List.getElem_cons_zero, List.setIfInBounds_toArray, List.set_cons_zero, List.set_cons_succ]
          refine' wpAnyH_take (i := 1) (v := _) rfl (by kernel_rfl) (by kernel_rfl) (by kernel_rfl) (fun _ _ _ h => h) (Or.inl ⟨by rfl, ?hy3_1⟩) (by assumption) ?re3_1
          case hy3_1 => intro w hSw; (try dsimp only at hSw); go_simp; try with_reducible rfl
          try simp only [Act.put, List.getElem_toArray, List.getElem_cons_succ, List.getElem_cons_zero, List.setIfInBounds_toArray, List.set_cons_zero, List.set_cons_succ]
          refine' wpAnyH_take (i := 2) (v := _) rfl (by kernel_rfl) (by kernel_rfl) (by kernel_rfl) (fun _ _ _ h => h) (Or.inl ⟨by rfl, ?hy3_2⟩) (by assumption) ?re3_2
          case hy3_2 => intro w hSw; (try dsimp only at hSw); go_simp; try with_reducible rfl
          try simp only [Act.put, List.getElem_toArray, List.getElem_cons_succ, List.getElem_cons_zero, List.setIfInBounds_toArray, List.set_cons_zero, List.set_cons_succ]
          refine' wpAnyH_take (i := 3) (v := _) rfl (by kernel_rfl) (by kernel_rfl) (by kernel_rfl) (fun _ _ _ h => h) (Or.inl ⟨by rfl, ?hy3_3⟩) (by assumption) ?re3_3
          case hy3_3 => intro w hSw; (try dsimp only at hSw); go_simp; try with_reducible rfl
          try simp only [Act.put, List.getElem_toArray, List.getElem_cons_succ, List.getElem_cons_zero, List.setIfInBounds_toArray, List.set_cons_zero, List.set_cons_succ]
          refine' wpAnyH_take (i := 4) (v := _) rfl (by kernel_rfl) (by kernel_rfl) (by kernel_rfl) (fun _ _ _ h => h) (Or.inl ⟨by rfl, ?hy3_4⟩) (by assumption) ?re3_4
          case hy3_4 => intro w hSw; (try dsimp only at hSw); go_simp; try with_reducible rfl
          try simp only [Act.put, List.getElem_toArray, List.getElem_cons_succ, List.getElem_cons_zero, List.setIfInBounds_toArray, List.set_cons_zero, List.set_cons_succ]
          refine' wpAnyH_take (i := 5) (v := _) rfl (by kernel_rfl) (by kernel_rfl) (by kernel_rfl) (fun _ _ _ h => h) (Or.inl ⟨by rfl, ?hy3_5⟩) (by assumption) ?re3_5
          case hy3_5 => intro w hSw; (try dsimp only at hSw); go_simp; try with_reducible rfl
          try simp only [Act.put, List.getElem_toArray, List.getElem_cons_succ, List.getElem_cons_zero, List.setIfInBounds_toArray, List.set_cons_zero, List.set_cons_succ]
          refine' wpAnyH_take (i := 6) (v := _) rfl (by kernel_rfl) (by kernel_rfl) (by kernel_rfl) (fun _ _ _ h => h) (Or.inl ⟨by rfl, ?hy3_6⟩) (by assumption) ?re3_6
          case hy3_6 => intro w hSw; (try dsimp only at hSw); go_simp; try with_reducible rfl
          try simp only [Act.put, List.getElem_toArray, List.getElem_cons_succ, List.getElem_cons_zero, List.setIfInBounds_toArray, List.set_cons_zero, List.set_cons_succ]
          refine' wpAnyH_take (i := 7) (v := _) rfl (by kernel_rfl) (by kernel_rfl) (by kernel_rfl) (fun _ _ _ h => h) (Or.inl ⟨by rfl, ?hy3_7⟩) (by assumption) ?re3_7
          case hy3_7 => intro w hSw; (try dsimp only at hSw); go_simp; try with_reducible rfl
          try simp only [Act.put, List.getElem_toArray, List.getElem_cons_succ, List.getElem_cons_zero, List.setIfInBounds_toArray, List.set_cons_zero, List.set_cons_succ]
          refine' wpAnyH_take (i := 8) (v := _) rfl (by kernel_rfl) (by kernel_rfl) (by kernel_rfl) (fun _ _ _ h => h) (Or.inl ⟨by rfl, ?hy3_8⟩) (by assumption) ?re3_8
          case hy3_8 => intro w hSw; (try dsimp only at hSw); go_simp; try with_reducible rfl
          try simp only [Act.put, List.getElem_toArray, List.getElem_cons_succ, List.getElem_cons_zero, List.setIfInBounds_toArray, List.set_cons_zero, List.set_cons_succ]
          refine' wpAnyH_take (i := 9) (v := _) rfl (by kernel_rfl) (by kernel_rfl) (by kernel_rfl) (fun _ _ _ h => h) (Or.inl ⟨by rfl, ?hy3_9⟩) (by assumption) ?re3_9
          case hy3_9 => intro w hSw; (try dsimp only at hSw); go_simp; try with_reducible rfl
          try simp only [Act.put, List.getElem_toArray, List.getElem_cons_succ, List.getElem_cons_zero, List.setIfInBounds_toArray, List.set_cons_zero, List.set_cons_succ]
          refine' wpAnyH_take (i := 10) (v := _) rfl (by kernel_rfl) (by kernel_rfl) (by kernel_rfl) (fun _ _ _ h => h) (Or.inl ⟨by rfl, ?hy3_10⟩) (by assumption) ?re3_10
          case hy3_10 => intro w hSw; (try dsimp only at hSw); go_simp; try with_reducible rfl
          try simp only [Act.put, List.getElem_toArray, List.getElem_cons_succ, List.getElem_cons_zero, List.setIfInBounds_toArray, List.set_cons_zero, List.set_cons_succ]
          refine' wpAnyH_take (i := 11) (v := _) rfl (by kernel_rfl) (by kernel_rfl) (by kernel_rfl) (fun _ _ _ h => h) (Or.inl ⟨by rfl, ?hy3_11⟩) (by assumption) ?re3_11
          case hy3_11 => intro w hSw; (try dsimp only at hSw); go_simp; try with_reducible rfl
          try simp only [Act.put, List.getElem_toArray, List.getElem_cons_succ, List.getElem_cons_zero, List.setIfInBounds_toArray, List.set_cons_zero, List.set_cons_succ]
          refine' wpAnyH_take (i := 12) (v := _) rfl (by kernel_rfl) (by kernel_rfl) (by kernel_rfl) (fun _ _ _ h => h) (Or.inl ⟨by rfl, ?hy3_12⟩) (by assumption) ?re3_12
          case hy3_12 => intro w hSw; (try dsimp only at hSw); go_simp; try with_reducible rfl
          try simp only [Act.put, List.getElem_toArray, List.getElem_cons_succ, List.getElem_cons_zero, List.setIfInBounds_toArray, List.set_cons_zero, List.set_cons_succ]
          refine' wpAnyH_take (i := 13) (v := _) rfl (by kernel_rfl) (by kernel_rfl) (by kernel_rfl) (fun _ _ _ h => h) (Or.inl ⟨by rfl, ?hy3_13⟩) (by assumption) ?re3_13
          case hy3_13 => intro w hSw; (try dsimp only at hSw); go_simp; try with_reducible rfl
          try simp only [Act.put, List.getElem_toArray, List.getElem_cons_succ, List.getElem_cons_zero, List.setIfInBounds_toArray, List.set_cons_zero, List.set_cons_succ]
          refine' wpAnyH_take (i := 14) (v := _) rfl (by kernel_rfl) (by kernel_rfl) (by kernel_rfl) (fun _ _ _ h => h) (Or.inl ⟨by rfl, ?hy3_14⟩) (by assumption) ?re3_14
          case hy3_14 => intro w hSw; (try dsimp only at hSw); go_simp; try with_reducible rfl
          try simp only [Act.put, List.getElem_toArray, List.getElem_cons_succ, List.getElem_cons_zero, List.setIfInBounds_toArray, List.set_cons_zero, List.set_cons_succ]
          refine' wpAnyH_take (i := 15) (v := _) rfl (by kernel_rfl) (by kernel_rfl) (by kernel_rfl) (fun _ _ _ h => h) (Or.inl ⟨by rfl, ?hy3_15⟩) (by assumption) ?re3_15
          case hy3_15 => intro w hSw; (try dsimp only at hSw); go_simp; try with_reducible rfl
          try simp only [Act.put, List.getElem_toArray, List.getElem_cons_succ, List.getElem_cons_zero, List.setIfInBounds_toArray, List.set_cons_zero, List.set_cons_succ]
          refine' wpAnyH_take (i := 16) (v := _) rfl (by kernel_rfl) (by kernel_rfl) (by kernel_rfl) (fun _ _ _ h => h) (Or.inl ⟨by rfl, ?hy3_16⟩) (by assumption) ?re3_16
          case hy3_16 => intro w hSw; (try dsimp only at hSw); go_simp; try with_reducible rfl
          try simp only [Act.put, List.getElem_toArray, List.getElem_cons_succ, List.getElem_cons_zero, List.setIfInBounds_toArray, List.set_cons_zero, List.set_cons_succ]
          refine' wpAnyH_take (i := 17) (v := _) rfl (by kernel_rfl) (by kernel_rfl) (by kernel_rfl) (fun _ _ _ h => h) (Or.inl ⟨by rfl, ?hy3_17⟩) (by assumption) ?re3_17
          case hy3_17 => intro w hSw; (try dsimp only at hSw); go_simp; try with_reducible rfl
          try simp only [Act.put, List.getElem_toArray, List.getElem_cons_succ, List.getElem_cons_zero, List.setIfInBounds_toArray, List.set_cons_zero, List.set_cons_succ]
          refine' wpAnyH_take (i := 18) (v := _) rfl (by kernel_rfl) (by kernel_rfl) (by kernel_rfl) (fun _ _ _ h => h) (Or.inl ⟨by rfl, ?hy3_18⟩) (by assumption) ?re3_18
          case hy3_18 => intro w hSw; (try dsimp only at hSw); go_simp; try with_reducible rfl
          try simp only [Act.put, List.getElem_toArray, List.getElem_cons_succ, List.getElem_cons_zero, List.setIfInBounds_toArray, List.set_cons_zero, List.set_cons_succ]
          refine' wpAnyH_take (i := 19) (v := _) rfl (by kernel_rfl) (by kernel_rfl) (by kernel_rfl) (fun _ _ _ h => h) (Or.inl ⟨by rfl, ?hy3_19⟩) (by assumption) ?re3_19
          case hy3_19 => intro w hSw; (try dsimp only at hSw); go_simp; try with_reducible rfl
          try simp only [Act.put, List.getElem_toArray, List.getElem_cons_succ, List.getElem_cons_zero, List.setIfInBounds_toArray, List.set_cons_zero, List.set_cons_succ]
          refine' wpAnyH_take (i := 20) (v := _) rfl (by kernel_rfl) (by kernel_rfl) (by kernel_rfl) (fun _ _ _ h => h) (Or.inl ⟨by rfl, ?hy3_20⟩) (by assumption) ?re3_20
          case hy3_20 => intro w hSw; (try dsimp only at hSw); go_simp; try with_reducible rfl
          try simp only [Act.put, List.getElem_toArray, List.getElem_cons_succ, List.getElem_cons_zero, List.setIfInBounds_toArray, List.set_cons_zero, List.set_cons_succ]
          refine' wpAnyH_take (i := 21) (v := _) rfl (by kernel_rfl) (by kernel_rfl) (by kernel_rfl) (fun _ _ _ h => h) (Or.inl ⟨by rfl, ?hy3_21⟩) (by assumption) ?re3_21
          case hy3_21 => intro w hSw; (try dsimp only at hSw); go_simp; try with_reducible rfl
          try simp only [Act.put, List.getElem_toArray, List.getElem_cons_succ, List.getElem_cons_zero, List.setIfInBounds_toArray, List.set_cons_zero, List.set_cons_succ]
          refine' wpAnyH_take (i := 22) (v := _) rfl (by kernel_rfl) (by kernel_rfl) (by kernel_rfl) (fun _ _ _ h => h) (Or.inl ⟨by rfl, ?hy3_22⟩) (by assumption) ?re3_22
          case hy3_22 => intro w hSw; (try dsimp only at hSw); go_simp; try with_reducible rfl
          try simp only [Act.put, List.getElem_toArray, List.getElem_cons_succ, List.getElem_cons_zero, List.setIfInBounds_toArray, List.set_cons_zero, List.set_cons_succ]
          refine' wpAnyH_take (i := 23) (v := _) rfl (by kernel_rfl) (by kernel_rfl) (by kernel_rfl) (fun _ _ _ h => h) (Or.inl ⟨by rfl, ?hy3_23⟩) (by assumption) ?re3_23
          case hy3_23 => intro w hSw; (try dsimp only at hSw); go_simp; try with_reducible rfl
          try simp only [Act.put, List.getElem_toArray, List.getElem_cons_succ, List.getElem_cons_zero, List.setIfInBounds_toArray, List.set_cons_zero, List.set_cons_succ]
          refine' wpAnyH_take (i := 24) (v := _) rfl (by kernel_rfl) (by kernel_rfl) (by kernel_rfl) (fun _ _ _ h => h) (Or.inl ⟨by rfl, ?hy3_24⟩) (by assumption) ?re3_24
          case hy3_24 => intro w hSw; (try dsimp only at hSw); go_simp; try with_reducible rfl
          try simp only [Act.put, List.getElem_toArray, List.getElem_cons_succ, List.getElem_cons_zero, List.setIfInBounds_toArray, List.set_cons_zero, List.set_cons_succ]
          refine wpAnyH_take (i := 25) (v := undef) rfl (by kernel_rfl) (by kernel_rfl) (by kernel_rfl) (fun _ _ _ h => h) (Or.inr ⟨by rfl, rfl⟩) (by assumption) ?_
          try simp only [Act.put, List.getElem_toArray, List.getElem_cons_succ, List.getElem_cons_zero, List.setIfInBounds_toArray, List.set_cons_zero, List.set_cons_succ]
          refine wpAnyH_take (i := 26) (v := undef) rfl (by kernel_rfl) (by kernel_rfl) (by kernel_rfl) (fun _ _ _ h => h) (Or.inr ⟨by rfl, rfl⟩) (by assumption) ?_
          try simp only [Act.put, List.getElem_toArray, List.getElem_cons_succ, List.getElem_cons_zero, List.setIfInBounds_toArray, List.set_cons_zero, List.set_cons_succ]
          refine wpAnyH_take (i := 27) (v := undef) rfl (by kernel_rfl) (by kernel_rfl) (by kernel_rfl) (fun _ _ _ h => h) (Or.inr ⟨by rfl, rfl⟩) (by assumption) ?_
          try simp only [Act.put, List.getElem_toArray, List.getElem_cons_succ, List.getElem_cons_zero, List.setIfInBounds_toArray, List.set_cons_zero, List.set_cons_succ]
          refine' wpAnyH_take (i := 28) (v := _) rfl (by kernel_rfl) (by kernel_rfl) (by kernel_rfl) (fun _ _ _ h => h) (Or.inl ⟨by rfl, ?hy3_28⟩) (by assumption) ?re3_28
          case hy3_28 => intro w hSw; (try dsimp only at hSw); go_simp; try with_reducible rfl
          try simp only [Act.put, List.getElem_toArray, List.getElem_cons_succ, List.getElem_cons_zero, List.setIfInBounds_toArray, List.set_cons_zero, List.set_cons_succ]
          refine' wpAnyH_take (i := 29) (v := _) rfl (by kernel_rfl) (by kernel_rfl) (by kernel_rfl) (fun _ _ _ h => h) (Or.inl ⟨by rfl, ?hy3_29⟩) (by assumption) ?re3_29
          case hy3_29 => intro w hSw; (try dsimp only at hSw); go_simp; try with_reducible rfl
          try simp only [Act.put, List.getElem_toArray, List.getElem_cons_succ, List.getElem_cons_zero, List.setIfInBounds_toArray, List.set_cons_zero, List.set_cons_succ]
          refine' wpAnyH_take (i := 30) (v := _) rfl (by kernel_rfl) (by kernel_rfl) (by kernel_rfl) (fun _ _ _ h => h) (Or.inl ⟨by rfl, ?hy3_30⟩) (by assumption) ?re3_30
          case hy3_30 => intro w hSw; (try dsimp only at hSw); go_simp; try with_reducible rfl
          try simp only [Act.put, List.getElem_toArray, List.getElem_cons_succ, List.getElem_cons_zero, List.setIfInBounds_toArray, List.set_cons_zero, List.set_cons_succ]
          refine' wpAnyH_take (i := 31) (v := _) rfl (by kernel_rfl) (by kernel_rfl) (by kernel_rfl) (fun _ _ _ h => h) (Or.inl ⟨by rfl, ?hy3_31⟩) (by assumption) ?re3_31
          case hy3_31 => intro w hSw; (try dsimp only at hSw); go_simp; try with_reducible rfl
          try simp only [Act.put, List.getElem_toArray, List.getElem_cons_succ, List.getElem_cons_zero, List.setIfInBounds_toArray, List.set_cons_zero, List.set_cons_succ]
          refine' wpAnyH_take (i := 32) (v := _) rfl (by kernel_rfl) (by kernel_rfl) (by kernel_rfl) (fun _ _ _ h => h) (Or.inl ⟨by rfl, ?hy3_32⟩) (by assumption) ?re3_32
          case hy3_32 => intro w hSw; (try dsimp only at hSw); go_simp; try with_reducible rfl
          try simp only [Act.put, List.getElem_toArray, List.getElem_cons_succ, List.getElem_cons_zero, List.setIfInBounds_toArray, List.set_cons_zero, List.set_cons_succ]
          refine' wpAnyH_take (i := 33) (v := _) rfl (by kernel_rfl) (by kernel_rfl) (by kernel_rfl) (fun _ _ _ h => h) (Or.inl ⟨by rfl, ?hy3_33⟩) (by assumption) ?re3_33
          case hy3_33 => intro w hSw; (try dsimp only at hSw); go_simp; try with_reducible rfl
          try simp only [Act.put, List.getElem_toArray, List.getElem_cons_succ, List.getElem_cons_zero, List.setIfInBounds_toArray, List.set_cons_zero, List.set_cons_succ]
          refine' wpAnyH_take (i := 34) (v := _) rfl (by kernel_rfl) (by kernel_rfl) (by kernel_rfl) (fun _ _ _ h => h) (Or.inl ⟨by rfl, ?hy3_34⟩) (by assumption) ?re3_34
          case hy3_34 => intro w hSw; (try dsimp only at hSw); go_simp; try with_reducible rfl
          try simp only [Act.put, List.getElem_toArray, List.getElem_cons_succ, List.getElem_cons_zero, List.setIfInBounds_toArray, List.set_cons_zero, List.set_cons_succ]
          refine' wpAnyH_take (i := 35) (v := _) rfl (by kernel_rfl) (by kernel_rfl) (by kernel_rfl) (fun _ _ _ h => h) (Or.inl ⟨by rfl, ?hy3_35⟩) (by assumption) ?re3_35
          case hy3_35 => intro w hSw; (try dsimp only at hSw); go_simp; try with_reducible rfl
          try simp only [Act.put, List.getElem_toArray, List.getElem_cons_succ, List.getElem_cons_zero, List.setIfInBounds_toArray, List.set_cons_zero, List.set_cons_succ]
          refine' wpAnyH_take (i := 36) (v := _) rfl (by kernel_rfl) (by kernel_rfl) (by kernel_rfl) (fun _ _ _ h => h) (Or.inl ⟨by rfl, ?hy3_36⟩) (by assumption) ?re3_36
          case hy3_36 => intro w hSw; (try dsimp only at hSw); go_simp; try with_reducible rfl
          try simp only [Act.put, List.getElem_toArray, List.getElem_cons_succ, List.getElem_cons_zero, List.setIfInBounds_toArray, List.set_cons_zero, List.set_cons_succ]
          refine wpAnyH_ready (rs := [37]) (by kernel_rfl) (by simp) ?_
          refine AllReadyH.cons rfl (fun K hK => ?_) AllReadyH.nil
          go_simp
          (go_at_call 33; refine (CA.out _ (by repeat (first | exact Fr.refl _ _ | with_reducible assumption | apply Fr.drew))).mono ?_; rintro e wA ⟨rfl, rfl⟩)
          refine hK.out _ _ ?_ (fun hHeld2 => ?_)
          · with_reducible first | exact KC.out _ (by assumption) | exact KC.out _ (Fr.refl _ _).drew | exact KC.out _ (Fr.refl _ _) | assumption
          clear hK K hHeld
          try simp only [Act.put, List.getElem_toArray, List.getElem_cons_succ, List.getElem_cons_zero, List.setIfInBounds_toArray, List.set_cons_zero, List.set_cons_succ]
          refine wpAnyH_ready (rs := [38]) (by kernel_rfl) (by simp) ?_
          refine AllReadyH.cons rfl (fun K hK => ?_) AllReadyH.nil
          go_simp
          (go_at_call 34; refine (CE.out _ (by repeat (first | exact Fr.refl _ _ | with_reducible assumption | apply Fr.drew))).mono ?_; rintro e w6 ⟨rfl, F6⟩; have F7 : Fr [] w5 w6 := Fr.same (by repeat (first | exact Fr.refl _ _ | with_reducible assumption | apply Fr.drew)) F6)
          refine hK.out _ _ ?_ (fun hHeld3 => ?_)
          · with_reducible first | exact KC.out _ (by assumption) | exact KC.out _ (Fr.refl _ _).drew | exact KC.out _ (Fr.refl _ _) | assumption
          clear hK K hHeld2
          try simp only [Act.put, List.getElem_toArray, List.getElem_cons_succ, List.getElem_cons_zero, List.setIfInBounds_toArray, List.set_cons_zero, List.set_cons_succ]
          refine' wpAnyH_take (i := 39) (v := _) rfl (by kernel_rfl) (by kernel_rfl) (by kernel_rfl) (fun _ _ _ h => h) (Or.inl ⟨by rfl, ?hy3_39⟩) (by assumption) ?re3_39
          case hy3_39 => intro w hSw; (try dsimp only at hSw); go_simp; try with_reducible rfl
          try simp only [Act.put, List.getElem_toArray, List.getElem_cons_succ, List.getElem_cons_zero, List.setIfInBounds_toArray, List.set_cons_zero, List.set_cons_succ]
          refine' wpAnyH_take (i := 40) (v := _) rfl (by kernel_rfl) (by kernel_rfl) (by kernel_rfl) (fun _ _ _ h => h) (Or.inl ⟨by rfl, ?hy3_40⟩) (by assumption) ?re3_40
          case hy3_40 => intro w hSw; (try dsimp only at hSw); go_simp; try with_reducible rfl
          try simp only [Act.put, List.getElem_toArray, List.getElem_cons_succ, List.getElem_cons_zero, List.setIfInBounds_toArray, List.set_cons_zero, List.set_cons_succ]
          refine' wpAnyH_take (i := 41) (v := _) rfl (by kernel_rfl) (by kernel_rfl) (by kernel_rfl) (fun _ _ _ h => h) (Or.inl ⟨by rfl, ?hy3_41⟩) (by assumption) ?re3_41
          case hy3_41 => intro w hSw; (try dsimp only at hSw); go_simp; try with_reducible rfl
          try simp only [Act.put, List.getElem_toArray, List.getElem_cons_succ, List.getElem_cons_zero, List.setIfInBounds_toArray, List.set_cons_zero, List.set_cons_succ]
          refine' wpAnyH_take (i := 42) (v := _) rfl (by kernel_rfl) (by kernel_rfl) (by kernel_rfl) (fun _ _ _ h => h) (Or.inl ⟨by rfl, ?hy3_42⟩) (by assumption) ?re3_42
          case hy3_42 => intro w hSw; (try dsimp only at hSw); go_simp; try with_reducible rfl
          try simp only [Act.put, List.getElem_toArray, List.getElem_cons_succ, List.getElem_cons_zero, List.setIfInBounds_toArray, List.set_cons_zero, List.set_cons_succ]
          refine' wpAnyH_take (i := 43) (v := _) rfl (by kernel_rfl) (by kernel_rfl) (by kernel_rfl) (fun _ _ _ h => h) (Or.inl ⟨by rfl, ?hy3_43⟩) (by assumption) ?re3_43
          case hy3_43 => intro w hSw; (try dsimp only at hSw); go_simp; try with_reducible rfl
          try simp only [Act.put, List.getElem_toArray, List.getElem_cons_succ, List.getElem_cons_zero, List.setIfInBounds_toArray, List.set_cons_zero, List.set_cons_succ]
          refine' wpAnyH_take (i := 44) (v := _) rfl (by kernel_rfl) (by kernel_rfl) (by kernel_rfl) (fun _ _ _ h => h) (Or.inl ⟨by rfl, ?hy3_44⟩) (by assumption) ?re3_44
          case hy3_44 => intro w hSw; (try dsimp only at hSw); go_simp; try with_reducible rfl
          try simp only [Act.put, List.getElem_toArray, List.getElem_cons_succ, List.getElem_cons_zero, List.setIfInBounds_toArray, List.set_cons_zero, List.set_cons_succ]
          refine' wpAnyH_take (i := 45) (v := _) rfl (by kernel_rfl) (by kernel_rfl) (by kernel_rfl) (fun _ _ _ h => h) (Or.inl ⟨by rfl, ?hy3_45⟩) (by assumption) ?re3_45
          case hy3_45 => intro w hSw; (try dsimp only at hSw); go_simp; try with_reducible rfl
          try simp only [Act.put, List.getElem_toArray, List.getElem_cons_succ, List.getElem_cons_zero, List.setIfInBounds_toArray, List.set_cons_zero, List.set_cons_succ]
          refine' wpAnyH_take (i := 46) (v := _) rfl (by kernel_rfl) (by kernel_rfl) (by kernel_rfl) (fun _ _ _ h => h) (Or.inl ⟨by rfl, ?hy3_46⟩) (by assumption) ?re3_46
          case hy3_46 => intro w hSw; (try dsimp only at hSw); go_simp; try with_reducible rfl
          try simp only [Act.put, List.getElem_toArray, List.getElem_cons_succ, List.getElem_cons_zero, List.setIfInBounds_toArray, List.set_cons_zero, List.set_cons_succ]
          refine' wpAnyH_take (i := 47) (v := _) rfl (by kernel_rfl) (by kernel_rfl) (by kernel_rfl) (fun _ _ _ h => h) (Or.inl ⟨by rfl, ?hy3_47⟩) (by assumption) ?re3_47
          case hy3_47 => intro w hSw; (try dsimp only at hSw); go_simp; try with_reducible rfl
          try simp only [Act.put, List.getElem_toArray, List.getElem_cons_succ, List.getElem_cons_zero, List.setIfInBounds_toArray, List.set_cons_zero, List.set_cons_succ]
          refine' wpAnyH_take (i := 48) (v := _) rfl (by kernel_rfl) (by kernel_rfl) (by kernel_rfl) (fun _ _ _ h => h) (Or.inl ⟨by rfl, ?hy3_48⟩) (by assumption) ?re3_48
          case hy3_48 => intro w hSw; (try dsimp only at hSw); go_simp; try with_reducible rfl
          try simp only [Act.put, List.getElem_toArray, List.getElem_cons_succ, List.getElem_cons_zero, List.setIfInBounds_toArray, List.set_cons_zero, List.set_cons_succ]
          refine wpAnyH_done (by kernel_rfl) ?_ _
          go_wp2_with fail
          go_meet
          exact ⟨rfl, Lib.hid F7⟩
    case rest =>
      obtain ⟨rfl, F6⟩ := hcut
      have FW := F6
      have F6 := Lib.hid (F5.out.same F6.out)
      have Y6 := Lib.hid (RK.out.y.keep F6.out)
      have RB6 := Lib.hid (show blk wc rx = _ from (show Fr [] w5 wc from FW.out).at RB5.out (by simp))
      have HIA := Lib.hid (HI.out.after RK.out.af RK.out.r8 RK.out.tx)
      clear CE CA PZ RB5 PB5
      go_wp2_with fail
      go_loopw [9, 10, 11, 98] (fun _ _ _ u wr => ∃ k : Nat, k ≤ 8 ∧ u = .int .i64 (k : Int) ∧ Hid (Fr [] wc wr)) (fun _ _ _ u _ => 8 - (intOf u).toNat)
      case atStart => exact ⟨0, by omega, by go_num, Lib.hid (Fr.refl _ _)⟩
      case round =>
        obtain ⟨k, hk, rfl, FK⟩ := hrel
        have YK := Lib.hid (Y6.out.keep FK.out)
        by_cases hlt : k < 8
        · have ks : wr.cell? ⟨g2, k, none⟩ = some (.int .u64 (S.roots[k]?.getD 0)) := cell_fr (RK.out.ws k hlt) (F6.out.same FK.out) (by simp)
          obtain ⟨kx, hkx⟩ : ∃ kx, kx = (S.mr[k]?.getD ⟨0, -1⟩).k := ⟨_, rfl⟩
          have CO := Lib.hid (yobject_k YK.out k hlt kx hkx)
          have r0 := (YK.out.root hlt).1
          simp only at r0
          have SM := Lib.hid (SAME.out k hlt)
          obtain ⟨x, hx⟩ : ∃ x, x = S.roots[k]?.getD 0 := ⟨_, rfl⟩
          rw [← hx] at ks SM
          obtain ⟨z, hz⟩ : ∃ z, z = R[k]?.getD 0 := ⟨_, rfl⟩
          rw [← hz] at r0 SM
          have HKX := Lib.hid hkx
          clear hx hz hkx
          have HX0 := Lib.hid ks
          go_wp2_with fail
          refine CO.out.mono ?_
          rintro e w' ⟨rfl, rfl⟩
          have y1 : wr.cell? ⟨c.y, 1, none⟩ = some (.slice (some ⟨S.rb, 0, none⟩) 8 8) := YK.out.y1
          have q1 := cell_of (FK.out.at RB6.out (by simp)) (i := 1) rfl
          by_cases hk0 : kx < 0
          · have he : z = x := SM.out (.inl (by rw [← HKX.out]; exact hk0))
            rw [he] at r0
            have HE := Lib.hid he
            clear he q1
            go_wp2
            go_roundw
            case rel => exact ⟨k + 1, by omega, by go_num, FK⟩
            case measure => simp [intOf]; omega
          · obtain ⟨j, hj⟩ : ∃ j : Nat, kx = j := ⟨kx.toNat, by omega⟩
            subst hj
            obtain ⟨o, xo, p, d1, d2, d3, d4, d5⟩ := HI.out.rootObj hlt HKX.out
            have hnp := lt_some d3
            obtain ⟨pg, pcap, hpv, hpc, _, hpk, _⟩ := YK.out.prow (by simp only; omega)
            simp only at hpv hpc hpk
            have y4 : wr.cell? ⟨c.y, 4, none⟩ = some S.pv := YK.out.y4
            rw [hpv] at y4
            have kp := hpk j p d3
            obtain ⟨np, hnpe⟩ : ∃ np, np = S.pins.length := ⟨_, rfl⟩
            rw [← hnpe] at y4 hnp hpc
            have hnpb : np ≤ 1000 := by have := HI.out.np; have := HI.out.mb.n; omega
            have SP := Lib.hid (fun h => SM.out (.inr (.inl ⟨j, p, HKX.out, d3, h⟩)))
            have SZ := Lib.hid (fun h => SM.out (.inr (.inr h)))
            clear hpk hpv d1 d2 d3 d4 d5 hnpe
            by_cases hp0 : 0 < p
            · have he : z = x := SP.out hp0
              rw [he] at r0
              have HE := Lib.hid he
              clear he q1
              go_wp2
              go_roundw
              case rel => exact ⟨k + 1, by omega, by go_num, FK⟩
              case measure => simp [intOf]; omega
            · by_cases hz0 : mv = 0
              · have he : z = x := SZ.out hz0
                rw [he] at r0
                rw [hz0] at q1
                have HE := Lib.hid he
                have HZ0 := Lib.hid hz0
                clear he hz0
                go_wp2
                go_roundw
                case rel => exact ⟨k + 1, by omega, by go_num, FK⟩
                case measure => simp [intOf]; omega
              · have hzb : (mv == 0) = false := by simpa using hz0
                go_wp2
                go_roundw
                case rel => exact ⟨k + 1, by omega, by go_num, FK⟩
                case measure => simp [intOf]; omega
        · have HJK := Lib.hid hlt
          have F8 := Lib.hid (F6.out.same FK.out)
          go_wp2_with fail
          refine (same_c YK.out HIA.out).mono ?_
          rintro e w8 ⟨rfl, F9⟩
          have Y9 := Lib.hid (YK.out.keep F9)
          clear YK F9 FK
          go_wp2
          go_ret
          exact ⟨_, R, _, _, _, rfl, Y9.out, HIA.out⟩
end Go.Proofs.Ytjgndfhfiekomaa
