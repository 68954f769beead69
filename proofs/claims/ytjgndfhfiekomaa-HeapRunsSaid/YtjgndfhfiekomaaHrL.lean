/- The document's heap: with, Pin, Set. -/
import Derived.Test.YtjgndfhfiekomaaHrK
set_option linter.all false
namespace Go.Proofs.Ytjgndfhfiekomaa
open Go.ChangeShapes Go.WideShapes Go.RowKit
variable {B0 : Nat} {w w' : World} {wa ta ma oa : Option Addr} {wn wk tn tc mn mc oc : Nat} {sf st gf gt cf ct nx : Int} {O : List RO} {r : RO}
theorem size_heap15 : ((Try.prog).info? 34).map (·.size) = some 11 := by kernel_rfl
theorem und_heap15 : (match (Try.prog).underlying 34 with | some (.struct _) | some (.array _ _) => true | _ => false) = true := by kernel_rfl
theorem info_obj15 : (Try.prog.info? 122).map (fun i => (i.zero, i.size, i.bytes)) = some (some (.agg #[.int .i64 0, .int .i64 0, .int .i64 0, .int .i64 0, .slice none 0 0]), 5, 56) := by kernel_rfl
theorem blk11 {w : World} {g : Nat} {t : TypeId} {x0 x1 x2 x3 x4 x5 x6 x7 x8 x9 x10 y0 y1 y2 y3 y4 y5 y6 y7 y8 y9 y10 : Value} (h : blk w g = some (.cells #[x0, x1, x2, x3, x4, x5, x6, x7, x8, x9, x10] t (0, 0))) : blk (((((((((((w.setCell ⟨g, 0, none⟩ y0).setCell ⟨g, 1, none⟩ y1).setCell ⟨g, 2, none⟩ y2).setCell ⟨g, 3, none⟩ y3).setCell ⟨g, 4, none⟩ y4).setCell ⟨g, 5, none⟩ y5).setCell ⟨g, 6, none⟩ y6).setCell ⟨g, 7, none⟩ y7).setCell ⟨g, 8, none⟩ y8).setCell ⟨g, 9, none⟩ y9).setCell ⟨g, 10, none⟩ y10) g = some (.cells #[y0, y1, y2, y3, y4, y5, y6, y7, y8, y9, y10] t (0, 0)) := by
  have step : ∀ {w : World} {cs : Array Value} (i : Nat) (v : Value), blk w g = some (.cells cs t (0, 0)) → blk (w.setCell ⟨g, i, none⟩ v) g = some (.cells (cs.setIfInBounds i v) t (0, 0)) := fun i v h => by rw [blk_set, if_pos rfl, h]; rfl
  have := (step 10 y10 (step 9 y9 (step 8 y8 (step 7 y7 (step 6 y6 (step 5 y5 (step 4 y4 (step 3 y3 (step 2 y2 (step 1 y1 (step 0 y0 h)))))))))))
  simpa only [List.setIfInBounds_toArray, List.set_cons_succ, List.set_cons_zero] using this
theorem fr11 {S : List Nat} {a w : World} (h : Fr S a w) {g : Nat} (hg : g ∈ S ∨ a.heap.size ≤ g) {y0 y1 y2 y3 y4 y5 y6 y7 y8 y9 y10 : Value} : Fr S a (((((((((((w.setCell ⟨g, 0, none⟩ y0).setCell ⟨g, 1, none⟩ y1).setCell ⟨g, 2, none⟩ y2).setCell ⟨g, 3, none⟩ y3).setCell ⟨g, 4, none⟩ y4).setCell ⟨g, 5, none⟩ y5).setCell ⟨g, 6, none⟩ y6).setCell ⟨g, 7, none⟩ y7).setCell ⟨g, 8, none⟩ y8).setCell ⟨g, 9, none⟩ y9).setCell ⟨g, 10, none⟩ y10) := by
  iterate 11 refine Fr.setCell ?_ hg _
  exact h
def roC (r : RO) : List Value := [.int .i64 (r.a : Int), .int .i64 r.kind, .int .i64 r.pins, .int .i64 r.dst, .slice r.fa r.fs.length r.fc]
def roCells (O : List RO) : List Value := O.flatMap roC
theorem len_ro (O : List RO) : (roCells O).length = O.length * 5 := by
  induction O with
  | nil => rfl
  | cons x O ih => simp only [roCells, roC, List.flatMap_cons, List.length_append, List.length_cons, List.length_nil] at ih ⊢; omega
theorem ro_app (O P : List RO) : roCells (O ++ P) = roCells O ++ roCells P := by simp [roCells]
theorem ro_get (O : List RO) (i j : Nat) (r : RO) (u : Value) (h : O[i]? = some r) (hu : (roC r)[j]? = some u) : (roCells O)[i * 5 + j]? = some u := by
  have hj : j < 5 := by
    rcases Nat.lt_or_ge j 5 with h1 | h1
    · exact h1
    · rw [List.getElem?_eq_none (by simpa [roC] using h1)] at hu; simp at hu
  induction O generalizing i with
  | nil => simp at h
  | cons x O ih =>
    cases i with
    | zero =>
      simp at h; subst h
      simp only [roCells, List.flatMap_cons, Nat.zero_mul, Nat.zero_add]
      rw [List.getElem?_append_left (by simpa [roC] using hj)]
      exact hu
    | succ i =>
      have := ih i (by simpa using h)
      simp only [roCells, List.flatMap_cons] at this ⊢
      rw [List.getElem?_append_right (by simp [roC]; omega), show (i + 1) * 5 + j - (roC x).length = i * 5 + j by simp [roC]; omega]
      exact this
theorem ro_set (O : List RO) (i : Nat) (r : RO) (hi : i < O.length) : (((((roCells O).set (i * 5) (.int .i64 (r.a : Int))).set (i * 5 + 1) (.int .i64 r.kind)).set (i * 5 + 2) (.int .i64 r.pins)).set (i * 5 + 3) (.int .i64 r.dst)).set (i * 5 + 4) (.slice r.fa r.fs.length r.fc) = roCells (O.set i r) := by
  induction O generalizing i with
  | nil => simp at hi
  | cons x O ih =>
    cases i with
    | zero => simp [roCells, roC]
    | succ i =>
      have := ih i (by simpa using hi)
      simp only [roCells, roC, List.flatMap_cons, List.set_cons_succ] at this ⊢
      rw [← this, show (i + 1) * 5 = i * 5 + 5 by omega, show i * 5 + 5 + 1 = i * 5 + 1 + 5 by omega, show i * 5 + 5 + 2 = i * 5 + 2 + 5 by omega, show i * 5 + 5 + 3 = i * 5 + 3 + 5 by omega, show i * 5 + 5 + 4 = i * 5 + 4 + 5 by omega]
      simp
theorem one_ro (O : List RO) : ∀ u ∈ roCells O, u.oneCell' = true := by
  intro u hu
  obtain ⟨r, _, hr⟩ := List.mem_flatMap.1 hu
  simp only [roC, List.mem_cons, List.not_mem_nil, or_false] at hr
  rcases hr with rfl | rfl | rfl | rfl | rfl <;> rfl
theorem OsAt.of_own {B g n c : Nat} (h : w.ownsRow B 122 5 (.slice (some ⟨g, 0, none⟩) n c) n (roCells O)) (hn : n = O.length) (hlo : B0 ≤ g) (hf : ∀ r, r ∈ O → WsQ B0 w r.fa r.fc r.fs) : OsAt B0 w (some ⟨g, 0, none⟩) c O := by
  subst hn
  refine ⟨own_cap h, .inr ⟨g, rfl, own_lt h, fun i r hr => ?_⟩, hf, .inr ⟨g, rfl, hlo⟩⟩
  exact ⟨own_cell h (ro_get O i 0 r _ hr rfl), own_cell h (ro_get O i 1 r _ hr rfl), own_cell h (ro_get O i 2 r _ hr rfl), own_cell h (ro_get O i 3 r _ hr rfl), own_cell h (ro_get O i 4 r _ hr rfl)⟩
theorem OsAt.news (h : OsAt B0 w oa oc O) : O = [] ∨ ∃ b, oa = some ⟨b, 0, none⟩ ∧ b < w.heap.size ∧ ∀ (j : Nat) u, (roCells O)[j]? = some u → w.cell? ((⟨b, 0, none⟩ : Addr).add j) = some u := by
  rcases h.rd with h0 | ⟨b, h1, h2, h3⟩
  · exact .inl h0
  · refine .inr ⟨b, h1, h2, fun j u hu => ?_⟩
    rw [Addr.add_lit, Nat.zero_add]
    have hj : j < O.length * 5 := by
      rcases Nat.lt_or_ge j (O.length * 5) with h | h
      · exact h
      · rw [List.getElem?_eq_none (by rw [len_ro]; exact h)] at hu; simp at hu
    have hi : j / 5 < O.length := by omega
    obtain ⟨q0, q1, q2, q3, q4⟩ := h3 (j / 5) O[j / 5] (List.getElem?_eq_getElem hi)
    have hr : O[j / 5]? = some O[j / 5] := List.getElem?_eq_getElem hi
    have hm : j % 5 < 5 := Nat.mod_lt _ (by omega)
    have e : j = j / 5 * 5 + j % 5 := by omega
    have key : ∀ (q : Nat) (v : Value), j % 5 = q → (roC O[j / 5])[q]? = some v → w.cell? ⟨b, j / 5 * 5 + q, none⟩ = some v → w.cell? ⟨b, j, none⟩ = some u := fun q v hq hv hc => by
      have h5 := ro_get O (j / 5) q _ v hr hv
      rw [← hq, ← e, hu] at h5
      rw [← hq, ← e] at hc
      rw [hc, h5]
    rcases (show j % 5 = 0 ∨ j % 5 = 1 ∨ j % 5 = 2 ∨ j % 5 = 3 ∨ j % 5 = 4 by omega) with h6 | h6 | h6 | h6 | h6
    · exact key 0 _ h6 rfl q0
    · exact key 1 _ h6 rfl q1
    · exact key 2 _ h6 rfl q2
    · exact key 3 _ h6 rfl q3
    · exact key 4 _ h6 rfl q4
/-- A heap with other objects. -/
def WithOk (B0 : Nat) (wa ta ma : Option Addr) (wn wk tn tc mn mc : Nat) (sf st gf gt cf ct nx : Int) (w : World) (O : List RO) (e : Ending) (w' : World) : Prop :=
  ∃ g c, e = .returned (.agg #[.slice wa wn wk, .slice ta tn tc, .slice ma mn mc, .int .i64 sf, .int .i64 st, .int .i64 gf, .int .i64 gt, .int .i64 cf, .int .i64 ct, .int .i64 nx, .slice (some ⟨g, 0, none⟩) O.length c]) ∧ OsAt B0 w' (some ⟨g, 0, none⟩) c O ∧ Fr [] w w'
set_option maxRecDepth 100000 in
set_option maxHeartbeats 4000000 in
theorem rwith_c (w : World) (hB0 : B0 ≤ w.heap.size) (hO : OsAt B0 w oa oc O) (hn : O.length ≤ 1000) (i : Nat) (hi : i < O.length) (r : RO) (hr : WsQ B0 w r.fa r.fc r.fs) :
    Calls Try.prog 77 #[.agg #[.slice wa wn wk, .slice ta tn tc, .slice ma mn mc, .int .i64 sf, .int .i64 st, .int .i64 gf, .int .i64 gt, .int .i64 cf, .int .i64 ct, .int .i64 nx, .slice oa O.length oc], .int .i64 (i : Int), .agg #[.int .i64 (r.a : Int), .int .i64 r.kind, .int .i64 r.pins, .int .i64 r.dst, .slice r.fa r.fs.length r.fc]] w (WithOk B0 wa ta ma wn wk tn tc mn mc sf st gf gt cf ct nx w (O.set i r)) := by
  have HO := Lib.hid hO
  obtain ⟨n, hnl⟩ : ∃ n, n = O.length := ⟨_, rfl⟩
  have HN := Lib.hid hnl
  have hoc := hO.cp.1
  have hoc2 : oc ≤ 9223372036854775807 := by have := hO.cp.2; unfold maxLen at this; omega
  have HB0 := Lib.hid hB0
  have HR := Lib.hid hr
  obtain ⟨b0, rfl, hb0, hnews⟩ : ∃ b, oa = some ⟨b, 0, none⟩ ∧ b < w.heap.size ∧ ∀ (j : Nat) u, (roCells O)[j]? = some u → w.cell? ((⟨b, 0, none⟩ : Addr).add j) = some u := by
    rcases hO.news with h | h
    · rw [h] at hi; simp at hi
    · exact h
  rw [← hnl] at hn hoc hi ⊢
  obtain ⟨W3, hW3⟩ : ∃ W3, W3 = ((w.alloc (.cells #[.slice wa wn wk, .slice ta tn tc, .slice ma mn mc, .int .i64 sf, .int .i64 st, .int .i64 gf, .int .i64 gt, .int .i64 cf, .int .i64 ct, .int .i64 nx, .slice (some ⟨b0, 0, none⟩) n oc] 34)).alloc (.cells #[.int .i64 (r.a : Int), .int .i64 r.kind, .int .i64 r.pins, .int .i64 r.dst, .slice r.fa r.fs.length r.fc] 122)).alloc (.cells #[.slice none 0 0, .slice none 0 0, .slice none 0 0, .int .i64 0, .int .i64 0, .int .i64 0, .int .i64 0, .int .i64 0, .int .i64 0, .int .i64 0, .slice none 0 0] 34) := ⟨_, rfl⟩
  have F3 : Hid (Fr [] w W3) := Lib.hid (by rw [hW3]; exact (((Fr.refl _ _).alloc _).alloc _).alloc _)
  have PH := Lib.hid (show blk W3 w.heap.size = some (.cells #[.slice wa wn wk, .slice ta tn tc, .slice ma mn mc, .int .i64 sf, .int .i64 st, .int .i64 gf, .int .i64 gt, .int .i64 cf, .int .i64 ct, .int .i64 nx, .slice (some ⟨b0, 0, none⟩) n oc] 34 (0, 0)) by rw [hW3, blk_alloc, if_neg (by rw [size_alloc, size_alloc]; omega), blk_alloc, if_neg (by rw [size_alloc]; omega), blk_alloc, if_pos rfl])
  have PO := Lib.hid (show blk W3 (w.heap.size + 1) = some (.cells #[.int .i64 (r.a : Int), .int .i64 r.kind, .int .i64 r.pins, .int .i64 r.dst, .slice r.fa r.fs.length r.fc] 122 (0, 0)) by rw [hW3, blk_alloc, if_neg (by rw [size_alloc, size_alloc]; omega), blk_alloc, if_pos (by rw [size_alloc])])
  have PR := Lib.hid (show blk W3 (w.heap.size + 1 + 1) = some (.cells #[.slice none 0 0, .slice none 0 0, .slice none 0 0, .int .i64 0, .int .i64 0, .int .i64 0, .int .i64 0, .int .i64 0, .int .i64 0, .int .i64 0, .slice none 0 0] 34 (0, 0)) by rw [hW3, blk_alloc, if_pos (by rw [size_alloc, size_alloc])])
  obtain ⟨pb, hpb⟩ : ∃ pb, pb = w.heap.size := ⟨_, rfl⟩
  have HPB := Lib.hid hpb
  rw [← hpb] at PH PO PR
  have hl3 : pb + 1 + 1 < W3.heap.size := lt_size PR.out
  have hl30 : pb < W3.heap.size := by omega
  have hl31 : pb + 1 < W3.heap.size := by omega
  have hne : pb ≠ W3.heap.size := by omega
  have hne1 : pb + 1 ≠ W3.heap.size := by omega
  have hne2 : pb + 1 + 1 ≠ W3.heap.size := by omega
  have NEWS := Lib.hid (fun (w1 : World) (hF : Fr [] w w1) (j : Nat) u (hu : (roCells O)[j]? = some u) => (show w1.cell? ((⟨b0, 0, none⟩ : Addr).add j) = some u by have := hnews j u hu; rw [Addr.add_lit, Nat.zero_add] at this ⊢; rw [← this]; exact World.cell?_of_block (w := w) (hF.block b0 hb0 (by simp))))
  have NL : Hid ((roCells O).length = n * 5) := Lib.hid (by rw [len_ro, hnl])
  have OW : Hid ((W3.alloc (.cells #[] 122)).ownsRow W3.heap.size 122 5 (.slice (some ⟨W3.heap.size, 0, none⟩) 0 0) 0 []) := Lib.hid (own_mk (cur := #[]) (by rw [blk_alloc, if_pos rfl]) (Nat.le_refl _) (Nat.le_refl _) (Nat.zero_le _) rfl rfl)
  have F4 := Lib.hid ((Fr.refl [] W3).alloc (.cells #[] 122))
  obtain ⟨i0, hii, hz0, hz1, hz2⟩ := info_parts info_obj15
  have II := Lib.hid hii
  have Z0 := Lib.hid hz0
  have Z1 := Lib.hid hz1
  have Z2 := Lib.hid hz2
  clear hB0 hO hnl hr hii hz0 hz1 hz2 hnews
  go_enter Try.func77, Try.ntmps77
  go_upto_region 1 with fail
  rw [← hW3, ← hpb]
  clear hW3 hpb
  have p10 := cell_of PH.out (i := 10) rfl
  go_upto_region 2 with (at_builtin; refine wpList_app _ rfl _ _ _ rfl W3.heap.size 122 i0 (.agg #[.int .i64 0, .int .i64 0, .int .i64 0, .int .i64 0, .slice none 0 0]) 5 56 Try.underlying32 II.out Z0.out Z1.out Z2.out rfl (by decide) W3.heap.size 0 0 [] rfl OW.out ⟨b0, 0, none⟩ n oc (roCells O) rfl NL.out (NEWS.out _ (F3.out.same F4.out)) (one_ro _) (by unfold maxLen; omega) (by omega) F4.out.size ?_; intro g1 c1 w5 own5 fr5 at5; rw [Nat.zero_add, List.nil_append] at own5; rw [Nat.zero_add]; have OW5 := Lib.hid own5; have F5 := Lib.hid (F4.out.trans fr5 (fun x hx => .inr (by simp only [List.mem_singleton] at hx; omega))); clear own5 fr5 at5 OW F4)
  have hgb := own_base OW5.out
  have hgl := own_lt OW5.out
  have hc1 := (own_cap OW5.out).1
  obtain ⟨ri, hri⟩ : ∃ ri, O[i]? = some ri := ⟨O[i]'(by rw [← HN.out]; exact hi), by rw [List.getElem?_eq_getElem]⟩
  have d0 := own_cell OW5.out (ro_get O i 0 ri _ hri rfl)
  rw [Nat.add_zero] at d0
  have d1 := own_cell OW5.out (ro_get O i 1 ri _ hri rfl)
  have d2 := own_cell OW5.out (ro_get O i 2 ri _ hri rfl)
  have d3 := own_cell OW5.out (ro_get O i 3 ri _ hri rfl)
  have d4 := own_cell OW5.out (ro_get O i 4 ri _ hri rfl)
  have df0 := own_free OW5.out (i * 5)
  have df1 := own_free OW5.out (i * 5 + 1)
  have df2 := own_free OW5.out (i * 5 + 2)
  have df3 := own_free OW5.out (i * 5 + 3)
  have df4 := own_free OW5.out (i * 5 + 4)
  have PO5 := F5.out.at PO.out (by simp)
  have o0 := cell_of PO5 (i := 0) rfl
  have o1 := cell_of PO5 (i := 1) rfl
  have o2 := cell_of PO5 (i := 2) rfl
  have o3 := cell_of PO5 (i := 3) rfl
  have o4 := cell_of PO5 (i := 4) rfl
  have hg0 : g1 ≠ pb := by omega
  have hg1 : g1 ≠ pb + 1 := by omega
  have hg2 : g1 ≠ pb + 1 + 1 := by omega
  clear p10 hri PO5
  go_upto_region 3 with fail
  obtain ⟨W6, hW6⟩ : ∃ W6, W6 = ((((w5.setCell ⟨g1, i * 5, none⟩ (.int .i64 (r.a : Int))).setCell ⟨g1, i * 5 + 1, none⟩ (.int .i64 r.kind)).setCell ⟨g1, i * 5 + 2, none⟩ (.int .i64 r.pins)).setCell ⟨g1, i * 5 + 3, none⟩ (.int .i64 r.dst)).setCell ⟨g1, i * 5 + 4, none⟩ (.slice r.fa r.fs.length r.fc) := ⟨_, rfl⟩
  rw [← hW6]
  have O6 := Lib.hid (show W6.ownsRow W3.heap.size 122 5 (.slice (some ⟨g1, 0, none⟩) n c1) n (roCells (O.set i r)) by rw [hW6, ← ro_set O i r (by rw [← HN.out]; exact hi)]; exact own_set (own_set (own_set (own_set (own_set OW5.out _ _) _ _) _ _) _ _) _ _)
  have F6 := Lib.hid (show Fr [] W3 W6 by rw [hW6]; exact ((((F5.out.setCell (.inr hgb) _).setCell (.inr hgb) _).setCell (.inr hgb) _).setCell (.inr hgb) _).setCell (.inr hgb) _)
  clear hW6 OW5 F5 d0 d1 d2 d3 d4 df0 df1 df2 df3 df4 o0 o1 o2 o3 o4 NEWS NL II Z0 Z1 Z2
  have PH6 := Lib.hid (F6.out.at PH.out (by simp))
  have PR6 := Lib.hid (F6.out.at PR.out (by simp))
  have p0 := cell_of PH6.out (i := 0) rfl
  have p1 := cell_of PH6.out (i := 1) rfl
  have p2 := cell_of PH6.out (i := 2) rfl
  have p3 := cell_of PH6.out (i := 3) rfl
  have p4 := cell_of PH6.out (i := 4) rfl
  have p5 := cell_of PH6.out (i := 5) rfl
  have p6 := cell_of PH6.out (i := 6) rfl
  have p7 := cell_of PH6.out (i := 7) rfl
  have p8 := cell_of PH6.out (i := 8) rfl
  have p9 := cell_of PH6.out (i := 9) rfl
  have p10 := cell_of PH6.out (i := 10) rfl
  have pf0 := free_of PH6.out (i := 0)
  have pf1 := free_of PH6.out (i := 1)
  have pf2 := free_of PH6.out (i := 2)
  have pf3 := free_of PH6.out (i := 3)
  have pf4 := free_of PH6.out (i := 4)
  have pf5 := free_of PH6.out (i := 5)
  have pf6 := free_of PH6.out (i := 6)
  have pf7 := free_of PH6.out (i := 7)
  have pf8 := free_of PH6.out (i := 8)
  have pf9 := free_of PH6.out (i := 9)
  have pf10 := free_of PH6.out (i := 10)
  have q0 := cell_of PR6.out (i := 0) rfl
  have q1 := cell_of PR6.out (i := 1) rfl
  have q2 := cell_of PR6.out (i := 2) rfl
  have q3 := cell_of PR6.out (i := 3) rfl
  have q4 := cell_of PR6.out (i := 4) rfl
  have q5 := cell_of PR6.out (i := 5) rfl
  have q6 := cell_of PR6.out (i := 6) rfl
  have q7 := cell_of PR6.out (i := 7) rfl
  have q8 := cell_of PR6.out (i := 8) rfl
  have q9 := cell_of PR6.out (i := 9) rfl
  have q10 := cell_of PR6.out (i := 10) rfl
  have qf0 := free_of PR6.out (i := 0)
  have qf1 := free_of PR6.out (i := 1)
  have qf2 := free_of PR6.out (i := 2)
  have qf3 := free_of PR6.out (i := 3)
  have qf4 := free_of PR6.out (i := 4)
  have qf5 := free_of PR6.out (i := 5)
  have qf6 := free_of PR6.out (i := 6)
  have qf7 := free_of PR6.out (i := 7)
  have qf8 := free_of PR6.out (i := 8)
  have qf9 := free_of PR6.out (i := 9)
  have qf10 := free_of PR6.out (i := 10)
  have hg6 := own_lt O6.out
  go_wp2
  refine bodyPost_ret (ret_st rfl _ _ _ _ rfl (blk11 (by rw [blk_set, if_neg (by omega)]; exact PR6.out)) rfl size_heap15 und_heap15) rfl ?_
  have hwp : w.heap.size ≤ pb := by rw [HPB.out]; exact Nat.le_refl _
  refine ⟨g1, c1, by rw [List.length_set, ← HN.out], ?_, fr11 ((F3.out.same F6.out).setCell (.inr hwp) _) (.inr (by omega))⟩
  refine OsAt.of_own (B := W3.heap.size) (n := n) ?_ (by rw [List.length_set, ← HN.out]) (by have := HB0.out; have := F3.out.size; omega) (fun q hq => ?_)
  · exact own_fr O6.out (fr11 ((Fr.refl [pb, pb + 1 + 1] W6).setCell (.inl (by simp)) _) (.inl (by simp))) (by simp [Value.ownBlock]; omega)
  · rcases List.mem_or_eq_of_mem_set hq with hq | hq
    · exact (HO.out.fs q hq).keep (fr11 ((F3.out.same F6.out).setCell (.inr hwp) _) (.inr (by omega)))
    · rw [hq]; exact HR.out.keep (fr11 ((F3.out.same F6.out).setCell (.inr hwp) _) (.inr (by omega)))
end Go.Proofs.Ytjgndfhfiekomaa
