/- The document's arena in memory: a value of ten cells. -/
import Derived.Test.YtjgndfhfiekomaaOwn
import Derived.Deep.AppendLies
import Derived.LoopTactic
import Derived.Deep.DeepCutAuto
import Derived.Laws.Rows
import Derived.Laws.ResultCell
import Derived.Test.YtjgndfhfiekomaaArenaE
set_option linter.all false
namespace Go.Proofs.Ytjgndfhfiekomaa
open Go.ChangeShapes Go.WideShapes Go.RowKit
/-- A slice of bools, as it is read. -/
structure BsAt (B0 : Nat) (w : World) (b : Nat) (cap : Nat) (l : List Bool) : Prop where
  lt : b < w.heap.size
  cp : l.length ≤ cap ∧ cap ≤ maxLen
  at_ : ∀ i x, l[i]? = some x → w.cell? ⟨b, i, none⟩ = some (.bool x)
  lo : B0 ≤ b
variable {B0 : Nat} {w w' : World} {tb tc : Nat} {l : List Bool} {wa ma : Option Addr} {wn wc mn mc : Nat} {sf st gf gt cf ct nx : Int}
theorem BsAt.fr {S : List Nat} (h : BsAt B0 w tb tc l) (hF : Fr S w w') (hb : tb ∉ S) : BsAt B0 w' tb tc l :=
  ⟨Nat.lt_of_lt_of_le h.lt hF.size, h.cp, fun i x hx => by rw [← h.at_ i x hx]; exact World.cell?_of_block (w := w) (hF.block tb h.lt hb), h.lo⟩
theorem BsAt.keep (h : BsAt B0 w tb tc l) (hF : Fr [] w w') : BsAt B0 w' tb tc l := h.fr hF (by simp)
def boolVals (l : List Bool) : List Value := l.map Value.bool
theorem BsAt.of_own {B : Nat} (h : w.ownsRow B 4 1 (.slice (some ⟨tb, 0, none⟩) l.length tc) l.length (boolVals l)) (hlo : B0 ≤ tb) : BsAt B0 w tb tc l :=
  ⟨own_lt h, own_cap h, fun i x hx => own_cell h (by simp [boolVals, hx]), hlo⟩
theorem BsAt.news (h : BsAt B0 w tb tc l) : ∀ (j : Nat) u, (boolVals l)[j]? = some u → w.cell? ((⟨tb, 0, none⟩ : Addr).add j) = some u := fun j u hu => by
  simp only [boolVals, List.getElem?_map, Option.map_eq_some_iff] at hu
  obtain ⟨x, hx, rfl⟩ := hu
  rw [Addr.add_lit, Nat.zero_add]
  exact h.at_ j x hx
theorem one_bools (l : List Bool) : ∀ u ∈ boolVals l, u.oneCell' = true := by
  intro u hu
  simp only [boolVals, List.mem_map] at hu
  obtain ⟨x, _, rfl⟩ := hu; rfl
theorem info_bool14 : (Try.prog.info? 4).map (fun i => (i.zero, i.size, i.bytes)) = some (some (.bool false), 1, 1) := by kernel_rfl
theorem size_arena14 : ((Try.prog).info? 31).map (·.size) = some 10 := by kernel_rfl
theorem und_arena14 : (match (Try.prog).underlying 31 with | some (.struct _) | some (.array _ _) => true | _ => false) = true := by kernel_rfl
theorem size_run14 : ((Try.prog).info? 29).map (·.size) = some 2 := by kernel_rfl
theorem und_run14 : (match (Try.prog).underlying 29 with | some (.struct _) | some (.array _ _) => true | _ => false) = true := by kernel_rfl
theorem load_st {T n : Nat} (w : World) (g : Nat) (cs : Array Value) (hb : blk w g = some (.cells cs T (0, 0))) (hn : cs.size = n) (hz : ((Try.prog).info? T).map (·.size) = some n) (hu : (match (Try.prog).underlying T with | some (.struct _) | some (.array _ _) => true | _ => false) = true) : (loadVar T ⟨g, 0, none⟩).run Try.prog w = .ok (.agg cs) w := by
  cases hd : (Try.prog).underlying T with
  | none => rw [hd] at hu; cases hu
  | some d =>
    refine run_loadVar_row (P := Try.prog) w g T T cs (0, 0) d hb hd ?_ (by rw [hn]; exact hz)
    rw [hd] at hu
    cases d <;> first | rfl | cases hu
theorem ret_st {fn : Func} {p T n : Nat} (h : fn.results = #[.cell p T]) (tmps : Array Value) (w : World) (g : Nat) (cs : Array Value) (hp : tmps.getD p undef = .pointer (some ⟨g, 0, none⟩)) (hb : blk w g = some (.cells cs T (0, 0))) (hn : cs.size = n) (hz : ((Try.prog).info? T).map (·.size) = some n) (hu : (match (Try.prog).underlying T with | some (.struct _) | some (.array _ _) => true | _ => false) = true) :
    (results fn tmps).run Try.prog w = .ok (.agg cs) w := by
  cases hd : (Try.prog).underlying T with
  | none => rw [hd] at hu; cases hu
  | some d =>
    refine results_cell_row h tmps w g T cs (0, 0) d hp hb hd ?_ (by rw [hn]; exact hz)
    rw [hd] at hu
    cases d <;> first | rfl | cases hu
theorem ret_st2 {fn : Func} {p T n u : Nat} (h : fn.results = #[.cell p T, .tmp u]) (tmps : Array Value) (w : World) (g : Nat) (cs : Array Value) (hp : tmps.getD p undef = .pointer (some ⟨g, 0, none⟩)) (hb : blk w g = some (.cells cs T (0, 0))) (hn : cs.size = n) (hz : ((Try.prog).info? T).map (·.size) = some n) (hu : (match (Try.prog).underlying T with | some (.struct _) | some (.array _ _) => true | _ => false) = true) :
    (results fn tmps).run Try.prog w = .ok (.tuple #[.agg cs, tmps.getD u undef]) w := by
  have := load_st w g cs hb hn hz hu
  rw [results_cell_tmp h, hp]
  simp [asAddr, this]
theorem ret_st3 {fn : Func} {p T n u v : Nat} (h : fn.results = #[.cell p T, .tmp u, .tmp v]) (tmps : Array Value) (w : World) (g : Nat) (cs : Array Value) (hp : tmps.getD p undef = .pointer (some ⟨g, 0, none⟩)) (hb : blk w g = some (.cells cs T (0, 0))) (hn : cs.size = n) (hz : ((Try.prog).info? T).map (·.size) = some n) (hu : (match (Try.prog).underlying T with | some (.struct _) | some (.array _ _) => true | _ => false) = true) :
    (results fn tmps).run Try.prog w = .ok (.tuple #[.agg cs, tmps.getD u undef, tmps.getD v undef]) w := by
  have hl := load_st w g cs hb hn hz hu
  have hp' : tmps[p]?.getD undef = .pointer (some ⟨g, 0, none⟩) := by simpa using hp
  simp [results, h, hp', asAddr, hl]
/-- An append onto a row that is there, of whatever many. -/
theorem wpList_app {ops : Array Oper} {rest : List Oper} {o : Oper} {a : Act} {Q : Exit → Act → World → Prop} (w : World) (hgd : o.guard = none) (s x : Operand) (t : TypeId)
    (ho : o.op = .call { callee := .builtin .append, args := #[s, x], argTypes := #[t, t] })
    (base : Nat) (e : TypeId) (i : TypeInfo) (z : Value) (size bytes : Nat) (ht : Try.prog.underlying t = some (.slice e)) (hi : Try.prog.info? e = some i) (hz : i.zero = some z)
    (hsize : i.size = size) (hby : i.bytes = bytes) (hzs : z.cells.size = size) (hsz : 0 < size)
    (g0 c0 n : Nat) (xs : List Value) (hs : a.eval s = .slice (some ⟨g0, 0, none⟩) n c0) (hown : w.ownsRow base e size (.slice (some ⟨g0, 0, none⟩) n c0) n xs)
    (ad : Addr) (m c : Nat) (news : List Value) (hx : a.eval x = .slice (some ad) m c) (hl : news.length = m * size) (hnews : ∀ j u, news[j]? = some u → w.cell? (ad.add j) = some u) (h1 : ∀ u ∈ news, u.oneCell' = true)
    (h63 : n + m ≤ maxLen) (hbytes : (n + m) * bytes ≤ 140737488355328) (hbase : base ≤ w.heap.size)
    (h : ∀ g cap w', w'.ownsRow base e size (.slice (some ⟨g, 0, none⟩) (n + m) cap) (n + m) (xs ++ news) → Fr [g0] w w' → (g = g0 ∨ w.heap.size ≤ g) → wpList Try.prog ops Q rest (a.put o.dst (.slice (some ⟨g, 0, none⟩) (n + m) cap)) w') : wpList Try.prog ops Q (o :: rest) a w := by
  by_cases hm : 0 < m
  · exact wpList_append_lies w hgd s x t ho base e i z size bytes ht hi hz hsize hby hzs hsz _ n xs hs hown ad m c news hx hl hnews h1 hm h63 hbytes hbase _ rfl
      (fun g cap w' h2 h3 h4 _ => h g cap w' h2 (grown_fr h3) (h4.imp (fun h => by simp only [Value.ownBlock, Option.some.injEq] at h; exact h.symm) (fun h => by omega)))
  · have hm0 : m = 0 := by omega
    subst hm0
    have hn0 : news = [] := List.eq_nil_of_length_eq_zero (by rw [hl, Nat.zero_mul])
    subst hn0
    have hc := own_cap hown
    have hr : (Builtin.append_ #[t, t] o.type #[.slice (some ⟨g0, 0, none⟩) n c0, .slice (some ad) 0 c]).run Try.prog w = .ok (.slice (some ⟨g0, 0, none⟩) n c0) w := by
      simp [Builtin.append_, run_underlying ht, sizeOf, typeInfo, hi, Builtin.lenOf, Builtin.firstCells, loadCells, loadCellsFrom, hc.1]
      rw [storeCells]; rfl
    refine wpList_plain hgd fun K hK => ?_
    unfold Oper.wp execOp
    simp only [ho, resolve, invoke, builtin, Sem.run_bind, Sem.run_pure, Result.andThen_ok, List.map_toArray, List.map_cons, List.map_nil, hs, hx, hr]
    exact hK _ _ (h g0 c0 w (by simpa using hown) (Fr.refl _ _) (.inl rfl))
/-- All ten cells of a block are others. -/
theorem blk10 {w : World} {g : Nat} {t : TypeId} {x0 x1 x2 x3 x4 x5 x6 x7 x8 x9 y0 y1 y2 y3 y4 y5 y6 y7 y8 y9 : Value} (h : blk w g = some (.cells #[x0, x1, x2, x3, x4, x5, x6, x7, x8, x9] t (0, 0))) :
    blk ((((((((((w.setCell ⟨g, 0, none⟩ y0).setCell ⟨g, 1, none⟩ y1).setCell ⟨g, 2, none⟩ y2).setCell ⟨g, 3, none⟩ y3).setCell ⟨g, 4, none⟩ y4).setCell ⟨g, 5, none⟩ y5).setCell ⟨g, 6, none⟩ y6).setCell ⟨g, 7, none⟩ y7).setCell ⟨g, 8, none⟩ y8).setCell ⟨g, 9, none⟩ y9) g = some (.cells #[y0, y1, y2, y3, y4, y5, y6, y7, y8, y9] t (0, 0)) := by
  have step : ∀ {w : World} {cs : Array Value} (i : Nat) (v : Value), blk w g = some (.cells cs t (0, 0)) → blk (w.setCell ⟨g, i, none⟩ v) g = some (.cells (cs.setIfInBounds i v) t (0, 0)) := fun i v h => by rw [blk_set, if_pos rfl, h]; rfl
  have := step 9 y9 (step 8 y8 (step 7 y7 (step 6 y6 (step 5 y5 (step 4 y4 (step 3 y3 (step 2 y2 (step 1 y1 (step 0 y0 h)))))))))
  simpa only [List.setIfInBounds_toArray, List.set_cons_succ, List.set_cons_zero] using this
theorem fr10 {S : List Nat} {a w : World} (h : Fr S a w) {g : Nat} (hg : g ∈ S ∨ a.heap.size ≤ g) {y0 y1 y2 y3 y4 y5 y6 y7 y8 y9 : Value} :
    Fr S a ((((((((((w.setCell ⟨g, 0, none⟩ y0).setCell ⟨g, 1, none⟩ y1).setCell ⟨g, 2, none⟩ y2).setCell ⟨g, 3, none⟩ y3).setCell ⟨g, 4, none⟩ y4).setCell ⟨g, 5, none⟩ y5).setCell ⟨g, 6, none⟩ y6).setCell ⟨g, 7, none⟩ y7).setCell ⟨g, 8, none⟩ y8).setCell ⟨g, 9, none⟩ y9) := by
  iterate 10 refine Fr.setCell ?_ hg _
  exact h
theorem blk10_ne {w : World} {g k : Nat} (h : k ≠ g) {y0 y1 y2 y3 y4 y5 y6 y7 y8 y9 : Value} : blk ((((((((((w.setCell ⟨g, 0, none⟩ y0).setCell ⟨g, 1, none⟩ y1).setCell ⟨g, 2, none⟩ y2).setCell ⟨g, 3, none⟩ y3).setCell ⟨g, 4, none⟩ y4).setCell ⟨g, 5, none⟩ y5).setCell ⟨g, 6, none⟩ y6).setCell ⟨g, 7, none⟩ y7).setCell ⟨g, 8, none⟩ y8).setCell ⟨g, 9, none⟩ y9) k = blk w k := by
  have step : ∀ {w : World} (i : Nat) (v : Value), blk (w.setCell ⟨g, i, none⟩ v) k = blk w k := fun i v => by rw [blk_set, if_neg h]
  rw [step, step, step, step, step, step, step, step, step, step]
def claimL (l : List Bool) (f t : Nat) : List Bool := l.mapIdx fun i x => if f ≤ i ∧ i < t then true else x
theorem claimL_self (l : List Bool) (f : Nat) : claimL l f f = l := by
  unfold claimL
  apply List.ext_getElem?
  intro i
  rw [List.getElem?_mapIdx]
  cases l[i]? with
  | none => rfl
  | some x => simp only [Option.map_some]; rw [if_neg (by omega)]
theorem len_claimL (l : List Bool) (f t : Nat) : (claimL l f t).length = l.length := by simp [claimL]
theorem claimL_step (l : List Bool) (f k : Nat) (h : f ≤ k) : (claimL l f k).set k true = claimL l f (k + 1) := by
  unfold claimL
  apply List.ext_getElem?
  intro i
  rw [List.getElem?_set, List.getElem?_mapIdx]
  split
  · rename_i hi
    subst hi
    simp only [List.length_mapIdx]
    by_cases hk : k < l.length
    · rw [if_pos hk, List.getElem?_mapIdx, List.getElem?_eq_getElem hk]
      simp [h]
    · rw [if_neg hk, List.getElem?_mapIdx, List.getElem?_eq_none (by omega)]; rfl
  · rename_i hi
    rw [List.getElem?_mapIdx]
    cases l[i]? with
    | none => rfl
    | some x =>
      simp only [Option.map_some, Option.some.injEq]
      by_cases h1 : f ≤ i ∧ i < k
      · rw [if_pos h1, if_pos (by omega)]
      · rw [if_neg h1, if_neg (by omega)]
/-- An arena comes back with other lines. -/
def ClaimOk (B0 : Nat) (w : World) (wa : Option Addr) (wn wc : Nat) (ma : Option Addr) (mn mc : Nat) (sf st gf gt cf ct nx : Int) (l : List Bool) (e : Ending) (w' : World) : Prop :=
  ∃ tb' tc', e = .returned (.agg #[.slice wa wn wc, .slice (some ⟨tb', 0, none⟩) l.length tc', .slice ma mn mc, .int .i64 sf, .int .i64 st, .int .i64 gf, .int .i64 gt, .int .i64 cf, .int .i64 ct, .int .i64 nx]) ∧ BsAt B0 w' tb' tc' l ∧ Fr [] w w' ∧ w.heap.size ≤ tb'
set_option maxRecDepth 100000 in
set_option maxHeartbeats 2000000 in
theorem rclaim_c (w : World) (hB : BsAt B0 w tb tc l) (hn : l.length ≤ 100000) (f t : Nat) (hf : f ≤ t) (ht : t ≤ l.length) :
    Calls Try.prog 126 #[.agg #[.slice wa wn wc, .slice (some ⟨tb, 0, none⟩) l.length tc, .slice ma mn mc, .int .i64 sf, .int .i64 st, .int .i64 gf, .int .i64 gt, .int .i64 cf, .int .i64 ct, .int .i64 nx], .int .i64 (f : Int), .int .i64 (t : Int)] w (ClaimOk B0 w wa wn wc ma mn mc sf st gf gt cf ct nx (claimL l f t)) := by
  obtain ⟨n, hnl⟩ : ∃ n, n = l.length := ⟨_, rfl⟩
  have HN := Lib.hid hnl
  have HB := Lib.hid hB
  have htc := hB.cp.1
  have htc2 : tc ≤ 9223372036854775807 := by have := hB.cp.2; unfold maxLen at this; omega
  rw [← hnl] at ht hn htc ⊢
  obtain ⟨W3, hW3⟩ : ∃ W3, W3 = ((w.alloc (.cells #[.slice wa wn wc, .slice (some ⟨tb, 0, none⟩) n tc, .slice ma mn mc, .int .i64 sf, .int .i64 st, .int .i64 gf, .int .i64 gt, .int .i64 cf, .int .i64 ct, .int .i64 nx] 31)).alloc (.cells #[.slice none 0 0, .slice none 0 0, .slice none 0 0, .int .i64 0, .int .i64 0, .int .i64 0, .int .i64 0, .int .i64 0, .int .i64 0, .int .i64 0] 31)) := ⟨_, rfl⟩
  have F3 : Hid (Fr [] w W3) := Lib.hid (by rw [hW3]; exact ((Fr.refl _ _).alloc _).alloc _)
  have PB : Hid (blk W3 w.heap.size = some (.cells #[.slice wa wn wc, .slice (some ⟨tb, 0, none⟩) n tc, .slice ma mn mc, .int .i64 sf, .int .i64 st, .int .i64 gf, .int .i64 gt, .int .i64 cf, .int .i64 ct, .int .i64 nx] 31 (0, 0))) := Lib.hid (by rw [hW3, blk_alloc, if_neg (by rw [size_alloc]; omega), blk_alloc, if_pos rfl])
  have PR : Hid (blk W3 (w.heap.size + 1) = some (.cells #[.slice none 0 0, .slice none 0 0, .slice none 0 0, .int .i64 0, .int .i64 0, .int .i64 0, .int .i64 0, .int .i64 0, .int .i64 0, .int .i64 0] 31 (0, 0))) := Lib.hid (by rw [hW3, blk_alloc, if_pos (by rw [size_alloc])])
  have S3 : Hid (W3.heap.size = w.heap.size + 1 + 1) := Lib.hid (by rw [hW3, size_alloc, size_alloc])
  have HLO : Hid (B0 ≤ W3.heap.size) := Lib.hid (by have := HB.out.lo; have := HB.out.lt; have := S3.out; omega)
  have c1 : W3.cell? ⟨w.heap.size, 1, none⟩ = some (.slice (some ⟨tb, 0, none⟩) n tc) := cell_of PB.out rfl
  have F4 := Lib.hid ((Fr.refl [] W3).alloc (.cells #[] 4))
  have OW : Hid ((W3.alloc (.cells #[] 4)).ownsRow W3.heap.size 4 1 (.slice (some ⟨W3.heap.size, 0, none⟩) 0 0) 0 []) := Lib.hid (own_mk (cur := #[]) (by rw [blk_alloc, if_pos rfl]) (Nat.le_refl _) (Nat.le_refl _) (Nat.zero_le _) rfl rfl)
  have RB := Lib.hid (hB.keep (F3.out.same F4.out))
  have NL : Hid ((boolVals l).length = n * 1) := Lib.hid (by simp [boolVals, hnl])
  obtain ⟨i0, hi, hz0, hz1, hz2⟩ := info_parts info_bool14
  have II := Lib.hid hi
  have Z0 := Lib.hid hz0
  have Z1 := Lib.hid hz1
  have Z2 := Lib.hid hz2
  have HW3 := Lib.hid hW3
  clear hi hz0 hz1 hz2 hB hnl
  go_enter Try.func126, Try.ntmps126
  go_upto_region 1 with fail
  rw [← hW3]
  obtain ⟨pb, hpb⟩ : ∃ pb, pb = w.heap.size := ⟨_, rfl⟩
  have HPB := Lib.hid hpb
  have hw3 : w.heap.size + 1 < W3.heap.size := by rw [S3.out]; omega
  rw [← hpb] at PB PR c1 hw3 ⊢
  have hne : pb ≠ W3.heap.size := by omega
  have hpl : pb < W3.heap.size := by omega
  clear hW3 hpb S3 HW3
  go_wp2_with (at_builtin; refine wpList_app _ rfl _ _ _ rfl W3.heap.size 4 i0 (.bool false) 1 1 Try.underlying27 II.out Z0.out Z1.out Z2.out rfl (by decide) W3.heap.size 0 0 [] rfl OW.out ⟨tb, 0, none⟩ n tc (boolVals l) rfl NL.out RB.out.news (one_bools _) (by unfold maxLen; omega) (by omega) F4.out.size ?_; intro g1 cap1 w5 own5 fr5 at5; rw [Nat.zero_add, List.nil_append] at own5; rw [Nat.zero_add]; have OW5 := Lib.hid own5; have F5 := Lib.hid (F4.out.trans fr5 (fun x hx => .inr (by simp only [List.mem_singleton] at hx; omega))); clear own5 fr5 at5 OW RB NL F4)
  have O0 : Hid (w5.ownsRow W3.heap.size 4 1 (.slice (some ⟨g1, 0, none⟩) n cap1) n (boolVals (claimL l f f))) := Lib.hid (by rw [claimL_self]; exact OW5.out)
  have hc1 := own_cap OW5.out
  have hnc := hc1.1
  have P5 := Lib.hid (F5.out.at PB.out (by simp))
  have R5 := Lib.hid (F5.out.at PR.out (by simp))
  clear OW5 hc1 c1 PB PR HB
  go_wp2_with fail
  go_loopw [8] (fun u wr => ∃ k : Nat, f ≤ k ∧ k ≤ t ∧ u = .int .i64 (k : Int) ∧ Hid (wr.ownsRow W3.heap.size 4 1 (.slice (some ⟨g1, 0, none⟩) n cap1) n (boolVals (claimL l f k))) ∧ Hid (Fr [] W3 wr) ∧ Hid (blk wr pb = some (.cells #[.slice wa wn wc, .slice (some ⟨tb, 0, none⟩) n tc, .slice ma mn mc, .int .i64 sf, .int .i64 st, .int .i64 gf, .int .i64 gt, .int .i64 cf, .int .i64 ct, .int .i64 nx] 31 (0, 0))) ∧ Hid (blk wr (pb + 1) = some (.cells #[.slice none 0 0, .slice none 0 0, .slice none 0 0, .int .i64 0, .int .i64 0, .int .i64 0, .int .i64 0, .int .i64 0, .int .i64 0, .int .i64 0] 31 (0, 0)))) (fun u _ => t - (intOf u).toNat)
  case atStart => exact ⟨f, by omega, by omega, by go_num, O0, F5, P5, R5⟩
  case round =>
    obtain ⟨k, hfk, hk, rfl, OK, F, P, R⟩ := hrel
    clear O0 F5 P5 R5
    by_cases hlt : k < t
    · have hkn : k < n := by omega
      have fz := own_free OK.out k
      obtain ⟨x, hx⟩ : ∃ x, (claimL l f k)[k]? = some x := ⟨(claimL l f k)[k]'(by rw [len_claimL, ← HN.out]; exact hkn), by rw [List.getElem?_eq_getElem]⟩
      have d0 := own_cell OK.out (i := k) (u := .bool x) (by simp [boolVals, hx])
      have hgb := own_base OK.out
      have hg0 : g1 ≠ pb := by omega
      have hg1 : g1 ≠ pb + 1 := by omega
      have ON : Hid ((wr.setCell ⟨g1, k, none⟩ (.bool true)).ownsRow W3.heap.size 4 1 (.slice (some ⟨g1, 0, none⟩) n cap1) n (boolVals (claimL l f (k + 1)))) := Lib.hid (by
        have := own_set OK.out k (.bool true)
        rw [← claimL_step l f k hfk]
        unfold boolVals at this ⊢
        rw [List.map_set]
        exact this)
      have FN := Lib.hid (F.out.setCell (.inr hgb) (.bool true) (i := k))
      have PN := Lib.hid ((show blk (wr.setCell ⟨g1, k, none⟩ (.bool true)) pb = blk wr pb by rw [blk_set, if_neg (Ne.symm hg0)]).trans P.out)
      have RN := Lib.hid ((show blk (wr.setCell ⟨g1, k, none⟩ (.bool true)) (pb + 1) = blk wr (pb + 1) by rw [blk_set, if_neg (Ne.symm hg1)]).trans R.out)
      clear OK F P R hx
      go_wp2
      go_roundw
      case rel => exact ⟨k + 1, by omega, by omega, by go_num, ON, FN, PN, RN⟩
      case measure => simp [intOf]; omega
    · have hkt : k = t := by omega
      have OT := Lib.hid (show wr.ownsRow W3.heap.size 4 1 (.slice (some ⟨g1, 0, none⟩) n cap1) n (boolVals (claimL l f t)) by rw [← hkt]; exact OK.out)
      have hgb := own_base OK.out
      have HT := Lib.hid hkt
      have HL := Lib.hid hlt
      clear hkt hlt OK
      have q0 := cell_of P.out (i := 0) rfl
      have q1 := cell_of P.out (i := 1) rfl
      have q2 := cell_of P.out (i := 2) rfl
      have q3 := cell_of P.out (i := 3) rfl
      have q4 := cell_of P.out (i := 4) rfl
      have q5 := cell_of P.out (i := 5) rfl
      have q6 := cell_of P.out (i := 6) rfl
      have q7 := cell_of P.out (i := 7) rfl
      have q8 := cell_of P.out (i := 8) rfl
      have q9 := cell_of P.out (i := 9) rfl
      have qf := free_of P.out (i := 1)
      have r0 := cell_of R.out (i := 0) rfl
      have r1 := cell_of R.out (i := 1) rfl
      have r2 := cell_of R.out (i := 2) rfl
      have r3 := cell_of R.out (i := 3) rfl
      have r4 := cell_of R.out (i := 4) rfl
      have r5 := cell_of R.out (i := 5) rfl
      have r6 := cell_of R.out (i := 6) rfl
      have r7 := cell_of R.out (i := 7) rfl
      have r8 := cell_of R.out (i := 8) rfl
      have r9 := cell_of R.out (i := 9) rfl
      have s0 := free_of R.out (i := 0)
      have s1 := free_of R.out (i := 1)
      have s2 := free_of R.out (i := 2)
      have s3 := free_of R.out (i := 3)
      have s4 := free_of R.out (i := 4)
      have s5 := free_of R.out (i := 5)
      have s6 := free_of R.out (i := 6)
      have s7 := free_of R.out (i := 7)
      have s8 := free_of R.out (i := 8)
      have s9 := free_of R.out (i := 9)
      have BT : Hid (BsAt B0 wr g1 cap1 (claimL l f t)) := Lib.hid (BsAt.of_own (by rw [len_claimL, ← HN.out]; exact OT.out) (by have := HLO.out; omega))
      have hgp : pb ≠ g1 := by omega
      have hgp1 : pb + 1 ≠ g1 := by omega
      have FW : Hid (Fr [] w wr) := Lib.hid (F3.out.same F.out)
      clear OT F F3
      go_wp2
      refine bodyPost_ret (ret_st rfl _ _ _ _ rfl (blk10 (by rw [blk_set, if_neg (by omega)]; exact R.out)) rfl size_arena14 und_arena14) rfl ?_
      refine ⟨g1, cap1, by rw [len_claimL, ← HN.out], ?_, ?_, by have := HPB.out; omega⟩
      · exact BT.out.fr (fr10 ((Fr.refl [pb, pb + 1] wr).setCell (.inl (by simp)) _) (.inl (by simp))) (by simp; omega)
      · exact fr10 (FW.out.setCell (.inr (by rw [HPB.out]; exact Nat.le_refl _)) _) (.inr (by rw [HPB.out]; omega))
/-- The lines that are taken, of lines. -/
def tks (L : List (Bool × Bool)) : List Bool := L.map Prod.fst
theorem len_tks (L : List (Bool × Bool)) : (tks L).length = L.length := by simp [tks]
theorem tks_at {L : List (Bool × Bool)} {i : Nat} (hi : i < L.length) : (tks L)[i]? = some (tk L i) := by
  simp [tks, tk, List.getElem?_eq_getElem hi]
theorem tks_claimed (L : List (Bool × Bool)) (f t : Nat) : claimL (tks L) f t = tks (claimed L f t) := by
  unfold claimL tks claimed
  apply List.ext_getElem?
  intro i
  rw [List.getElem?_mapIdx, List.getElem?_map, List.getElem?_map, List.getElem?_mapIdx]
  cases L[i]? with
  | none => rfl
  | some x =>
    simp only [Option.map_some]
    split <;> rfl
variable {L : List (Bool × Bool)} {m : Nat}
theorem rclaim_m (w : World) (hB : BsAt B0 w tb tc (tks L)) (hL : L.length = m * 16) (hm : m ≤ 100) (f t : Nat) (hf : f ≤ t) (ht : t ≤ m * 16) :
    Calls Try.prog 126 #[.agg #[.slice wa wn wc, .slice (some ⟨tb, 0, none⟩) (m * 16) tc, .slice ma mn mc, .int .i64 sf, .int .i64 st, .int .i64 gf, .int .i64 gt, .int .i64 cf, .int .i64 ct, .int .i64 nx], .int .i64 (f : Int), .int .i64 (t : Int)] w fun e w' => ∃ tb' tc', e = .returned (.agg #[.slice wa wn wc, .slice (some ⟨tb', 0, none⟩) (m * 16) tc', .slice ma mn mc, .int .i64 sf, .int .i64 st, .int .i64 gf, .int .i64 gt, .int .i64 cf, .int .i64 ct, .int .i64 nx]) ∧ BsAt B0 w' tb' tc' (tks (claimed L f t)) ∧ Fr [] w w' ∧ w.heap.size ≤ tb' := by
  have h := rclaim_c (wa := wa) (wn := wn) (wc := wc) (ma := ma) (mn := mn) (mc := mc) (sf := sf) (st := st) (gf := gf) (gt := gt) (cf := cf) (ct := ct) (nx := nx) w hB (by rw [len_tks]; omega) f t hf (by rw [len_tks, hL]; exact ht)
  rw [len_tks, hL] at h
  refine h.mono ?_
  rintro e w' ⟨tb', tc', he, h2, h3, h4⟩
  rw [tks_claimed] at h2 he
  rw [len_tks, len_claimed, hL] at he
  exact ⟨tb', tc', he, h2, h3, h4⟩
set_option maxRecDepth 100000 in
set_option maxHeartbeats 1000000 in
theorem rfree_c (w : World) (hB : BsAt B0 w tb tc (tks L)) (hL : L.length = m * 16) (hm : m ≤ 100) (q : Nat) (hq : q < m) :
    Calls Try.prog 86 #[.agg #[.slice wa wn wc, .slice (some ⟨tb, 0, none⟩) (m * 16) tc, .slice ma mn mc, .int .i64 sf, .int .i64 st, .int .i64 gf, .int .i64 gt, .int .i64 cf, .int .i64 ct, .int .i64 nx], .int .i64 (q : Int)] w fun e w' => e = .returned (.int .i64 (freeOf L q)) ∧ Fr [] w w' := by
  have HB := Lib.hid hB
  have HL := Lib.hid hL
  have htc : m * 16 ≤ tc := by have := hB.cp.1; rw [len_tks, hL] at this; exact this
  have htc2 : tc ≤ 9223372036854775807 := by have := hB.cp.2; unfold maxLen at this; omega
  have FZ := Lib.hid (freeIn_zero L (q * 16))
  have hqm : ¬ ((m * 16 : Nat) : Int) / 16 ≤ (q : Int) := by omega
  clear hB hL
  unfold freeOf
  go_enter Try.func86, Try.ntmps86
  go_wp2_with fail
  obtain ⟨W1, hW1⟩ : ∃ W1, W1 = w.alloc (.cells #[.slice wa wn wc, .slice (some ⟨tb, 0, none⟩) (m * 16) tc, .slice ma mn mc, .int .i64 sf, .int .i64 st, .int .i64 gf, .int .i64 gt, .int .i64 cf, .int .i64 ct, .int .i64 nx] 31) := ⟨_, rfl⟩
  rw [← hW1]
  have P1 := Lib.hid (show blk W1 w.heap.size = some (.cells #[.slice wa wn wc, .slice (some ⟨tb, 0, none⟩) (m * 16) tc, .slice ma mn mc, .int .i64 sf, .int .i64 st, .int .i64 gf, .int .i64 gt, .int .i64 cf, .int .i64 ct, .int .i64 nx] 31 (0, 0)) by rw [hW1, blk_alloc, if_pos rfl])
  have F1 : Hid (Fr [] w W1) := Lib.hid (by rw [hW1]; exact (Fr.refl _ _).alloc _)
  clear hW1
  obtain ⟨pb, hpb⟩ : ∃ pb, pb = w.heap.size := ⟨_, rfl⟩
  rw [← hpb] at P1 ⊢
  clear hpb
  go_loopw [5, 6] (fun c x wr => ∃ k : Nat, k ≤ 16 ∧ x = .int .i64 (k : Int) ∧ c = .int .i64 (freeIn L (q * 16) k : Nat) ∧ Hid (Fr [] W1 wr)) (fun _ x _ => 16 - (intOf x).toNat)
  case atStart => exact ⟨0, by omega, rfl, by rw [FZ.out]; rfl, Lib.hid (Fr.refl _ _)⟩
  case round =>
    obtain ⟨k, hk, rfl, rfl, F⟩ := hrel
    have hle := freeIn_le L (q * 16) k
    by_cases hlt : k < 16
    · have hi : 16 * q + k < L.length := by rw [HL.out]; omega
      have c1 : wr.cell? ⟨pb, 1, none⟩ = some (.slice (some ⟨tb, 0, none⟩) (m * 16) tc) := cell_of (F.out.at P1.out (by simp)) rfl
      have d0 := (HB.out.keep (F1.out.same F.out)).at_ _ _ (tks_at hi)
      have hs := Lib.hid (freeIn_step L (q * 16) k (by omega))
      rw [show q * 16 + k = 16 * q + k by omega] at hs
      have hb1 : 16 * q + k < m * 16 := by omega
      clear hi
      obtain ⟨y, hy⟩ : ∃ y, y = tk L (16 * q + k) := ⟨_, rfl⟩
      rw [← hy] at d0 hs
      clear hy
      cases y with
      | false =>
        go_wp2
        go_roundw
        case rel => exact ⟨k + 1, by omega, by go_num, by rw [hs.out]; go_num, F⟩
        case measure => simp [intOf]; omega
      | true =>
        go_wp2
        go_roundw
        case rel => exact ⟨k + 1, by omega, by go_num, by rw [hs.out]; go_num, F⟩
        case measure => simp [intOf]; omega
    · have hkn : k = 16 := by omega
      subst hkn
      go_wp2
      go_ret
      exact ⟨rfl, F1.out.same F.out⟩
end Go.Proofs.Ytjgndfhfiekomaa
