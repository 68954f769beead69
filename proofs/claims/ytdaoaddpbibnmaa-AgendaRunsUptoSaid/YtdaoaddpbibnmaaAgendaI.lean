/- The document's agenda in memory: Add and Put. -/
import Derived.Test.YtdaoaddpbibnmaaOwn
import Derived.Deep.AppendLies
import Derived.LoopTactic
set_option linter.all false
namespace Go.Proofs.Ytdaoaddpbibnmaa
open Go.ChangeShapes Go.WideShapes Go.RowKit
/-- An entry of the document's agenda. -/
structure W2 where
  t : Int
  w : Int
/-- The document's entries in cells. -/
def rpCells (W : List W2) : List Value := W.flatMap fun e => [.int .i64 e.t, .int .u64 e.w]
theorem len_rp (W : List W2) : (rpCells W).length = W.length * 2 := by
  induction W with
  | nil => rfl
  | cons x W ih => simp only [rpCells, List.flatMap_cons, List.length_append, List.length_cons, List.length_nil] at ih ⊢; omega
theorem rp_get (W : List W2) (i : Nat) (e : W2) (h : W[i]? = some e) : (rpCells W)[i * 2]? = some (.int .i64 e.t) ∧ (rpCells W)[i * 2 + 1]? = some (.int .u64 e.w) := by
  induction W generalizing i with
  | nil => simp at h
  | cons x W ih =>
    cases i with
    | zero => simp at h; subst h; simp [rpCells]
    | succ i =>
      have := ih i (by simpa using h)
      simp only [rpCells, List.flatMap_cons] at this ⊢
      rw [show (i + 1) * 2 = i * 2 + 2 by omega, show i * 2 + 2 + 1 = i * 2 + 1 + 2 by omega]
      simpa using this
theorem rp_app (W V : List W2) : rpCells (W ++ V) = rpCells W ++ rpCells V := by simp [rpCells]
theorem rp_cons (e : W2) (V : List W2) : rpCells (e :: V) = [.int .i64 e.t, .int .u64 e.w] ++ rpCells V := by simp [rpCells]
theorem rp_take (W : List W2) (k : Nat) : (rpCells W).take (k * 2) = rpCells (W.take k) := by
  induction W generalizing k with
  | nil => simp [rpCells]
  | cons x W ih =>
    cases k with
    | zero => simp [rpCells]
    | succ k =>
      simp only [rpCells, List.flatMap_cons, List.take_succ_cons] at ih ⊢
      rw [show (k + 1) * 2 = k * 2 + 1 + 1 by omega]
      simp only [List.cons_append, List.nil_append, List.take_succ_cons, ih]
theorem rp_drop (W : List W2) (k : Nat) : (rpCells W).drop (k * 2) = rpCells (W.drop k) := by
  induction W generalizing k with
  | nil => simp [rpCells]
  | cons x W ih =>
    cases k with
    | zero => simp [rpCells]
    | succ k =>
      simp only [rpCells, List.flatMap_cons, List.drop_succ_cons] at ih ⊢
      rw [show (k + 1) * 2 = 2 + k * 2 by omega, ← List.drop_drop]
      simpa using ih k
theorem one_rp (W : List W2) (u : Value) (h : u ∈ rpCells W) : u.oneCell' = true := by
  unfold rpCells at h
  obtain ⟨e, _, he⟩ := List.mem_flatMap.1 h
  simp only [List.mem_cons, List.not_mem_nil, or_false] at he
  rcases he with rfl | rfl <;> rfl
/-- The document's agenda, as it is read. -/
structure RfAt (w : World) (b o : Nat) (W : List W2) : Prop where
  lt : b < w.heap.size
  at_ : ∀ i u, (rpCells W)[i]? = some u → w.cell? ⟨b, o + i, none⟩ = some u
variable {w w' : World} {b o : Nat} {W : List W2}
theorem RfAt.fr {S : List Nat} (h : RfAt w b o W) (hF : Fr S w w') (hb : b ∉ S) : RfAt w' b o W :=
  ⟨Nat.lt_of_lt_of_le h.lt hF.size, fun i u hu => by rw [← h.at_ i u hu]; exact World.cell?_of_block (w := w) (hF.block b h.lt hb)⟩
theorem RfAt.cell (h : RfAt w b o W) {i : Nat} {e : W2} (he : W[i]? = some e) : w.cell? ⟨b, o + i * 2, none⟩ = some (.int .i64 e.t) ∧ w.cell? ⟨b, o + i * 2 + 1, none⟩ = some (.int .u64 e.w) :=
  ⟨h.at_ _ _ (rp_get W i e he).1, by have := h.at_ _ _ (rp_get W i e he).2; rwa [← Nat.add_assoc] at this⟩
theorem RfAt.drop (h : RfAt w b o W) (k : Nat) : RfAt w b (o + k * 2) (W.drop k) :=
  ⟨h.lt, fun i u hu => by
    rw [← rp_drop, List.getElem?_drop] at hu
    have := h.at_ _ _ hu
    rwa [← Nat.add_assoc] at this⟩
theorem RfAt.take (h : RfAt w b o W) (k : Nat) : RfAt w b o (W.take k) :=
  ⟨h.lt, fun i u hu => by
    rw [← rp_take, List.getElem?_take] at hu
    split at hu
    · exact h.at_ _ _ hu
    · simp at hu⟩
/-- An append onto a row that is there, of whatever many. -/
theorem wpList_app {ops : Array Oper} {rest : List Oper} {o : Oper} {a : Act} {Q : Exit → Act → World → Prop} (w : World) (hgd : o.guard = none) (s x : Operand) (t : TypeId)
    (ho : o.op = .call { callee := .builtin .append, args := #[s, x], argTypes := #[t, t] })
    (base : Nat) (e : TypeId) (i : TypeInfo) (z : Value) (size bytes : Nat) (ht : Try.prog.underlying t = some (.slice e)) (hi : Try.prog.info? e = some i) (hz : i.zero = some z)
    (hsize : i.size = size) (hby : i.bytes = bytes) (hzs : z.cells.size = size) (hsz : 0 < size)
    (g0 c0 n : Nat) (xs : List Value) (hs : a.eval s = .slice (some ⟨g0, 0, none⟩) n c0) (hown : w.ownsRow base e size (.slice (some ⟨g0, 0, none⟩) n c0) n xs)
    (ad : Addr) (m c : Nat) (news : List Value) (hx : a.eval x = .slice (some ad) m c) (hl : news.length = m * size) (hnews : ∀ j u, news[j]? = some u → w.cell? (ad.add j) = some u) (h1 : ∀ u ∈ news, u.oneCell' = true)
    (h63 : n + m ≤ maxLen) (hbytes : (n + m) * bytes ≤ 140737488355328) (hbase : base ≤ w.heap.size)
    (h : ∀ g cap w', w'.ownsRow base e size (.slice (some ⟨g, 0, none⟩) (n + m) cap) (n + m) (xs ++ news) → Fr [g0] w w' → (g = g0 ∨ w.heap.size ≤ g) → wpList Try.prog ops Q rest (a.put o.dst (.slice (some ⟨g, 0, none⟩) (n + m) cap)) w') : wpList Try.prog ops Q (o :: rest) a w := by
  by_cases hm : 0 < m
  · exact wpList_append_lies w hgd s x t ho base e i z size bytes ht hi hz hsize hby hzs hsz _ n xs hs hown ad m c news hx hl hnews h1 hm h63 hbytes hbase _ rfl
      (fun g cap w' h2 h3 h4 _ => h g cap w' h2 (grown_fr h3) (h4.imp (fun h => by simp only [Value.ownBlock, Option.some.injEq] at h; exact h.symm) (fun h => by omega)))
  · have hm0 : m = 0 := by omega
    subst hm0
    have hn0 : news = [] := List.eq_nil_of_length_eq_zero (by rw [hl, Nat.zero_mul])
    subst hn0
    have hc := own_cap hown
    have hr : (Builtin.append_ #[t, t] o.type #[.slice (some ⟨g0, 0, none⟩) n c0, .slice (some ad) 0 c]).run Try.prog w = .ok (.slice (some ⟨g0, 0, none⟩) n c0) w := by
      simp [Builtin.append_, run_underlying ht, sizeOf, typeInfo, hi, Builtin.lenOf, Builtin.firstCells, loadCells, loadCellsFrom, hc.1]
      rw [storeCells]; rfl
    refine wpList_plain hgd fun K hK => ?_
    unfold Oper.wp execOp
    simp only [ho, resolve, invoke, builtin, Sem.run_bind, Sem.run_pure, Result.andThen_ok, List.map_toArray, List.map_cons, List.map_nil, hs, hx, hr]
    exact hK _ _ (h g0 c0 w (by simpa using hown) (Fr.refl _ _) (.inl rfl))
/-- The same, of a slice that may be nil. -/
theorem wpList_appO {ops : Array Oper} {rest : List Oper} {o : Oper} {a : Act} {Q : Exit → Act → World → Prop} (w : World) (hgd : o.guard = none) (s x : Operand) (t : TypeId)
    (ho : o.op = .call { callee := .builtin .append, args := #[s, x], argTypes := #[t, t] })
    (base : Nat) (e : TypeId) (i : TypeInfo) (z : Value) (size bytes : Nat) (ht : Try.prog.underlying t = some (.slice e)) (hi : Try.prog.info? e = some i) (hz : i.zero = some z)
    (hsize : i.size = size) (hby : i.bytes = bytes) (hzs : z.cells.size = size) (hsz : 0 < size)
    (g0 c0 n : Nat) (xs : List Value) (hs : a.eval s = .slice (some ⟨g0, 0, none⟩) n c0) (hown : w.ownsRow base e size (.slice (some ⟨g0, 0, none⟩) n c0) n xs)
    (oa : Option Addr) (m c : Nat) (news : List Value) (hx : a.eval x = .slice oa m c) (hl : news.length = m * size) (hnews : m = 0 ∨ ∃ ad, oa = some ad ∧ ∀ j u, news[j]? = some u → w.cell? (ad.add j) = some u) (h1 : ∀ u ∈ news, u.oneCell' = true)
    (h63 : n + m ≤ maxLen) (hbytes : (n + m) * bytes ≤ 140737488355328) (hbase : base ≤ w.heap.size)
    (h : ∀ g cap w', w'.ownsRow base e size (.slice (some ⟨g, 0, none⟩) (n + m) cap) (n + m) (xs ++ news) → Fr [g0] w w' → (g = g0 ∨ w.heap.size ≤ g) → wpList Try.prog ops Q rest (a.put o.dst (.slice (some ⟨g, 0, none⟩) (n + m) cap)) w') : wpList Try.prog ops Q (o :: rest) a w := by
  by_cases hm : m = 0
  · subst hm
    have hn0 : news = [] := List.eq_nil_of_length_eq_zero (by rw [hl, Nat.zero_mul])
    subst hn0
    cases oa with
    | some ad => exact wpList_app w hgd s x t ho base e i z size bytes ht hi hz hsize hby hzs hsz g0 c0 n xs hs hown ad 0 c [] hx hl (fun j u hu => by simp at hu) h1 h63 hbytes hbase h
    | none =>
      have hc := own_cap hown
      have hr : (Builtin.append_ #[t, t] o.type #[.slice (some ⟨g0, 0, none⟩) n c0, .slice none 0 c]).run Try.prog w = .ok (.slice (some ⟨g0, 0, none⟩) n c0) w := by
        simp [Builtin.append_, run_underlying ht, sizeOf, typeInfo, hi, Builtin.lenOf, Builtin.firstCells, loadCells, loadCellsFrom, hc.1]
        rw [storeCells]; rfl
      refine wpList_plain hgd fun K hK => ?_
      unfold Oper.wp execOp
      simp only [ho, resolve, invoke, builtin, Sem.run_bind, Sem.run_pure, Result.andThen_ok, List.map_toArray, List.map_cons, List.map_nil, hs, hx, hr]
      exact hK _ _ (h g0 c0 w (by simpa using hown) (Fr.refl _ _) (.inl rfl))
  · rcases hnews with h0 | ⟨ad, rfl, hc⟩
    · exact absurd h0 hm
    · exact wpList_app w hgd s x t ho base e i z size bytes ht hi hz hsize hby hzs hsz g0 c0 n xs hs hown ad m c news hx hl hc h1 h63 hbytes hbase h
theorem info_ent17 : (Try.prog.info? 42).map (fun i => (i.zero, i.size, i.bytes)) = some (some (.agg #[.int .i64 0, .int .u64 0]), 2, 16) := by kernel_rfl
theorem rf_news {w : World} {b o : Nat} {W : List W2} (h : RfAt w b o W) : ∀ j u, (rpCells W)[j]? = some u → w.cell? ((⟨b, o, none⟩ : Addr).add j) = some u := fun j u hu => by
  rw [Addr.add_lit]
  exact h.at_ j u hu
/-- The rest of a slice, whatever room there is. -/
theorem rf_from {w : World} {b o cap k : Nat} {W : List W2} (h : RfAt w b o W) (hk : k ≤ W.length) (hc : W.length ≤ cap) :
    ∃ o', RfAt w b o' (W.drop k) ∧ ∀ w', (Instr.slice 37 (.slice (some ⟨b, o, none⟩) W.length cap) (some (.int .i64 (k : Int))) none none).run Try.prog w' = .ok (.slice (some ⟨b, o', none⟩) (W.length - k) (cap - k)) w' := by
  have hu := Try.underlying37
  obtain ⟨i0, hi, hz0, hz1, hz2⟩ := info_parts info_ent17
  have h1 : (k : Int) ≤ (W.length : Int) := by omega
  have h2 : (W.length : Int) ≤ (cap : Int) := by omega
  by_cases hck : cap = k
  · have hW : W.length = k := by omega
    refine ⟨o, ?_, fun w' => ?_⟩
    · rw [← hW, List.drop_length]
      exact ⟨h.lt, fun i u hu => by simp [rpCells] at hu⟩
    · rw [hW, hck]
      simp [go_sem, *]
  · refine ⟨o + k * 2, h.drop k, fun w' => ?_⟩
    have h3 : ¬ (cap : Int) - (k : Int) = 0 := by omega
    have h4 : ¬ cap ≤ k := by omega
    have h5 : ¬ (cap - k = 0) := by omega
    simp [go_sem, *]
/-- What Add says. -/
def RaddOk (w : World) (W : List W2) (t x : Int) (e : Ending) (w' : World) : Prop :=
  ∃ (b' cap' k : Nat), e = .returned (.slice (some ⟨b', 0, none⟩) (W.length + 1) cap') ∧ w.heap.size ≤ b' ∧ W.length + 1 ≤ cap' ∧ cap' ≤ maxLen ∧ RfAt w' b' 0 (W.take k ++ ⟨t, x⟩ :: W.drop k) ∧ k ≤ W.length ∧ (∀ i e, i < k → W[i]? = some e → e.t ≤ t) ∧ (∀ e, W[k]? = some e → t < e.t) ∧ Fr [] w w'
set_option maxHeartbeats 1000000 in
theorem radd_c (w : World) (b o : Nat) (W : List W2) (cap : Nat) (hR : RfAt w b o W) (hn : W.length ≤ 1000) (hc : W.length ≤ cap) (hcm : cap ≤ maxLen) (t x : Int) :
    Calls Try.prog 11 #[.slice (some ⟨b, o, none⟩) W.length cap, .int .i64 t, .int .u64 x] w (RaddOk w W t x) := by
  have HR := Lib.hid hR
  have hcm2 : cap ≤ 9223372036854775807 := by unfold maxLen at hcm; omega
  have FRM := fun k (hk : k ≤ W.length) (w1 : World) (h : RfAt w1 b o W) => rf_from h hk hc
  obtain ⟨n, hnl⟩ : ∃ n, n = W.length := ⟨_, rfl⟩
  have HN := Lib.hid hnl
  rw [← hnl] at hn hc ⊢
  clear hR hnl hcm
  go_enter Try.func11, Try.ntmps11
  go_wp2_with fail
  go_loopw [7] (fun u wr => ∃ k : Nat, k ≤ n ∧ u = .int .i64 (k : Int) ∧ Hid (∀ i e, i < k → W[i]? = some e → e.t ≤ t) ∧ Hid (Fr [] w wr)) (fun u _ => n - (intOf u).toNat)
  case atStart => exact ⟨0, by omega, by go_num, Lib.hid (fun i e h => by omega), Lib.hid (Fr.refl _ _)⟩
  case round =>
    obtain ⟨k, hk, rfl, LE, F⟩ := hrel
    have RK := Lib.hid (HR.out.fr F.out (by simp))
    by_cases hlt : k < n
    · obtain ⟨x0, hx0⟩ : ∃ x0, W[k]? = some x0 := ⟨W[k]'(by rw [← HN.out]; exact hlt), by rw [List.getElem?_eq_getElem]⟩
      obtain ⟨d0, d1⟩ := RK.out.cell hx0
      have HX := Lib.hid hx0
      by_cases ht : x0.t ≤ t
      · have LN : Hid (∀ i e, i < k + 1 → W[i]? = some e → e.t ≤ t) := Lib.hid (fun i e hi he => by
          by_cases hik : i = k
          · subst hik; rw [HX.out, Option.some.injEq] at he; subst he; exact ht
          · exact LE.out i e (by omega) he)
        clear hx0 d1 LE
        go_wp2
        go_roundw
        case rel => exact ⟨k + 1, by omega, by go_num, LN, F⟩
        case measure => simp [intOf]; omega
      · have GT : Hid (∀ e, W[k]? = some e → t < e.t) := Lib.hid (fun e he => by rw [HX.out, Option.some.injEq] at he; subst he; omega)
        clear hx0 d1
        have KN : Hid (k ≤ n) := Lib.hid hk
        have hkc : k ≤ cap := by omega
        obtain ⟨o3, RD, RUN⟩ := FRM k (by rw [← HN.out]; exact hk) wr RK.out
        rw [← HN.out] at RUN
        have RD := Lib.hid RD
        have OW : Hid ((wr.alloc (.cells #[] 42)).ownsRow wr.heap.size 42 2 (.slice (some ⟨wr.heap.size, 0, none⟩) 0 0) 0 []) := Lib.hid (own_mk (cur := #[]) (by rw [blk_alloc, if_pos rfl]) (Nat.le_refl _) (Nat.le_refl _) (Nat.zero_le _) rfl rfl)
        have RT := Lib.hid ((RK.out.fr ((Fr.refl [] wr).alloc (.cells #[] 42)) (by simp)).take k)
        have NL : Hid ((rpCells (W.take k)).length = k * 2) := Lib.hid (by rw [len_rp, List.length_take, ← HN.out, Nat.min_eq_left hk])
        have ND : Hid ((rpCells (W.drop k)).length = (n - k) * 2) := Lib.hid (by rw [len_rp, List.length_drop, ← HN.out])
        have F4 := Lib.hid ((Fr.refl [] wr).alloc (.cells #[] 42))
        obtain ⟨i0, hi, hz0, hz1, hz2⟩ := info_parts info_ent17
        have II := Lib.hid hi
        have Z0 := Lib.hid hz0
        have Z1 := Lib.hid hz1
        have Z2 := Lib.hid hz2
        clear hi hz0 hz1 hz2 FRM
        go_wp2_with (first | (at_builtin; refine wpList_app _ rfl _ _ _ rfl wr.heap.size 42 i0 (.agg #[.int .i64 0, .int .u64 0]) 2 16 Try.underlying37 II.out Z0.out Z1.out Z2.out rfl (by decide) wr.heap.size 0 0 [] rfl OW.out ⟨b, o, none⟩ k cap (rpCells (W.take k)) rfl NL.out (rf_news RT.out) (one_rp _) (by unfold maxLen; omega) (by omega) F4.out.size ?_; intro g1 cap1 w5 own5 fr5 at5; rw [Nat.zero_add, List.nil_append] at own5; rw [Nat.zero_add]; have OW5 := Lib.hid own5; have F5 := Lib.hid (F4.out.trans fr5 (fun x hx => .inr (by simp only [List.mem_singleton] at hx; omega))); clear own5 fr5 at5 OW RT NL F4) | (at_builtin; refine wpList_app _ rfl _ _ _ rfl wr.heap.size 42 i0 (.agg #[.int .i64 0, .int .u64 0]) 2 16 Try.underlying37 II.out Z0.out Z1.out Z2.out rfl (by decide) g1 cap1 k (rpCells (W.take k)) rfl (own_fr OW5.out ((Fr.refl [] w5).alloc _) (by simp)) ⟨w5.heap.size, 0, none⟩ 1 1 [.int .i64 t, .int .u64 x] rfl rfl (World.news_of_block (show blk (World.alloc _ _) _ = _ from by rw [blk_alloc, if_pos rfl])) (by simp [Value.oneCell']) (by unfold maxLen; omega) (by omega) (Nat.le_trans F5.out.size ((Fr.refl [] w5).alloc _).size) ?_; intro g2 cap2 w6 own6 fr6 at6; have OW6 := Lib.hid own6; have G1 := own_base OW5.out; have F6 := Lib.hid ((F5.out.alloc _).trans fr6 (fun x hx => .inr (by simp only [List.mem_singleton] at hx; omega))); clear own6 fr6 at6 OW5 F5 G1) | (at_builtin; refine wpList_app _ rfl _ _ _ rfl wr.heap.size 42 i0 (.agg #[.int .i64 0, .int .u64 0]) 2 16 Try.underlying37 II.out Z0.out Z1.out Z2.out rfl (by decide) g2 cap2 (k + 1) _ rfl OW6.out ⟨b, o3, none⟩ (n - k) (cap - k) (rpCells (W.drop k)) rfl ND.out (rf_news (RD.out.fr F6.out (by simp))) (one_rp _) (by unfold maxLen; omega) (by omega) F6.out.size ?_; intro g3 cap3 w7 own7 fr7 at7; have OW7 := Lib.hid own7; have G2 := own_base OW6.out; have F7 := Lib.hid (F6.out.trans fr7 (fun x hx => .inr (by simp only [List.mem_singleton] at hx; omega))); clear own7 fr7 at7 OW6 F6 G2))
        have hkn : k + 1 + (n - k) = n + 1 := by have := KN.out; omega
        rw [hkn] at OW7 ⊢
        go_ret
        have hbs := own_base OW7.out
        have hcp := own_cap OW7.out
        have hF := F.out
        have hn0 := HN.out
        show RaddOk w W t x (.returned (.slice (some ⟨g3, 0, none⟩) (n + 1) cap3)) w7
        have hkn2 := KN.out
        refine ⟨g3, cap3, k, by rw [hn0], Nat.le_trans hF.size hbs, by rw [← hn0]; exact hcp.1, hcp.2, ⟨own_lt OW7.out, fun i u hu => ?_⟩, by rw [← hn0]; exact hkn2, LE.out, GT.out, hF.same F7.out⟩
        rw [Nat.zero_add]
        refine own_cell OW7.out ?_
        rw [rp_app, rp_cons] at hu
        rw [List.append_assoc]
        exact hu
    · have GT : Hid (∀ e, W[k]? = some e → t < e.t) := Lib.hid (fun e he => by rw [List.getElem?_eq_none (by rw [← HN.out]; omega)] at he; simp at he)
      have KN : Hid (k ≤ n) := Lib.hid hk
      have hkc : k ≤ cap := by omega
      obtain ⟨o3, RD, RUN⟩ := FRM k (by rw [← HN.out]; exact hk) wr RK.out
      rw [← HN.out] at RUN
      have RD := Lib.hid RD
      have OW : Hid ((wr.alloc (.cells #[] 42)).ownsRow wr.heap.size 42 2 (.slice (some ⟨wr.heap.size, 0, none⟩) 0 0) 0 []) := Lib.hid (own_mk (cur := #[]) (by rw [blk_alloc, if_pos rfl]) (Nat.le_refl _) (Nat.le_refl _) (Nat.zero_le _) rfl rfl)
      have RT := Lib.hid ((RK.out.fr ((Fr.refl [] wr).alloc (.cells #[] 42)) (by simp)).take k)
      have NL : Hid ((rpCells (W.take k)).length = k * 2) := Lib.hid (by rw [len_rp, List.length_take, ← HN.out, Nat.min_eq_left hk])
      have ND : Hid ((rpCells (W.drop k)).length = (n - k) * 2) := Lib.hid (by rw [len_rp, List.length_drop, ← HN.out])
      have F4 := Lib.hid ((Fr.refl [] wr).alloc (.cells #[] 42))
      obtain ⟨i0, hi, hz0, hz1, hz2⟩ := info_parts info_ent17
      have II := Lib.hid hi
      have Z0 := Lib.hid hz0
      have Z1 := Lib.hid hz1
      have Z2 := Lib.hid hz2
      clear hi hz0 hz1 hz2 FRM
      go_wp2_with (first | (at_builtin; refine wpList_app _ rfl _ _ _ rfl wr.heap.size 42 i0 (.agg #[.int .i64 0, .int .u64 0]) 2 16 Try.underlying37 II.out Z0.out Z1.out Z2.out rfl (by decide) wr.heap.size 0 0 [] rfl OW.out ⟨b, o, none⟩ k cap (rpCells (W.take k)) rfl NL.out (rf_news RT.out) (one_rp _) (by unfold maxLen; omega) (by omega) F4.out.size ?_; intro g1 cap1 w5 own5 fr5 at5; rw [Nat.zero_add, List.nil_append] at own5; rw [Nat.zero_add]; have OW5 := Lib.hid own5; have F5 := Lib.hid (F4.out.trans fr5 (fun x hx => .inr (by simp only [List.mem_singleton] at hx; omega))); clear own5 fr5 at5 OW RT NL F4) | (at_builtin; refine wpList_app _ rfl _ _ _ rfl wr.heap.size 42 i0 (.agg #[.int .i64 0, .int .u64 0]) 2 16 Try.underlying37 II.out Z0.out Z1.out Z2.out rfl (by decide) g1 cap1 k (rpCells (W.take k)) rfl (own_fr OW5.out ((Fr.refl [] w5).alloc _) (by simp)) ⟨w5.heap.size, 0, none⟩ 1 1 [.int .i64 t, .int .u64 x] rfl rfl (World.news_of_block (show blk (World.alloc _ _) _ = _ from by rw [blk_alloc, if_pos rfl])) (by simp [Value.oneCell']) (by unfold maxLen; omega) (by omega) (Nat.le_trans F5.out.size ((Fr.refl [] w5).alloc _).size) ?_; intro g2 cap2 w6 own6 fr6 at6; have OW6 := Lib.hid own6; have G1 := own_base OW5.out; have F6 := Lib.hid ((F5.out.alloc _).trans fr6 (fun x hx => .inr (by simp only [List.mem_singleton] at hx; omega))); clear own6 fr6 at6 OW5 F5 G1) | (at_builtin; refine wpList_app _ rfl _ _ _ rfl wr.heap.size 42 i0 (.agg #[.int .i64 0, .int .u64 0]) 2 16 Try.underlying37 II.out Z0.out Z1.out Z2.out rfl (by decide) g2 cap2 (k + 1) _ rfl OW6.out ⟨b, o3, none⟩ (n - k) (cap - k) (rpCells (W.drop k)) rfl ND.out (rf_news (RD.out.fr F6.out (by simp))) (one_rp _) (by unfold maxLen; omega) (by omega) F6.out.size ?_; intro g3 cap3 w7 own7 fr7 at7; have OW7 := Lib.hid own7; have G2 := own_base OW6.out; have F7 := Lib.hid (F6.out.trans fr7 (fun x hx => .inr (by simp only [List.mem_singleton] at hx; omega))); clear own7 fr7 at7 OW6 F6 G2))
      have hkn : k + 1 + (n - k) = n + 1 := by have := KN.out; omega
      rw [hkn] at OW7 ⊢
      go_ret
      have hbs := own_base OW7.out
      have hcp := own_cap OW7.out
      have hF := F.out
      have hn0 := HN.out
      show RaddOk w W t x (.returned (.slice (some ⟨g3, 0, none⟩) (n + 1) cap3)) w7
      have hkn2 := KN.out
      refine ⟨g3, cap3, k, by rw [hn0], Nat.le_trans hF.size hbs, by rw [← hn0]; exact hcp.1, hcp.2, ⟨own_lt OW7.out, fun i u hu => ?_⟩, by rw [← hn0]; exact hkn2, LE.out, GT.out, hF.same F7.out⟩
      rw [Nat.zero_add]
      refine own_cell OW7.out ?_
      rw [rp_app, rp_cons] at hu
      rw [List.append_assoc]
      exact hu
/-! ### Put -/
def putW (W : List W2) (ws : List Int) (k : Nat) : List W2 := W.mapIdx fun i e => if i < k then ⟨e.t, ws[i]?.getD 0⟩ else e
theorem putW_zero (W : List W2) (ws : List Int) : putW W ws 0 = W := by
  unfold putW
  apply List.ext_getElem?
  intro i
  rw [List.getElem?_mapIdx]
  cases W[i]? <;> simp
theorem len_putW (W : List W2) (ws : List Int) (k : Nat) : (putW W ws k).length = W.length := by simp [putW]
theorem putW_step (W : List W2) (ws : List Int) (k : Nat) (hk : k < W.length) : (rpCells (putW W ws k)).set (k * 2 + 1) (.int .u64 (ws[k]?.getD 0)) = rpCells (putW W ws (k + 1)) := by
  have key : ∀ (V : List W2) (i : Nat) (e : W2) (x : Int), V[i]? = some e → (rpCells V).set (i * 2 + 1) (.int .u64 x) = rpCells (V.set i ⟨e.t, x⟩) := by
    intro V
    induction V with
    | nil => intro i e x h; simp at h
    | cons y V ih =>
      intro i e x h
      cases i with
      | zero => simp at h; subst h; simp [rpCells]
      | succ i =>
        have := ih i e x (by simpa using h)
        simp only [rpCells, List.flatMap_cons, List.set_cons_succ] at this ⊢
        rw [← this, show (i + 1) * 2 + 1 = i * 2 + 1 + 2 by omega]
        simp
  have hg : (putW W ws k)[k]? = some W[k] := by
    unfold putW
    rw [List.getElem?_mapIdx, List.getElem?_eq_getElem hk]
    simp
  rw [key _ k _ _ hg]
  congr 1
  unfold putW
  apply List.ext_getElem?
  intro i
  rw [List.getElem?_mapIdx]
  by_cases hik : i = k
  · subst hik
    rw [List.getElem?_set_self (by simpa using hk), List.getElem?_eq_getElem hk]
    simp
  · rw [List.getElem?_set_ne (Ne.symm hik), List.getElem?_mapIdx]
    cases W[i]? with
    | none => rfl
    | some e =>
      simp only [Option.map_some, Option.some.injEq]
      by_cases h1 : i < k
      · rw [if_pos h1, if_pos (by omega)]
      · rw [if_neg h1, if_neg (by omega)]
/-- A slice of words, as it is read. -/
def WsR (w : World) (a : Option Addr) (ws : List Int) : Prop := ws = [] ∨ ∃ b o, a = some ⟨b, o, none⟩ ∧ b < w.heap.size ∧ ∀ i, i < ws.length → w.cell? ⟨b, o + i, none⟩ = some (.int .u64 (ws[i]?.getD 0))
theorem WsR.keep {w w' : World} {a : Option Addr} {ws : List Int} {S : List Nat} (h : WsR w a ws) (hF : Fr S w w') (hS : ∀ b o, a = some ⟨b, o, none⟩ → b ∉ S) : WsR w' a ws := by
  rcases h with h | ⟨b, o, h1, h2, h3⟩
  · exact .inl h
  · exact .inr ⟨b, o, h1, Nat.lt_of_lt_of_le h2 hF.size, fun i hi => by
      rw [← h3 i hi]
      exact World.cell?_of_block (w := w) (hF.block b h2 (hS b o h1))⟩
theorem rput_no (w : World) (b o n cap : Nat) (a : Option Addr) (m mc : Nat) (h : m ≠ n) :
    Calls Try.prog 12 #[.slice (some ⟨b, o, none⟩) n cap, .slice a m mc] w fun e w' => e = .returned (.tuple #[.slice (some ⟨b, o, none⟩) n cap, .bool false]) ∧ w = w' := by
  have hb : ((m : Int) != (n : Int)) = true := by simp; omega
  go_enter Try.func12, Try.ntmps12
  go_wp2
  go_ret2
  exact ⟨rfl, rfl⟩
def RputOk (w : World) (W : List W2) (ws : List Int) (e : Ending) (w' : World) : Prop :=
  ∃ (b' cap' : Nat), e = .returned (.tuple #[.slice (some ⟨b', 0, none⟩) W.length cap', .bool true]) ∧ w.heap.size ≤ b' ∧ W.length ≤ cap' ∧ cap' ≤ maxLen ∧ RfAt w' b' 0 (putW W ws W.length) ∧ Fr [] w w'
set_option maxHeartbeats 1000000 in
theorem rput_c (w : World) (b o : Nat) (W : List W2) (cap : Nat) (hR : RfAt w b o W) (hn : W.length ≤ 1000) (a : Option Addr) (ws : List Int) (mc : Nat) (hW : WsR w a ws) (hwl : ws.length = W.length) :
    Calls Try.prog 12 #[.slice (some ⟨b, o, none⟩) W.length cap, .slice a W.length mc] w (RputOk w W ws) := by
  have HW := Lib.hid hW
  have HL := Lib.hid hwl
  obtain ⟨n, hnl⟩ : ∃ n, n = W.length := ⟨_, rfl⟩
  have HN := Lib.hid hnl
  have OW : Hid ((w.alloc (.cells #[] 42)).ownsRow w.heap.size 42 2 (.slice (some ⟨w.heap.size, 0, none⟩) 0 0) 0 []) := Lib.hid (own_mk (cur := #[]) (by rw [blk_alloc, if_pos rfl]) (Nat.le_refl _) (Nat.le_refl _) (Nat.zero_le _) rfl rfl)
  have RT := Lib.hid (hR.fr ((Fr.refl [] w).alloc (.cells #[] 42)) (by simp))
  have NL : Hid ((rpCells W).length = n * 2) := Lib.hid (by rw [len_rp, hnl])
  have F4 := Lib.hid ((Fr.refl [] w).alloc (.cells #[] 42))
  obtain ⟨i0, hi, hz0, hz1, hz2⟩ := info_parts info_ent17
  have II := Lib.hid hi
  have Z0 := Lib.hid hz0
  have Z1 := Lib.hid hz1
  have Z2 := Lib.hid hz2
  rw [← hnl] at hn ⊢
  clear hi hz0 hz1 hz2 hR hW hwl hnl
  go_enter Try.func12, Try.ntmps12
  go_wp2_with (at_builtin; refine wpList_app _ rfl _ _ _ rfl w.heap.size 42 i0 (.agg #[.int .i64 0, .int .u64 0]) 2 16 Try.underlying37 II.out Z0.out Z1.out Z2.out rfl (by decide) w.heap.size 0 0 [] rfl OW.out ⟨b, o, none⟩ n cap (rpCells W) rfl NL.out (rf_news RT.out) (one_rp _) (by unfold maxLen; omega) (by omega) F4.out.size ?_; intro g1 cap1 w5 own5 fr5 at5; rw [Nat.zero_add, List.nil_append] at own5; rw [Nat.zero_add]; have OW5 := Lib.hid own5; have F5 := Lib.hid (F4.out.trans fr5 (fun x hx => .inr (by simp only [List.mem_singleton] at hx; omega))); clear own5 fr5 at5 OW RT NL F4)
  have O0 : Hid (w5.ownsRow w.heap.size 42 2 (.slice (some ⟨g1, 0, none⟩) n cap1) n (rpCells (putW W ws 0))) := Lib.hid (by rw [putW_zero]; exact OW5.out)
  have hc1 := own_cap OW5.out
  have hnc := hc1.1
  clear OW5 hc1
  go_loopw [7, 19] (fun _ u wr => ∃ k : Nat, k ≤ n ∧ u = .int .i64 (k : Int) ∧ Hid (wr.ownsRow w.heap.size 42 2 (.slice (some ⟨g1, 0, none⟩) n cap1) n (rpCells (putW W ws k))) ∧ Hid (Fr [] w wr)) (fun _ u _ => n - (intOf u).toNat)
  case atStart => exact ⟨0, by omega, by go_num, O0, F5⟩
  case round =>
    obtain ⟨k, hk, rfl, OK, F⟩ := hrel
    clear O0 F5
    by_cases hlt : k < n
    · rcases (HW.out.keep F.out (by simp)) with hr | ⟨bb, bo, rfl, hb1, hb2⟩
      · have h1 := HL.out; rw [hr, ← HN.out] at h1; simp at h1; omega
      have d0 := hb2 k (by rw [HL.out, ← HN.out]; exact hlt)
      have fz := own_free OK.out (k * 2 + 1)
      obtain ⟨e0, he0⟩ : ∃ e0, (putW W ws k)[k]? = some e0 := ⟨(putW W ws k)[k]'(by rw [len_putW, ← HN.out]; exact hlt), by rw [List.getElem?_eq_getElem]⟩
      have d2 := own_cell OK.out (rp_get _ _ _ he0).2
      have ON : Hid ((wr.setCell ⟨g1, k * 2 + 1, none⟩ (.int .u64 (ws[k]?.getD 0))).ownsRow w.heap.size 42 2 (.slice (some ⟨g1, 0, none⟩) n cap1) n (rpCells (putW W ws (k + 1)))) := Lib.hid (by
        have := own_set OK.out (k * 2 + 1) (.int .u64 (ws[k]?.getD 0))
        rwa [putW_step W ws k (by rw [← HN.out]; exact hlt)] at this)
      have FN : Hid (Fr [] w (wr.setCell ⟨g1, k * 2 + 1, none⟩ (.int .u64 (ws[k]?.getD 0)))) := Lib.hid (F.out.setCell (.inr (own_base OK.out)) _)
      obtain ⟨y, hy⟩ : ∃ y, y = ws[k]?.getD 0 := ⟨_, rfl⟩
      rw [← hy] at d0 ON FN
      clear OK hy hb1 hb2 he0 F
      go_wp2
      go_roundw
      case rel => exact ⟨k + 1, by omega, by go_num, ON, FN⟩
      case measure => simp [intOf]; omega
    · have hkn : k = n := by omega
      subst hkn
      have hcp := own_cap OK.out
      have RES : Hid (RputOk w W ws (.returned (.tuple #[.slice (some ⟨g1, 0, none⟩) k cap1, .bool true])) wr) := Lib.hid (by
        have hbs := own_base OK.out
        have hn0 := HN.out
        refine ⟨g1, cap1, by rw [hn0], hbs, by rw [← hn0]; exact hcp.1, hcp.2, ⟨own_lt OK.out, fun i u hu => ?_⟩, F.out⟩
        rw [Nat.zero_add]
        rw [← hn0] at hu
        exact own_cell OK.out hu)
      have hlt := Lib.hid hlt
      clear OK F hcp
      go_wp2
      go_ret2
      exact RES.out
end Go.Proofs.Ytdaoaddpbibnmaa
