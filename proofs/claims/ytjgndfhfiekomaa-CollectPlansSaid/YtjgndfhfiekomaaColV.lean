/- Collecting: what holds while Run goes through its roots, and what it scans. -/
import Derived.Test.YtjgndfhfiekomaaColP
set_option linter.all false
namespace Go.Proofs.Ytjgndfhfiekomaa
open Go.ChangeShapes Go.WideShapes Go.RowKit Go.Maps
variable {w w' W : World} {c : Tk} {m n : Nat} {cl : Int → Int} {wv : Value} {T T0 : Tr} {ls : List (List Int)} {rs : List Rw} {q j : Nat}
theorem set_mid {α : Type} (a b : List α) (x y : α) : (a ++ x :: b).set a.length y = a ++ y :: b := by simp
theorem get_mid {α : Type} (a b : List α) (x : α) : (a ++ x :: b)[a.length]? = some x := by simp
theorem RowsIn.step {D E : List (List Int)} {P S : List Int} {x : Int} (h : RowsIn w rs (D ++ (P ++ x :: S) :: E)) (ap : RowsAp rs) {r : Rw} (hr : rs[D.length]? = some r) (hj : P.length < r.l.length) (y : Int) :
    RowsIn (w.setCell ⟨r.g, r.o + P.length, none⟩ (.int .u64 y)) rs (D ++ (P ++ y :: S) :: E) := by
  have := h.store ap hr (get_mid D E (P ++ x :: S)) hj y
  rw [set_mid, set_mid] at this
  exact this
theorem RowsIn.at {D E : List (List Int)} {P S : List Int} {x : Int} (h : RowsIn w rs (D ++ (P ++ x :: S) :: E)) {r : Rw} (hr : rs[D.length]? = some r) (hj : P.length < r.l.length) :
    r.va = some ⟨r.g, r.o, none⟩ ∧ w.cell? ⟨r.g, r.o + P.length, none⟩ = some (.int .u64 x) ∧ w.frozen? ⟨r.g, r.o + P.length, none⟩ = false := by
  have := (h.2 _ r _ hr (get_mid D E (P ++ x :: S))).cell hj
  rwa [get_mid] at this
theorem drop_cons' {α : Type} (l : List α) (i : Nat) (x : α) (h : l[i]? = some x) : l.drop i = x :: l.drop (i + 1) := by
  have hi : i < l.length := by
    rcases Nat.lt_or_ge i l.length with h2 | h2
    · exact h2
    · rw [List.getElem?_eq_none h2] at h; cases h
  rw [List.drop_eq_getElem_cons hi]
  rw [List.getElem?_eq_getElem hi] at h
  injection h with h
  rw [h]
def TTr (cl : Int → Int) (m : Nat) (T0 : Tr) (ls : List (List Int)) (q j : Nat) : Tr := (followL cl m (followR cl m T0 (ls.take q)).1 ((ls[q]?.getD []).take j)).1
def TTl (cl : Int → Int) (m : Nat) (T0 : Tr) (ls : List (List Int)) (q j : Nat) : List Int := (followL cl m (followR cl m T0 (ls.take q)).1 ((ls[q]?.getD []).take j)).2
/-- So many rows are followed. -/
structure RQ (c : Tk) (m n : Nat) (cl : Int → Int) (T0 : Tr) (ls : List (List Int)) (rs : List Rw) (W wr : World) (q : Nat) : Prop where
  tr : ∃ wv, TrAt wr c m n cl wv (followR cl m T0 (ls.take q)).1
  rows : RowsIn wr rs ((followR cl m T0 (ls.take q)).2 ++ ls.drop q)
  fx : FX c (rs.map Rw.g) W wr
/-- And so many words of the next. -/
structure RI (c : Tk) (m n : Nat) (cl : Int → Int) (T0 : Tr) (ls : List (List Int)) (rs : List Rw) (W wr : World) (q j : Nat) : Prop where
  tr : ∃ wv, TrAt wr c m n cl wv (TTr cl m T0 ls q j)
  rows : RowsIn wr rs ((followR cl m T0 (ls.take q)).2 ++ (TTl cl m T0 ls q j ++ (ls[q]?.getD []).drop j) :: ls.drop (q + 1))
  fx : FX c (rs.map Rw.g) W wr
theorem row_some (hq : q < ls.length) : ls[q]? = some (ls[q]?.getD []) := by rw [List.getElem?_eq_getElem hq]; rfl
theorem RQ.start (h : TrAt W c m n cl wv T0) (hR : RowsIn W rs ls) (hF : FX c (rs.map Rw.g) W W) : RQ c m n cl T0 ls rs W W 0 :=
  ⟨⟨wv, by simpa [followR] using h⟩, by simpa [followR] using hR, hF⟩
theorem RQ.inner (h : RQ c m n cl T0 ls rs W w q) (hq : q < ls.length) : RI c m n cl T0 ls rs W w q 0 := by
  refine ⟨by simpa [TTr, followL] using h.tr, ?_, h.fx⟩
  have := h.rows
  rw [drop_cons' ls q _ (row_some hq)] at this
  simpa [TTl, followL] using this
theorem RI.outer (h : RI c m n cl T0 ls rs W w q j) (hq : q < ls.length) (hj : (ls[q]?.getD []).length ≤ j) : RQ c m n cl T0 ls rs W w (q + 1) := by
  obtain ⟨wv, h1⟩ := h.tr
  have h2 := h.rows
  unfold TTr at h1
  unfold TTl at h2
  rw [List.take_of_length_le hj] at h1 h2
  rw [List.drop_eq_nil_of_le hj, List.append_nil] at h2
  have ht := followR_take cl m T0 ls q hq
  refine ⟨⟨wv, by rw [ht]; exact h1⟩, by rw [ht]; simpa using h2, h.fx⟩
theorem RI.lens (h : RI c m n cl T0 ls rs W w q j) (hq : q < ls.length) (hj : j ≤ (ls[q]?.getD []).length) : (followR cl m T0 (ls.take q)).2.length = q ∧ (TTl cl m T0 ls q j).length = j := by
  refine ⟨by rw [len_followR, List.length_take]; omega, ?_⟩
  unfold TTl
  rw [len_followL, List.length_take]; omega
theorem RI.len (h : RI c m n cl T0 ls rs W w q j) (hq : q < ls.length) (hj : j ≤ (ls[q]?.getD []).length) {r : Rw} (hr : rs[q]? = some r) : r.l.length = (ls[q]?.getD []).length := by
  obtain ⟨l1, l2⟩ := h.lens hq hj
  have h0 := h.rows
  have h2 := (h0.2 q r _ hr (by have := get_mid (followR cl m T0 (ls.take q)).2 (ls.drop (q + 1)) (TTl cl m T0 ls q j ++ (ls[q]?.getD []).drop j); rw [l1] at this; exact this)).1
  rw [List.length_append, l2, List.length_drop] at h2
  omega
theorem RI.word (h : RI c m n cl T0 ls rs W w q j) (hq : q < ls.length) (hj : j < (ls[q]?.getD []).length) {r : Rw} (hr : rs[q]? = some r) :
    r.va = some ⟨r.g, r.o, none⟩ ∧ w.cell? ⟨r.g, r.o + j, none⟩ = some (.int .u64 ((ls[q]?.getD [])[j]?.getD 0)) ∧ w.frozen? ⟨r.g, r.o + j, none⟩ = false := by
  obtain ⟨l1, l2⟩ := h.lens hq (Nat.le_of_lt hj)
  have hlen := h.len hq (Nat.le_of_lt hj) hr
  have h0 := h.rows
  rw [drop_cons' (ls[q]?.getD []) j ((ls[q]?.getD [])[j]?.getD 0) (by rw [List.getElem?_eq_getElem hj]; rfl)] at h0
  have := h0.at (by rw [l1]; exact hr) (by rw [l2, hlen]; exact hj)
  rw [l2] at this
  exact this
/-- A word is followed and stored. -/
theorem RI.step (h : RI c m n cl T0 ls rs W w q j) (ap : RowsAp rs) (far : ∀ r, r ∈ rs → c.far r.g) (hq : q < ls.length) (hj : j < (ls[q]?.getD []).length) {r : Rw} (hr : rs[q]? = some r) {e : Ending}
    (hd : FwDone c m n cl w (followT cl m (TTr cl m T0 ls q j) ((ls[q]?.getD [])[j]?.getD 0)) e w') :
    RI c m n cl T0 ls rs W (w'.setCell ⟨r.g, r.o + j, none⟩ (.int .u64 (followT cl m (TTr cl m T0 ls q j) ((ls[q]?.getD [])[j]?.getD 0)).2)) q (j + 1) ∧ w'.frozen? ⟨r.g, r.o + j, none⟩ = false ∧ (∃ v, w'.cell? ⟨r.g, r.o + j, none⟩ = some v) := by
  obtain ⟨_, ⟨wv, hT⟩, hF⟩ := hd
  obtain ⟨l1, l2⟩ := h.lens hq (Nat.le_of_lt hj)
  have hlen := h.len hq (Nat.le_of_lt hj) hr
  have hmem : r ∈ rs := List.mem_of_getElem? hr
  have ht := followL_take cl m (followR cl m T0 (ls.take q)).1 (ls[q]?.getD []) j hj
  have h0 := h.rows.fb hF far
  rw [drop_cons' (ls[q]?.getD []) j ((ls[q]?.getD [])[j]?.getD 0) (by rw [List.getElem?_eq_getElem hj]; rfl)] at h0
  have hat := h0.at (by rw [l1]; exact hr) (by rw [l2, hlen]; exact hj)
  have hst := h0.step ap (by rw [l1]; exact hr) (by rw [l2, hlen]; exact hj) (followT cl m (TTr cl m T0 ls q j) ((ls[q]?.getD [])[j]?.getD 0)).2
  rw [l2] at hat hst
  refine ⟨⟨⟨wv, ?_⟩, ?_, (h.fx.fb hF).set (List.mem_map_of_mem hmem) _⟩, hat.2.2, _, hat.2.1⟩
  · have e1 : TTr cl m T0 ls q (j + 1) = (followT cl m (TTr cl m T0 ls q j) ((ls[q]?.getD [])[j]?.getD 0)).1 := by unfold TTr; rw [ht]
    rw [e1]
    exact hT.other (far r hmem) _
  · have e2 : TTl cl m T0 ls q (j + 1) = TTl cl m T0 ls q j ++ [(followT cl m (TTr cl m T0 ls q j) ((ls[q]?.getD [])[j]?.getD 0)).2] := by unfold TTl TTr; rw [ht]
    rw [e2]
    simpa using hst
theorem RI.bd (hB : BdR cl m T0 ls) (hq : q < ls.length) (hj : j < (ls[q]?.getD []).length) : (TTr cl m T0 ls q j).Bd ∧ 0 ≤ (ls[q]?.getD [])[j]?.getD 0 ∧ (ls[q]?.getD [])[j]?.getD 0 < 18446744073709551616 :=
  (hB.at q hq).at j hj
/-- What is to be scanned still. -/
structure RD (c : Tk) (m n : Nat) (cl : Int → Int) (TT : Tr) (ls' : List (List Int)) (rs : List Rw) (W wr : World) (g : Nat) (T : Tr) (wv : Value) : Prop where
  dr : Drains cl m g T TT
  tr : TrAt wr c m n cl wv T
  rows : RowsIn wr rs ls'
  fx : FX c (rs.map Rw.g) W wr
theorem RQ.drain {ls' : List (List Int)} (h : RQ c m n cl T0 ls rs W w ls.length) {TT : Tr} (hR : Runs cl m T0 ls TT ls') : ∃ g T wv, RD c m n cl TT ls' rs W w g T wv := by
  obtain ⟨wv, h1⟩ := h.tr
  have h2 := h.rows
  rw [List.take_length] at h1 h2
  rw [List.drop_length, List.append_nil] at h2
  obtain ⟨g, hg⟩ := hR.dr
  exact ⟨g, _, wv, hg, h1, by rw [hR.eq]; exact h2, h.fx⟩
theorem RD.keep {TT : Tr} {ls' : List (List Int)} {g : Nat} (h : RD c m n cl TT ls' rs W w g T wv) (hF : Fr [] w w') (far : ∀ r, r ∈ rs → c.far r.g) : RD c m n cl TT ls' rs W w' g T wv :=
  ⟨h.dr, h.tr.keep hF, h.rows.fb (FB.nil hF h.fx.ge) far, h.fx.fb (FB.nil hF h.fx.ge)⟩
theorem work_form (h : TrAt w c m n cl wv T) : ∃ a cap, wv = .slice a T.work.length cap ∧ T.work.length ≤ cap := by
  obtain ⟨_, h⟩ := h.wk
  rcases h with ⟨h1, h2⟩ | ⟨g, cap, cur, hv, _, _, hn, _⟩
  · exact ⟨none, 0, by rw [h1, h2], by omega⟩
  · exact ⟨_, _, hv, hn⟩
/-- The last of what is to be scanned. -/
theorem RD.pop {TT : Tr} {ls' : List (List Int)} {g : Nat} (h : RD c m n cl TT ls' rs W w g T wv) (far : ∀ r, r ∈ rs → c.far r.g) (hw : T.work ≠ []) :
    ∃ (g' a cap k : Nat) (x : Int), g = g' + 1 ∧ T.work.length = k + 1 ∧ k < 2000000 ∧ wv = .slice (some ⟨a, 0, none⟩) (k + 1) cap ∧ k + 1 ≤ cap ∧ w.cell? ⟨a, k, none⟩ = some (.int .u64 x) ∧ 0 ≤ x ∧ x < 18446744073709551616 ∧
      ∀ w', Fr [] w w' → ∃ T1, TrAt (w'.setCell ⟨c.tb, 5, none⟩ (.slice (some ⟨a, 0, none⟩) k cap)) c m n cl (.slice (some ⟨a, 0, none⟩) k cap) T1 ∧ c.B ≤ (w'.setCell ⟨c.tb, 5, none⟩ (.slice (some ⟨a, 0, none⟩) k cap)).heap.size ∧
        (∀ q : Nat, (q : Int) < countedF T1.A m x → (scanN cl m x T1 q).Bd) ∧
        ∀ w2, (∃ wv', TrAt w2 c m n cl wv' (scanT cl m x T1)) ∧ FB c (w'.setCell ⟨c.tb, 5, none⟩ (.slice (some ⟨a, 0, none⟩) k cap)) w2 → ∃ T' wv', RD c m n cl TT ls' rs W w2 g' T' wv' := by
  have hd := h.dr
  cases hd with
  | done _ hn => exact absurd hn hw
  | step k _ x ws _ h1 h2 h3 h4 =>
    have htr := h.tr
    have hl : T.work.length = ws.length + 1 := by rw [h1]; simp
    have hown := htr.wk
    obtain ⟨a, cap, hv, hc⟩ : ∃ a cap, wv = .slice (some ⟨a, 0, none⟩) (ws.length + 1) cap ∧ ws.length + 1 ≤ cap := by
      obtain ⟨_, h⟩ := hown
      rcases h with ⟨_, h5⟩ | ⟨g, cap, cur, hv, _, _, hn, _⟩
      · omega
      · exact ⟨g, cap, by rw [hv, hl], by omega⟩
    subst hv
    rw [hl] at hown
    have hcell : w.cell? ⟨a, ws.length, none⟩ = some (.int .u64 x) := own_cell hown (by rw [h1]; simp)
    have hx := htr.w0 x (by rw [h1]; simp)
    refine ⟨k, a, cap, ws.length, x, rfl, hl, by omega, rfl, hc, hcell, hx.1, hx.2, ?_⟩
    intro w' hF
    have hown2 := own_take (own_fr hown hF (by simp)) ws.length (by omega)
    have hmap : (T.work.map (Value.int .u64)).take (ws.length * 1) = ws.map (Value.int .u64) := by rw [h1]; simp
    rw [hmap] at hown2
    obtain ⟨q1, q2⟩ := (htr.setWork (S := []) hF (by simp) (fun y hy => htr.w0 y (by rw [h1]; simp [hy])) hown2)
    have q2 := q2 h.fx.ge
    refine ⟨_, q1, q2.ge, h3, fun w2 hw2 => ?_⟩
    obtain ⟨⟨wv', r1⟩, r2⟩ := hw2
    exact ⟨_, wv', h4, r1, (h.rows.fb q2 far).fb r2 far, (h.fx.fb q2).fb r2⟩
theorem RD.done {TT : Tr} {ls' : List (List Int)} {g : Nat} (h : RD c m n cl TT ls' rs W w g T wv) (hw : T.work = []) : T = TT := by
  have hd := h.dr
  cases hd with
  | done _ hn => rfl
  | step k _ x ws _ h1 h2 h3 h4 => rw [hw] at h1; simp at h1
theorem FX.fin {c : Tk} {gs : List Nat} {w W w' : World} (h : FX c gs W w') (hF : Fr [] w W) (h1 : w.heap.size ≤ c.tb) (h2 : w.heap.size ≤ c.sb) (h3 : w.heap.size ≤ c.B) : Fr (c.b :: c.wb :: c.lb :: gs) w w' :=
  ⟨h.os.trans hF.os, h.tape.trans hF.tape, h.output.trans hF.output, Nat.le_trans hF.size h.size, fun k hk hn => by
    simp only [List.mem_cons, not_or] at hn
    rw [h.block k (by omega) (by simp only [Tk.own, List.mem_cons, List.not_mem_nil, or_false, not_or]; exact ⟨by omega, by omega, hn.1, hn.2.1, hn.2.2.1⟩) hn.2.2.2]
    exact hF.block k hk (by simp)⟩
end Go.Proofs.Ytjgndfhfiekomaa
