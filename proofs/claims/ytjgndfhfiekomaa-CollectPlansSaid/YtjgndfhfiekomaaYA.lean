import Derived.Test.YtjgndfhfiekomaaRowsV
import Derived.Test.YtjgndfhfiekomaaColS
import Derived.Test.YtjgndfhfiekomaaBools
import Derived.ArgAppend
/- The law's world in memory: a heap, its roots, the model, the pins. -/
set_option linter.all false
namespace Go.Proofs.Ytjgndfhfiekomaa
open Go.ChangeShapes Go.WideShapes Go.RowKit
/-- A field of the model. -/
structure Fd where
  w : Int
  k : Int
/-- An object of the model, and its fields' slice. -/
structure Mo where
  kind : Int
  fs : List Fd
  v : Value
structure Ys where
  roots : List Int
  rb : Nat
  objs : List Mo
  ov : Value
  mr : List Fd
  mv : Value
  pins : List Int
  pv : Value
def fdCells (l : List Fd) : List Value := l.flatMap fun f => [.int .u64 f.w, .int .i64 f.k]
def moCells (l : List Mo) : List Value := l.flatMap fun o => [.int .i64 o.kind, o.v]
theorem len_fd (l : List Fd) : (fdCells l).length = l.length * 2 := by
  induction l with
  | nil => rfl
  | cons x l ih => simp only [fdCells, List.flatMap_cons, List.length_append, List.length_cons, List.length_nil] at ih ⊢; omega
theorem len_mo (l : List Mo) : (moCells l).length = l.length * 2 := by
  induction l with
  | nil => rfl
  | cons x l ih => simp only [moCells, List.flatMap_cons, List.length_append, List.length_cons, List.length_nil] at ih ⊢; omega
theorem fd_get (l : List Fd) (i : Nat) (f : Fd) (h : l[i]? = some f) : (fdCells l)[i * 2]? = some (.int .u64 f.w) ∧ (fdCells l)[i * 2 + 1]? = some (.int .i64 f.k) := by
  induction l generalizing i with
  | nil => simp at h
  | cons x l ih =>
    cases i with
    | zero => simp at h; subst h; simp [fdCells]
    | succ i =>
      have := ih i (by simpa using h)
      simp only [fdCells, List.flatMap_cons] at this ⊢
      rw [show (i + 1) * 2 = i * 2 + 2 by omega, show i * 2 + 2 + 1 = i * 2 + 1 + 2 by omega]
      simpa using this
theorem mo_get (l : List Mo) (i : Nat) (f : Mo) (h : l[i]? = some f) : (moCells l)[i * 2]? = some (.int .i64 f.kind) ∧ (moCells l)[i * 2 + 1]? = some f.v := by
  induction l generalizing i with
  | nil => simp at h
  | cons x l ih =>
    cases i with
    | zero => simp at h; subst h; simp [moCells]
    | succ i =>
      have := ih i (by simpa using h)
      simp only [moCells, List.flatMap_cons] at this ⊢
      rw [show (i + 1) * 2 = i * 2 + 2 by omega, show i * 2 + 2 + 1 = i * 2 + 1 + 2 by omega]
      simpa using this
theorem fd_set (l : List Fd) (i : Nat) (f : Fd) (h : i < l.length) : ((fdCells l).set (i * 2) (.int .u64 f.w)).set (i * 2 + 1) (.int .i64 f.k) = fdCells (l.set i f) := by
  induction l generalizing i with
  | nil => simp at h
  | cons x l ih =>
    cases i with
    | zero => simp [fdCells]
    | succ i =>
      have := ih i (by simpa using h)
      simp only [fdCells, List.flatMap_cons, List.set_cons_succ] at this ⊢
      rw [← this, show (i + 1) * 2 = i * 2 + 2 by omega, show i * 2 + 2 + 1 = i * 2 + 1 + 2 by omega]
      simp
theorem fd_app (l : List Fd) (f : Fd) : fdCells (l ++ [f]) = fdCells l ++ [.int .u64 f.w, .int .i64 f.k] := by simp [fdCells]
theorem mo_app (l : List Mo) (f : Mo) : moCells (l ++ [f]) = moCells l ++ [.int .i64 f.kind, f.v] := by simp [moCells]
def rRow (S : Ys) : RV := ⟨37, 1, .slice (some ⟨S.rb, 0, none⟩) 8 8, 8, S.roots.map (.int .u64)⟩
def oRow (S : Ys) : RV := ⟨141, 2, S.ov, S.objs.length, moCells S.objs⟩
def mRow (S : Ys) : RV := ⟨139, 2, S.mv, S.mr.length, fdCells S.mr⟩
def pRow (S : Ys) : RV := ⟨3, 1, S.pv, S.pins.length, S.pins.map (.int .i64)⟩
def fRow (o : Mo) : RV := ⟨139, 2, o.v, o.fs.length, fdCells o.fs⟩
def rowsY (S : Ys) (ex : List RV) : List RV := rRow S :: oRow S :: mRow S :: pRow S :: (S.objs.map fRow ++ ex)
structure Yk where
  y : Nat
  hb : Nat
  b : Nat
  wb : Nat
  lb : Nat
def Yk.all (c : Yk) : List Nat := [c.y, c.hb, c.b, c.wb, c.lb]
/-- The cells of the world's struct. -/
def Ys.cells (S : Ys) (c : Yk) : Array Value := #[.pointer (some ⟨c.hb, 0, none⟩), .slice (some ⟨S.rb, 0, none⟩) 8 8, S.ov, S.mv, S.pv]
structure YAt (w0 w : World) (c : Yk) (A : Ar) (S : Ys) (ex : List RV) : Prop where
  he : HeAt w c.hb c.b c.wb c.lb A
  yc : blk w c.y = some (.cells (S.cells c) 90 (0, 0))
  rows : RVs w w0.heap.size (rowsY S ex)
  far : ∀ r, r ∈ rowsY S ex → ∀ x, r.v.ownBlock = some x → x ∉ c.all
  ap : c.all.Nodup
  lo : ∀ x, x ∈ c.all → w0.heap.size ≤ x
  n8 : S.roots.length = 8 ∧ S.mr.length = 8
  fr : Fr [] w0 w
variable {w0 w w' : World} {c : Yk} {A A' : Ar} {S S' : Ys} {ex : List RV}
theorem YAt.keep (h : YAt w0 w c A S ex) (hF : Fr [] w w') : YAt w0 w' c A S ex :=
  ⟨h.he.keep hF, hF.at h.yc (by simp), h.rows.keep hF, h.far, h.ap, h.lo, h.n8, h.fr.same hF⟩
theorem YAt.yne (h : YAt w0 w c A S ex) : c.y ∉ [c.b, c.wb, c.lb] ∧ c.y ≠ c.hb := by
  have ap := h.ap
  simp only [Yk.all, List.nodup_cons, List.mem_cons, List.not_mem_nil, or_false, not_or] at ap ⊢
  exact ⟨⟨ap.1.2.1, ap.1.2.2.1, ap.1.2.2.2⟩, ap.1.1⟩
theorem YAt.heap (h : YAt w0 w c A S ex) (hF : Fr [c.b, c.wb, c.lb] w w') (he : HeAt w' c.hb c.b c.wb c.lb A') : YAt w0 w' c A' S ex :=
  ⟨he, hF.at h.yc h.yne.1, h.rows.fr hF (fun r hr x hx hm => h.far r hr x hx (by
    simp only [Yk.all, List.mem_cons, List.not_mem_nil, or_false] at hm ⊢
    rcases hm with h | h | h <;> simp [h])), h.far, h.ap, h.lo, h.n8, h.fr.trans hF (fun x hx => .inr (h.lo x (by
    simp only [Yk.all, List.mem_cons, List.not_mem_nil, or_false] at hx ⊢
    rcases hx with h | h | h <;> simp [h])))⟩
theorem YAt.y0 (h : YAt w0 w c A S ex) : w.cell? ⟨c.y, 0, none⟩ = some (.pointer (some ⟨c.hb, 0, none⟩)) := cell_of h.yc rfl
theorem YAt.y1 (h : YAt w0 w c A S ex) : w.cell? ⟨c.y, 1, none⟩ = some (.slice (some ⟨S.rb, 0, none⟩) 8 8) := cell_of h.yc rfl
theorem YAt.y2 (h : YAt w0 w c A S ex) : w.cell? ⟨c.y, 2, none⟩ = some S.ov := cell_of h.yc rfl
theorem YAt.y3 (h : YAt w0 w c A S ex) : w.cell? ⟨c.y, 3, none⟩ = some S.mv := cell_of h.yc rfl
theorem YAt.y4 (h : YAt w0 w c A S ex) : w.cell? ⟨c.y, 4, none⟩ = some S.pv := cell_of h.yc rfl
theorem YAt.yf (h : YAt w0 w c A S ex) (i : Nat) : w.frozen? ⟨c.y, i, none⟩ = false := free_of h.yc
theorem rowsY_r (S : Ys) (ex : List RV) : (rowsY S ex)[0]? = some (rRow S) := rfl
theorem rowsY_o (S : Ys) (ex : List RV) : (rowsY S ex)[1]? = some (oRow S) := rfl
theorem rowsY_m (S : Ys) (ex : List RV) : (rowsY S ex)[2]? = some (mRow S) := rfl
theorem rowsY_p (S : Ys) (ex : List RV) : (rowsY S ex)[3]? = some (pRow S) := rfl
theorem lt_some {α : Type} {l : List α} {j : Nat} {x : α} (hx : l[j]? = some x) : j < l.length := by
  rcases Nat.lt_or_ge j l.length with h | h
  · exact h
  · rw [List.getElem?_eq_none h] at hx; simp at hx
theorem rowsY_f (ex : List RV) {j : Nat} {o : Mo} (h : S.objs[j]? = some o) : (rowsY S ex)[j + 4]? = some (fRow o) := by
  simp only [rowsY, List.getElem?_cons_succ]
  rw [List.getElem?_append_left (by simpa using lt_some h)]
  simp [h]
theorem YAt.root (h : YAt w0 w c A S ex) {i : Nat} (hi : i < 8) : w.cell? ⟨S.rb, i, none⟩ = some (.int .u64 (S.roots[i]?.getD 0)) ∧ w.frozen? ⟨S.rb, i, none⟩ = false := by
  have h0 := h.rows.at (rowsY_r S ex)
  have hl := h.n8.1
  have : i < S.roots.length := by omega
  exact ⟨own_cell h0 (by simp [rRow, this]), own_free h0 i⟩
theorem YAt.mrow (h : YAt w0 w c A S ex) : ∃ g cap, S.mv = .slice (some ⟨g, 0, none⟩) 8 cap ∧ 8 ≤ cap ∧ S.mv.ownBlock = some g ∧ (∀ (i : Nat) (f : Fd), S.mr[i]? = some f → w.cell? ⟨g, i * 2, none⟩ = some (.int .u64 f.w) ∧ w.cell? ⟨g, i * 2 + 1, none⟩ = some (.int .i64 f.k)) ∧ ∀ i, w.frozen? ⟨g, i, none⟩ = false := by
  have h0 := h.rows.at (rowsY_m S ex)
  have hl := h.n8.2
  obtain ⟨g, cap, h1, h2, h3, h4, h5, _⟩ := h0.at (by simp only [mRow]; omega)
  simp only [mRow, hl] at h1 h2 h3 h4
  exact ⟨g, cap, h1, h2, h3, fun i f hf => ⟨h4 _ _ (fd_get _ _ _ hf).1, h4 _ _ (fd_get _ _ _ hf).2⟩, h5⟩
theorem YAt.mcell (h : YAt w0 w c A S ex) {g cap : Nat} (hv : S.mv = .slice (some ⟨g, 0, none⟩) 8 cap) {i : Nat} {f : Fd} (hf : S.mr[i]? = some f) : w.cell? ⟨g, i * 2, none⟩ = some (.int .u64 f.w) ∧ w.cell? ⟨g, i * 2 + 1, none⟩ = some (.int .i64 f.k) := by
  obtain ⟨g', cap', h1, _, _, h4, _⟩ := h.mrow
  rw [hv] at h1
  simp only [Value.slice.injEq, Option.some.injEq, Addr.mk.injEq, true_and, and_true] at h1
  rw [h1.1]
  exact h4 i f hf
theorem YAt.orow (h : YAt w0 w c A S ex) (hn : 0 < S.objs.length) : ∃ g cap, S.ov = .slice (some ⟨g, 0, none⟩) S.objs.length cap ∧ S.objs.length ≤ cap ∧ S.ov.ownBlock = some g ∧ (∀ (i : Nat) (f : Mo), S.objs[i]? = some f → w.cell? ⟨g, i * 2, none⟩ = some (.int .i64 f.kind) ∧ w.cell? ⟨g, i * 2 + 1, none⟩ = some f.v) ∧ ∀ i, w.frozen? ⟨g, i, none⟩ = false := by
  have h0 := h.rows.at (rowsY_o S ex)
  obtain ⟨g, cap, h1, h2, h3, h4, h5, _⟩ := h0.at hn
  simp only [oRow] at h1 h2 h3 h4
  exact ⟨g, cap, h1, h2, h3, fun i f hf => ⟨h4 _ _ (mo_get _ _ _ hf).1, h4 _ _ (mo_get _ _ _ hf).2⟩, h5⟩
theorem YAt.oform (h : YAt w0 w c A S ex) : ∃ a cap, S.ov = .slice a S.objs.length cap ∧ S.objs.length ≤ cap := (h.rows.at (rowsY_o S ex)).form
theorem YAt.prow (h : YAt w0 w c A S ex) (hn : 0 < S.pins.length) : ∃ g cap, S.pv = .slice (some ⟨g, 0, none⟩) S.pins.length cap ∧ S.pins.length ≤ cap ∧ S.pv.ownBlock = some g ∧ (∀ (i : Nat) (f : Int), S.pins[i]? = some f → w.cell? ⟨g, i, none⟩ = some (.int .i64 f)) ∧ ∀ i, w.frozen? ⟨g, i, none⟩ = false := by
  have h0 := h.rows.at (rowsY_p S ex)
  obtain ⟨g, cap, h1, h2, h3, h4, h5, _⟩ := h0.at hn
  simp only [pRow] at h1 h2 h3 h4
  exact ⟨g, cap, h1, h2, h3, fun i f hf => h4 _ _ (by simp [hf]), h5⟩
theorem YAt.fform (h : YAt w0 w c A S ex) {j : Nat} {o : Mo} (ho : S.objs[j]? = some o) : ∃ a cap, o.v = .slice a o.fs.length cap ∧ o.fs.length ≤ cap := (h.rows.at (rowsY_f ex ho)).form
theorem YAt.frow (h : YAt w0 w c A S ex) {j : Nat} {o : Mo} (ho : S.objs[j]? = some o) (hn : 0 < o.fs.length) : ∃ g cap, o.v = .slice (some ⟨g, 0, none⟩) o.fs.length cap ∧ o.fs.length ≤ cap ∧ o.v.ownBlock = some g ∧ (∀ (i : Nat) (f : Fd), o.fs[i]? = some f → w.cell? ⟨g, i * 2, none⟩ = some (.int .u64 f.w) ∧ w.cell? ⟨g, i * 2 + 1, none⟩ = some (.int .i64 f.k)) ∧ ∀ i, w.frozen? ⟨g, i, none⟩ = false := by
  have h0 := h.rows.at (rowsY_f ex ho)
  obtain ⟨g, cap, h1, h2, h3, h4, h5, _⟩ := h0.at hn
  simp only [fRow] at h1 h2 h3 h4
  exact ⟨g, cap, h1, h2, h3, fun i f hf => ⟨h4 _ _ (fd_get _ _ _ hf).1, h4 _ _ (fd_get _ _ _ hf).2⟩, h5⟩
/-- Row i, in its own block, is another one. -/
theorem YAt.row (h : YAt w0 w c A S ex) {i : Nat} {r r' : RV} {g : Nat} (hr : (rowsY S ex)[i]? = some r) (hg : r.v.ownBlock = some g) (hF : Fr [g] w w') (h' : r'.ok w' w0.heap.size) (hv : r'.v = r.v)
    (hrs : rowsY S' ex = (rowsY S ex).set i r') (hc : S'.cells c = S.cells c) (n8 : S'.roots.length = 8 ∧ S'.mr.length = 8) : YAt w0 w' c A S' ex := by
  have hm := List.mem_of_getElem? hr
  have hga := h.far r hm g hg
  have hgb := (own_lt' (h.rows.at hr) g hg).1
  have hga' := hga
  simp only [Yk.all, List.mem_cons, List.not_mem_nil, or_false, not_or] at hga'
  obtain ⟨n1, n2, n3, n4, n5⟩ := hga'
  refine ⟨h.he.fr hF (by simp; exact Ne.symm n2) (by simp; exact Ne.symm n3) (by simp; exact Ne.symm n4) (by simp; exact Ne.symm n5), by rw [hc]; exact hF.at h.yc (by simp; exact Ne.symm n1), ?_, ?_, h.ap, h.lo, n8, h.fr.trans hF (by simp; exact hgb)⟩
  · rw [hrs]
    exact h.rows.grow hr hF (fun x hx => .inl (by simp at hx; subst hx; exact hg)) h' (.inl (by rw [hv]))
  · intro s hs x hx
    rw [hrs] at hs
    rcases List.mem_or_eq_of_mem_set hs with hs | hs
    · exact h.far s hs x hx
    · subst hs
      rw [hv] at hx
      exact h.far r hm x hx
theorem YAt.setR (h : YAt w0 w c A S ex) {i : Nat} (hi : i < 8) (v : Int) : YAt w0 (w.setCell ⟨S.rb, i, none⟩ (.int .u64 v)) c A { S with roots := S.roots.set i v } ex := by
  have h0 := h.rows.at (rowsY_r S ex)
  refine h.row (r' := rRow { S with roots := S.roots.set i v }) (rowsY_r S ex) rfl ((Fr.refl _ _).setCell (by simp) _) ?_ rfl rfl rfl (by simpa using h.n8)
  have := own_set h0 i (.int .u64 v)
  simpa [RV.ok, rRow, List.map_set] using this
theorem YAt.setM (h : YAt w0 w c A S ex) {g cap : Nat} (hv : S.mv = .slice (some ⟨g, 0, none⟩) 8 cap) {i : Nat} (hi : i < 8) (f : Fd) :
    YAt w0 ((w.setCell ⟨g, i * 2, none⟩ (.int .u64 f.w)).setCell ⟨g, i * 2 + 1, none⟩ (.int .i64 f.k)) c A { S with mr := S.mr.set i f } ex := by
  have h0 := h.rows.at (rowsY_m S ex)
  have hl := h.n8.2
  refine h.row (r' := mRow { S with mr := S.mr.set i f }) (rowsY_m S ex) (by simp only [mRow, hv]; rfl) (((Fr.refl _ _).setCell (by simp) _).setCell (by simp) _) ?_ rfl rfl rfl (by simpa using h.n8)
  unfold RV.ok mRow at h0 ⊢
  simp only [List.length_set] at h0 ⊢
  rw [← fd_set _ _ _ (by omega), hl]
  rw [hv, hl] at h0
  rw [hv]
  exact own_set (own_set h0 _ _) _ _
theorem YAt.setP (h : YAt w0 w c A S ex) {g cap n : Nat} (hv : S.pv = .slice (some ⟨g, 0, none⟩) n cap) (i : Nat) (v : Int) (hn : S.pins.length = n) : YAt w0 (w.setCell ⟨g, i, none⟩ (.int .i64 v)) c A { S with pins := S.pins.set i v } ex := by
  have h0 := h.rows.at (rowsY_p S ex)
  refine h.row (r' := pRow { S with pins := S.pins.set i v }) (rowsY_p S ex) (by simp only [pRow, hv]; rfl) ((Fr.refl _ _).setCell (by simp) _) ?_ rfl rfl rfl h.n8
  unfold RV.ok pRow at h0 ⊢
  simp only [List.length_set, List.map_set] at h0 ⊢
  rw [hv, hn] at h0
  rw [hv, hn]
  exact own_set h0 _ _
theorem mo_same {j : Nat} {o o' : Mo} {l : List Mo} (ho : l[j]? = some o) (h1 : o'.kind = o.kind) (h2 : o'.v = o.v) : moCells (l.set j o') = moCells l := by
  induction l generalizing j with
  | nil => simp at ho
  | cons x l ih =>
    cases j with
    | zero => simp at ho; subst ho; simp [moCells, h1, h2]
    | succ j =>
      have := ih (j := j) (by simpa using ho)
      simp only [moCells, List.set_cons_succ, List.flatMap_cons] at this ⊢
      rw [this]
theorem YAt.setF (h : YAt w0 w c A S ex) {j : Nat} {o : Mo} (ho : S.objs[j]? = some o) {g n cap : Nat} (hv : o.v = .slice (some ⟨g, 0, none⟩) n cap) (hn : o.fs.length = n) {i : Nat} (hi : i < n) (f : Fd) :
    YAt w0 ((w.setCell ⟨g, i * 2, none⟩ (.int .u64 f.w)).setCell ⟨g, i * 2 + 1, none⟩ (.int .i64 f.k)) c A { S with objs := S.objs.set j { o with fs := o.fs.set i f } } ex := by
  have h0 := h.rows.at (rowsY_f ex ho)
  refine h.row (r' := fRow { o with fs := o.fs.set i f }) (rowsY_f ex ho) (by simp only [fRow, hv]; rfl) (((Fr.refl _ _).setCell (by simp) _).setCell (by simp) _) ?_ rfl ?_ rfl h.n8
  · unfold RV.ok fRow at h0 ⊢
    simp only [List.length_set] at h0 ⊢
    rw [← fd_set _ _ _ (by omega), hv, hn]
    rw [hv, hn] at h0
    exact own_set (own_set h0 _ _) _ _
  · have hlt := lt_some ho
    simp only [rowsY, List.set_cons_succ, List.map_set]
    rw [List.set_append_left _ _ (by simpa using hlt)]
    simp only [rRow, oRow, mRow, pRow, List.length_set]
    rw [mo_same (o' := { o with fs := o.fs.set i f }) ho rfl rfl]
/-- A slice of the world's struct is another one: row i, grown. -/
theorem YAt.app (h : YAt w0 w c A S ex) {i q : Nat} {r r' : RV} (hr : (rowsY S ex)[i]? = some r) (hF : Fr r.v.ownBlock.toList w w') (h' : r'.ok w' w0.heap.size) (hat : r'.v.ownBlock = r.v.ownBlock ∨ ∀ x, r'.v.ownBlock = some x → w.heap.size ≤ x)
    {ex' : List RV} (hrs : rowsY S' ex' = (rowsY S ex).set i r') (hc : (S.cells c).setIfInBounds q r'.v = S'.cells c) (n8 : S'.roots.length = 8 ∧ S'.mr.length = 8) : YAt w0 (w'.setCell ⟨c.y, q, none⟩ r'.v) c A S' ex' := by
  have hm := List.mem_of_getElem? hr
  have hga : ∀ x, x ∈ c.all → x ∉ r.v.ownBlock.toList := fun x hx hx2 => h.far r hm x (by simpa using hx2) hx
  have mem : c.hb ∈ c.all ∧ c.b ∈ c.all ∧ c.wb ∈ c.all ∧ c.lb ∈ c.all ∧ c.y ∈ c.all := by simp [Yk.all]
  have hF2 : Fr [c.y] w' (w'.setCell ⟨c.y, q, none⟩ r'.v) := (Fr.refl _ _).setCell (by simp) _
  have ap := h.ap
  simp only [Yk.all, List.nodup_cons, List.mem_cons, List.not_mem_nil, or_false, not_or] at ap
  obtain ⟨⟨a1, a2, a3, a4⟩, _⟩ := ap
  have hle : ∀ x, x ∈ c.all → x < w.heap.size := by
    intro x hx
    simp only [Yk.all, List.mem_cons, List.not_mem_nil, or_false] at hx
    rcases hx with rfl | rfl | rfl | rfl | rfl
    · exact lt_size h.yc
    · exact lt_size h.he.p
    · exact lt_size h.he.ar.hb
    · exact lt_size h.he.ar.hw
    · exact lt_size h.he.ar.hl
  have far' : ∀ s, s ∈ (rowsY S ex).set i r' → ∀ x, s.v.ownBlock = some x → x ∉ c.all := by
    intro s hs x hx
    rcases List.mem_or_eq_of_mem_set hs with hs | hs
    · exact h.far s hs x hx
    · subst hs
      rcases hat with hat | hat
      · rw [hat] at hx; exact h.far r hm x hx
      · intro hc; have := hat x hx; have := hle x hc; omega
  refine ⟨(h.he.fr hF (hga _ mem.1) (hga _ mem.2.1) (hga _ mem.2.2.1) (hga _ mem.2.2.2.1)).fr hF2 (by simp; exact Ne.symm a1) (by simp; exact Ne.symm a2) (by simp; exact Ne.symm a3) (by simp; exact Ne.symm a4), ?_, ?_, ?_, h.ap, h.lo, n8, ?_⟩
  · rw [blk_set, if_pos rfl, hF.at h.yc (hga _ mem.2.2.2.2), ← hc]; rfl
  · rw [hrs]
    refine (h.rows.grow hr hF (fun x hx => .inl (by simpa using hx)) h' hat).fr hF2 (fun s hs x hx hm => ?_)
    simp only [List.mem_singleton] at hm
    subst hm
    exact far' s hs c.y hx mem.2.2.2.2
  · rw [hrs]; exact far'
  · refine (h.fr.trans hF (fun x hx => .inr ?_)).trans hF2 (fun x hx => .inr ?_)
    · exact (own_lt' (h.rows.at hr) x (by simpa using hx)).1
    · simp only [List.mem_singleton] at hx; subst hx; exact h.lo _ mem.2.2.2.2
/-- One more row beside. -/
theorem YAt.more (h : YAt w0 w c A S ex) (hF : Fr [] w w') {r : RV} (h' : r.ok w' w0.heap.size) (hat : ∀ x, r.v.ownBlock = some x → w.heap.size ≤ x) : YAt w0 w' c A S (ex ++ [r]) := by
  have h1 := h.keep hF
  have e : rowsY S (ex ++ [r]) = rowsY S ex ++ [r] := by simp [rowsY]
  refine ⟨h1.he, h1.yc, ?_, ?_, h.ap, h.lo, h.n8, h1.fr⟩
  · rw [e]; exact h.rows.push hF (by simp) h' hat
  · intro s hs x hx hm
    rw [e] at hs
    rcases List.mem_append.1 hs with hs | hs
    · exact h.far s hs x hx hm
    · simp only [List.mem_singleton] at hs
      subst hs
      have := hat x hx
      have hle : x < w.heap.size := by
        simp only [Yk.all, List.mem_cons, List.not_mem_nil, or_false] at hm
        rcases hm with rfl | rfl | rfl | rfl | rfl
        · exact lt_size h.yc
        · exact lt_size h.he.p
        · exact lt_size h.he.ar.hb
        · exact lt_size h.he.ar.hw
        · exact lt_size h.he.ar.hl
      omega
end Go.Proofs.Ytjgndfhfiekomaa
/- The model: how many of an object's fields count; how many of some hold. -/
namespace Go.Proofs.Ytjgndfhfiekomaa
open Go.ChangeShapes Go.WideShapes Go.RowKit
variable {w w' : World}
def FdsIn (w : World) (v : Value) (fs : List Fd) : Prop :=
  ∃ a cap, v = .slice a fs.length cap ∧ fs.length ≤ cap ∧ (fs = [] ∨ ∃ g, a = some ⟨g, 0, none⟩ ∧ ∀ (i : Nat) (f : Fd), fs[i]? = some f → w.cell? ⟨g, i * 2, none⟩ = some (.int .u64 f.w) ∧ w.cell? ⟨g, i * 2 + 1, none⟩ = some (.int .i64 f.k))
theorem FdsIn.keep {v : Value} {fs : List Fd} (h : FdsIn w v fs) (hF : Fr [] w w') : FdsIn w' v fs := by
  obtain ⟨a, cap, h1, h2, h3⟩ := h
  refine ⟨a, cap, h1, h2, ?_⟩
  rcases h3 with h3 | ⟨g, h3, h4⟩
  · exact .inl h3
  · exact .inr ⟨g, h3, fun i f hf => ⟨cell_fr (h4 i f hf).1 hF (by simp), cell_fr (h4 i f hf).2 hF (by simp)⟩⟩
theorem YAt.fds {w0 : World} {c : Yk} {A : Ar} {S : Ys} {ex : List RV} (h : YAt w0 w c A S ex) {j : Nat} {o : Mo} (ho : S.objs[j]? = some o) : FdsIn w o.v o.fs := by
  obtain ⟨a, cap, h1, h2⟩ := h.fform ho
  rcases Nat.eq_zero_or_pos o.fs.length with hz | hz
  · exact ⟨a, cap, h1, h2, .inl (List.length_eq_zero_iff.1 hz)⟩
  · obtain ⟨g, cap, h3, h4, h5, h6, h7⟩ := h.frow ho hz
    exact ⟨_, cap, h3, h4, .inr ⟨g, rfl, h6⟩⟩
def cntM (k : Int) (fs : List Fd) : Int :=
  if 16 ≤ k then 0 else
  if k ≠ 15 ∨ (fs.length : Int) < 2 then fs.length else
  if 0 ≤ (fs[1]?.getD (Fd.mk 0 0)).k ∨ (fs[1]?.getD (Fd.mk 0 0)).w % 8 ≠ 0 ∨ 9223372036854775808 ≤ (fs[1]?.getD (Fd.mk 0 0)).w then 2 else
  if (fs.length : Int) - 2 < (fs[1]?.getD (Fd.mk 0 0)).w / 8 then fs.length else 2 + (fs[1]?.getD (Fd.mk 0 0)).w / 8
theorem cntM_b (k : Int) (fs : List Fd) (hw : ∀ f, f ∈ fs → 0 ≤ f.w) : 0 ≤ cntM k fs ∧ cntM k fs ≤ fs.length := by
  unfold cntM
  have h0 : 0 ≤ (fs[1]?.getD (Fd.mk 0 0)).w := by
    cases h : fs[1]? with
    | none => simp
    | some f => exact hw f (List.mem_of_getElem? h)
  split
  · omega
  · split
    · omega
    · split
      · omega
      · split <;> omega
set_option maxRecDepth 10000 in
set_option maxHeartbeats 2000000 in
theorem counted_m (w : World) (k : Int) (v : Value) (fs : List Fd) (hf : FdsIn w v fs) (hl : fs.length ≤ 1000) (hw : ∀ f, f ∈ fs → 0 ≤ f.w ∧ f.w < 18446744073709551616) :
    Calls Try.prog 93 #[.agg #[.int .i64 k, v]] w fun e w' => e = .returned (.int .i64 (cntM k fs)) ∧ Fr [] w w' := by
  obtain ⟨a, cap, rfl, hcap, hr⟩ := hf
  by_cases h1 : 16 ≤ k
  · have he : cntM k fs = 0 := by unfold cntM; rw [if_pos h1]
    rw [he]
    clear hr he hw
    go_enter Try.func93, Try.ntmps93
    go_wp2
    go_ret
    refine ⟨rfl, ?_⟩
    repeat (first | exact Fr.refl _ _ | apply Fr.alloc | apply Fr.drew)
  by_cases h2 : k = 15
  · by_cases h3 : (fs.length : Int) < 2
    · have he : cntM k fs = fs.length := by unfold cntM; rw [if_neg h1, if_pos (.inr h3)]
      rw [he]
      clear hr he hw
      go_enter Try.func93, Try.ntmps93
      go_wp2
      go_ret
      refine ⟨rfl, ?_⟩
      repeat (first | exact Fr.refl _ _ | apply Fr.alloc | apply Fr.drew)
    · rcases hr with hr | ⟨g, rfl, hr⟩
      · rw [hr] at h3; simp at h3
      · obtain ⟨u, hu⟩ : ∃ u, fs[1]? = some u := ⟨fs[1]'(by omega), by rw [List.getElem?_eq_getElem]⟩
        have hug : fs[1]?.getD (Fd.mk 0 0) = u := by rw [hu]; rfl
        obtain ⟨k0, k1⟩ := hr 1 u hu
        have hm := List.mem_of_getElem? hu
        have hub := hw u hm
        obtain ⟨uw, uk⟩ := u
        simp only at k0 k1 hub
        have he : cntM k fs = if 0 ≤ uk ∨ uw % 8 ≠ 0 ∨ 9223372036854775808 ≤ uw then 2 else if (fs.length : Int) - 2 < uw / 8 then (fs.length : Int) else 2 + uw / 8 := by
          unfold cntM
          rw [if_neg h1, if_neg (by omega), hug]
        rw [he]
        have hlt : g < w.heap.size := by have := (addr_none k0).2; exact this
        obtain ⟨n, hn⟩ : ∃ n, n = fs.length := ⟨_, rfl⟩
        rw [← hn] at hl h3 hcap ⊢
        clear hr hw hu hug hm he hn
        have hne : g ≠ w.heap.size := by omega
        have hne1 : g ≠ w.heap.size + 1 := by omega
        simp only [show 1 * 2 = 2 from rfl] at k0 k1
        by_cases c1 : 0 ≤ uk
        · rw [if_pos (.inl c1)]
          go_enter Try.func93, Try.ntmps93
          go_wp2
          go_ret
          refine ⟨rfl, ?_⟩
          repeat (first | exact Fr.refl _ _ | apply Fr.alloc | apply Fr.drew)
        by_cases c2 : uw % 8 = 0
        · by_cases c3 : 9223372036854775808 ≤ uw
          · rw [if_pos (.inr (.inr c3))]
            go_enter Try.func93, Try.ntmps93
            go_wp2
            go_ret
            refine ⟨rfl, ?_⟩
            repeat (first | exact Fr.refl _ _ | apply Fr.alloc | apply Fr.drew)
          · rw [if_neg (by omega)]
            have hw1 : IntKind.i64.wrap (2 + uw / 8) = 2 + uw / 8 := by rw [IntKind.wrap_i64]; omega
            by_cases c4 : (n : Int) - 2 < uw / 8
            · rw [if_pos c4]
              go_enter Try.func93, Try.ntmps93
              go_wp2
              go_ret
              refine ⟨rfl, ?_⟩
              repeat (first | exact Fr.refl _ _ | apply Fr.alloc | apply Fr.drew)
            · rw [if_neg c4]
              go_enter Try.func93, Try.ntmps93
              go_wp2
              go_ret
              refine ⟨rfl, ?_⟩
              repeat (first | exact Fr.refl _ _ | apply Fr.alloc | apply Fr.drew)
        · rw [if_pos (.inr (.inl c2))]
          go_enter Try.func93, Try.ntmps93
          go_wp2
          go_ret
          refine ⟨rfl, ?_⟩
          repeat (first | exact Fr.refl _ _ | apply Fr.alloc | apply Fr.drew)
  · have he : cntM k fs = fs.length := by unfold cntM; rw [if_neg h1, if_pos (.inl h2)]
    rw [he]
    clear hr he hw
    go_enter Try.func93, Try.ntmps93
    go_wp2
    go_ret
    refine ⟨rfl, ?_⟩
    repeat (first | exact Fr.refl _ _ | apply Fr.alloc | apply Fr.drew)
def cntT (l : List Bool) : Nat := l.countP id
theorem many_m (w : World) (g : Nat) (l : List Bool) (hb : blk w g = some (.cells (boolCells l) 4 (0, 0))) (hl : l.length ≤ 1000) :
    Calls Try.prog 94 #[.slice (some ⟨g, 0, none⟩) l.length l.length] w fun e w' => e = .returned (.int .i64 (cntT l)) ∧ Fr [] w w' := by
  have KC : Hid (∀ w', Fr [] w w' → ∀ (i : Nat) (x : Bool), l[i]? = some x → w'.cell? ⟨g, i, none⟩ = some (.bool x)) := Lib.hid (fun w' hF i x hx => cell_of (hF.at hb (by simp)) (by simp [boolCells, hx]))
  clear hb
  go_enter Try.func94, Try.ntmps94
  go_wp2_with fail
  go_loopw [3, 5, 8] (fun n _ x wr => ∃ k : Nat, k ≤ l.length ∧ x = .int .i64 (k : Int) ∧ n = .int .i64 (cntT (l.take k)) ∧ Hid (Fr [] w wr)) (fun _ _ x _ => l.length - (intOf x).toNat)
  case atStart => exact ⟨0, by omega, by go_num, by simp [cntT], Lib.hid (by repeat (first | exact Fr.refl _ _ | apply Fr.drew))⟩
  case round =>
    obtain ⟨k, hk, rfl, rfl, F⟩ := hrel
    by_cases hlt : k < l.length
    · have kx := KC.out wr F.out k l[k] (by simp [hlt])
      have hle : cntT (l.take k) ≤ k := by unfold cntT; have := List.countP_le_length (p := id) (l := l.take k); rw [List.length_take] at this; omega
      have hnx : Hid (cntT (l.take (k + 1)) = cntT (l.take k) + if l[k] = true then 1 else 0) := Lib.hid (by
        unfold cntT
        rw [List.take_add_one, List.getElem?_eq_getElem hlt, Option.toList_some, List.countP_append, List.countP_cons, List.countP_nil, Nat.zero_add]
        rfl)
      generalize l[k] = x at *
      cases x with
      | true =>
        go_wp2
        go_roundw
        case rel => exact ⟨k + 1, by omega, by go_num, by rw [hnx.out]; simp, F⟩
        case measure => simp [intOf]; omega
      | false =>
        go_wp2
        go_roundw
        case rel => exact ⟨k + 1, by omega, by go_num, by rw [hnx.out]; simp, F⟩
        case measure => simp [intOf]; omega
    · have hkl : k = l.length := by omega
      subst hkl
      go_wp2
      go_ret
      refine ⟨by simp, ?_⟩
      repeat (first | exact F.out | apply Fr.drew)
end Go.Proofs.Ytjgndfhfiekomaa
/- A queue of numbers: appended to behind, taken from ahead. -/
namespace Go.Proofs.Ytjgndfhfiekomaa
open Go.ChangeShapes Go.WideShapes Go.RowKit
/-- A queue: its numbers lie in one block of the call's own, from an offset on, and all its room behind. -/
def Qu (w : World) (B : Nat) (v : Value) (l : List Int) : Prop :=
  ∃ g o cap cur, v = .slice (some ⟨g, o, none⟩) l.length cap ∧ blk w g = some (.cells cur 3 (0, 0)) ∧ B ≤ g ∧ l.length ≤ cap ∧ cap ≤ maxLen ∧ o + cap ≤ cur.size ∧ ∀ (i : Nat) (x : Int), l[i]? = some x → cur[o + i]? = some (.int .i64 x)
variable {w w' : World} {B : Nat} {v : Value} {l : List Int}
theorem Qu.fr {S : List Nat} (h : Qu w B v l) (hF : Fr S w w') (hS : ∀ x, v.ownBlock = some x → x ∉ S) : Qu w' B v l := by
  obtain ⟨g, o, cap, cur, h1, h2, h3⟩ := h
  exact ⟨g, o, cap, cur, h1, hF.at h2 (hS g (by rw [h1]; rfl)), h3⟩
theorem Qu.keep (h : Qu w B v l) (hF : Fr [] w w') : Qu w' B v l := h.fr hF (by simp)
theorem Qu.own (h : Qu w B v l) : ∃ g, v.ownBlock = some g ∧ B ≤ g ∧ g < w.heap.size := by
  obtain ⟨g, o, cap, cur, h1, h2, h3, _⟩ := h
  exact ⟨g, by rw [h1]; rfl, h3, lt_size h2⟩
theorem Qu.new (w : World) (B : Nat) (hB : B ≤ w.heap.size) : Qu (w.alloc (.cells #[] 3)) B (.slice (some ⟨w.heap.size, 0, none⟩) 0 0) [] :=
  ⟨w.heap.size, 0, 0, #[], rfl, by rw [blk_alloc, if_pos rfl], hB, by simp, by simp, by simp, by simp⟩
theorem Qu.cell (h : Qu w B v l) {i : Nat} {x : Int} (hx : l[i]? = some x) {g o n cap : Nat} (hv : v = .slice (some ⟨g, o, none⟩) n cap) : w.cell? ⟨g, o + i, none⟩ = some (.int .i64 x) := by
  obtain ⟨g', o', cap', cur, h1, h2, h3, h4, h5, h6, h7⟩ := h
  rw [hv] at h1
  simp only [Value.slice.injEq, Option.some.injEq, Addr.mk.injEq, and_true] at h1
  obtain ⟨⟨rfl, rfl⟩, _, _⟩ := h1
  exact cell_of h2 (h7 i x hx)
theorem Qu.pop {x : Int} {g o cap : Nat} (h : Qu w B (.slice (some ⟨g, o, none⟩) (l.length + 1) cap) (x :: l)) : Qu w B (.slice (some ⟨g, o + 1, none⟩) l.length (cap - 1)) l := by
  obtain ⟨g', o', cap', cur, h1, h2, h3, h4, h5, h6, h7⟩ := h
  simp only [Value.slice.injEq, Option.some.injEq, Addr.mk.injEq, and_true] at h1
  obtain ⟨⟨rfl, rfl⟩, _, rfl⟩ := h1
  simp only [List.length_cons] at h4
  refine ⟨g, o + 1, cap - 1, cur, rfl, h2, h3, by omega, by omega, by omega, fun i y hy => ?_⟩
  have := h7 (i + 1) y (by simpa using hy)
  rwa [show o + (i + 1) = o + 1 + i by omega] at this
theorem Qu.pop0 {x : Int} {g o : Nat} (h : Qu w B (.slice (some ⟨g, o, none⟩) (l.length + 1) 1) (x :: l)) : l = [] ∧ Qu w B (.slice (some ⟨g, o, none⟩) 0 0) [] := by
  obtain ⟨g', o', cap', cur, h1, h2, h3, h4, h5, h6, h7⟩ := h
  simp only [Value.slice.injEq, Option.some.injEq, Addr.mk.injEq, and_true] at h1
  obtain ⟨⟨rfl, rfl⟩, _, rfl⟩ := h1
  simp only [List.length_cons] at h4
  have hl : l = [] := List.length_eq_zero_iff.1 (by omega)
  exact ⟨hl, g, o, 0, cur, rfl, h2, h3, by simp, by simp, by omega, by simp⟩
theorem run_append_qu (w : World) (hq : Qu w B v l) (hB : B ≤ w.heap.size) {t ty : TypeId} {i : TypeInfo} (ht : Try.prog.underlying t = some (.slice 3)) (hi : Try.prog.info? 3 = some i) (hz : i.zero = some (.int .i64 0)) (hsize : i.size = 1) (hby : i.bytes = 8)
    (ad : Addr) (c : Nat) (x : Int) (hx : w.cell? ad = some (.int .i64 x)) (hl : l.length + 1 ≤ 1000000) :
    ∃ v' w', (Builtin.append_ #[t, t] ty #[v, .slice (some ad) 1 c]).run Try.prog w = .ok v' w' ∧ Qu w' B v' (l ++ [x]) ∧ Fr v.ownBlock.toList w w' ∧ (v'.ownBlock = v.ownBlock ∨ ∀ x, v'.ownBlock = some x → w.heap.size ≤ x) := by
  obtain ⟨g, o, cap, cur, rfl, h2, h3, h4, h5, h6, h7⟩ := hq
  have hnews : ∀ (j : Nat) (u : Value), [Value.int .i64 x][j]? = some u → w.cell? (ad.add j) = some u := by
    intro j u hj
    match j, hj with
    | 0, hj =>
      simp at hj
      subst hj
      simpa [Addr.add] using hx
  by_cases hr : l.length + 1 ≤ cap
  · have hlt : o + l.length < cur.size := by omega
    have hc := cell_of (w := w) h2 (i := o + l.length) (v := cur[o + l.length]) (by rw [Array.getElem?_eq_getElem hlt])
    have hrun := run_append_room_cells (P := Try.prog) w t ty 3 i ht hi g o l.length cap ad 1 c [.int .i64 x] (by simp [hsize]) hnews (by simp [Value.oneCell']) hr
      (fun j hj => by
        simp only [List.length_cons, List.length_nil] at hj
        rw [hsize, show o + l.length * 1 + j = o + l.length by omega, hc]; rfl)
      (fun j hj => free_of h2)
    refine ⟨_, _, hrun, ⟨g, o, cap, cur.setIfInBounds (o + l.length) (.int .i64 x), by simp, ?_, h3, by simpa using hr, h5, by simpa using h6, ?_⟩, ?_, .inl rfl⟩
    · simp only [World.setCells, hsize, Nat.mul_one]
      rw [blk_set, if_pos rfl, h2]; rfl
    · intro j y hy
      rcases Nat.lt_trichotomy j l.length with hj | hj | hj
      · rw [List.getElem?_append_left hj] at hy
        rw [Array.getElem?_setIfInBounds_ne (by omega)]
        exact h7 j y hy
      · subst hj
        simp at hy
        subst hy
        rw [Array.getElem?_setIfInBounds_self_of_lt hlt]
      · rw [List.getElem?_eq_none (by simp; omega)] at hy; simp at hy
    · simp only [World.setCells, hsize, Nat.mul_one]
      exact (Fr.refl _ _).setCell (by simp [Value.ownBlock]) _
  · obtain ⟨v', w', hrun, own, gr⟩ := run_append_arg_grows (P := Try.prog) w t ty 3 i (.int .i64 0) 1 8 ht hi hz hsize hby rfl (by decide) ⟨g, o, none⟩ l.length cap (l.map (.int .i64)) (by simp) (fun j u hu => by
      rw [Addr.add_lit]
      simp only [List.getElem?_map, Option.map_eq_some_iff] at hu
      obtain ⟨y, hy, rfl⟩ := hu
      exact cell_of h2 (h7 j y hy)) ad 1 c [.int .i64 x] (by simp) hnews (by omega) (by unfold maxLen; omega) (by omega)
    refine ⟨v', w', hrun, ?_, ?_, .inr fun x hx => (own_lt' own x hx).1⟩
    · obtain ⟨hlen, hown⟩ := own
      rcases hown with ⟨_, h8⟩ | ⟨g', cap', cur', hv', hb', hh', hn', hm', hs', ht'⟩
      · omega
      · refine ⟨g', 0, cap', cur', by rw [hv']; simp, hh', by omega, by simpa using hn', hm', by omega, ?_⟩
        intro j y hy
        have hj := lt_some hy
        simp only [List.length_append, List.length_cons, List.length_nil] at hj
        have : (cur'.toList.take ((l.length + 1) * 1))[j]? = some (.int .i64 y) := by
          rw [ht', ← List.map_singleton, ← List.map_append, List.getElem?_map, hy]; rfl
        rw [List.getElem?_take, if_pos (by omega)] at this
        simpa using this
    · have := grown_fr gr
      exact this.mono (by simp)
/-- At the operation, for the walk. -/
theorem wpList_append_qu {w : World} {ops : Array Oper} {rest : List Oper} {o : Oper} {a : Act} {Q : Exit → Act → World → Prop} (hgd : o.guard = none) (s x : Operand) (t : TypeId)
    (ho : o.op = .call { callee := .builtin .append, args := #[s, x], argTypes := #[t, t] })
    {i : TypeInfo} (ht : Try.prog.underlying t = some (.slice 3)) (hi : Try.prog.info? 3 = some i) (hz : i.zero = some (.int .i64 0)) (hsize : i.size = 1) (hby : i.bytes = 8)
    (B : Nat) (v : Value) (l : List Int) (hs : a.eval s = v) (hq : Qu w B v l) (hB : B ≤ w.heap.size)
    (ad : Addr) (c : Nat) (y : Int) (hx : a.eval x = .slice (some ad) 1 c) (hy : w.cell? ad = some (.int .i64 y)) (hl : l.length + 1 ≤ 1000000)
    (h : ∀ v' w', Qu w' B v' (l ++ [y]) → Fr v.ownBlock.toList w w' → (v'.ownBlock = v.ownBlock ∨ ∀ x, v'.ownBlock = some x → w.heap.size ≤ x) → wpList Try.prog ops Q rest (a.put o.dst v') w') :
    wpList Try.prog ops Q (o :: rest) a w := by
  refine wpList_plain hgd fun K hK => ?_
  obtain ⟨v', w', hr, h2, h3, h4⟩ := run_append_qu (ty := o.type) w hq hB ht hi hz hsize hby ad c y hy hl
  unfold Oper.wp execOp
  simp only [ho, resolve, invoke, builtin, Sem.run_bind, Sem.run_pure, Result.andThen_ok, List.map_toArray, List.map_cons, List.map_nil, hs, hx, hr]
  exact hK _ _ (h v' w' h2 h3 h4)
end Go.Proofs.Ytjgndfhfiekomaa
/- The model: what is reached. -/
namespace Go.Proofs.Ytjgndfhfiekomaa
open Go.ChangeShapes Go.WideShapes Go.RowKit
inductive RchM (objs : List Mo) (mr : List Fd) : Nat → Prop
  | root (i : Nat) (f : Fd) (j : Nat) : mr[i]? = some f → f.k = (j : Int) → RchM objs mr j
  | field (j : Nat) (x : Mo) (i : Nat) (f : Fd) (k : Nat) : RchM objs mr j → objs[j]? = some x → (i : Int) < cntM x.kind x.fs → x.fs[i]? = some f → f.k = (k : Int) → RchM objs mr k
def pk (f : Fd) : Option Int := if 0 ≤ f.k then some f.k else none
theorem pk_mem {l : List Fd} {y : Int} : y ∈ l.filterMap pk ↔ ∃ f, f ∈ l ∧ 0 ≤ f.k ∧ f.k = y := by
  simp only [List.mem_filterMap, pk]
  constructor
  · rintro ⟨f, h1, h2⟩
    split at h2
    · injection h2 with h2; exact ⟨f, h1, by assumption, h2⟩
    · simp at h2
  · rintro ⟨f, h1, h2, h3⟩
    exact ⟨f, h1, by rw [if_pos h2, h3]⟩
/-- What is known of the numbers of a model. -/
structure MB (objs : List Mo) (mr : List Fd) : Prop where
  n : objs.length ≤ 1000
  r : mr.length ≤ 1000
  m : ∀ f, f ∈ mr → -1 ≤ f.k ∧ f.k < objs.length
  f : ∀ x, x ∈ objs → x.fs.length ≤ 240 ∧ ∀ f, f ∈ x.fs → (0 ≤ f.w ∧ f.w < 18446744073709551616) ∧ -1 ≤ f.k ∧ f.k < objs.length
structure RI2 (objs : List Mo) (mr : List Fd) (L : List Bool) (l : List Int) : Prop where
  a : ∀ y, y ∈ l → ∃ j : Nat, y = j ∧ j < objs.length ∧ RchM objs mr j
  b : ∀ j : Nat, L[j]?.getD false = true → RchM objs mr j
  c : ∀ (i : Nat) (f : Fd), mr[i]? = some f → ∀ j : Nat, f.k = j → L[j]?.getD false = true ∨ (j : Int) ∈ l
  d : ∀ (j : Nat) (x : Mo), L[j]?.getD false = true → objs[j]? = some x → ∀ (i : Nat) (f : Fd), (i : Int) < cntM x.kind x.fs → x.fs[i]? = some f → ∀ k : Nat, f.k = k → L[k]?.getD false = true ∨ (k : Int) ∈ l
  e : L.length = objs.length
variable {objs : List Mo} {mr : List Fd} {L : List Bool} {l : List Int}
theorem RI2.start (hb : MB objs mr) : RI2 objs mr (falses objs.length) (mr.filterMap pk) := by
  have hz : ∀ j : Nat, (falses objs.length)[j]?.getD false = false := fun j => by simp only [falses, List.getElem?_replicate]; split <;> rfl
  refine ⟨?_, fun j h => by rw [hz] at h; simp at h, ?_, fun j x h => by rw [hz] at h; simp at h, by simp [falses]⟩
  · intro y hy
    obtain ⟨f, h1, h2, h3⟩ := pk_mem.1 hy
    have := hb.m f h1
    obtain ⟨i, hi, hif⟩ := List.getElem_of_mem h1
    exact ⟨y.toNat, by omega, by omega, .root i f y.toNat (by rw [List.getElem?_eq_getElem hi, hif]) (by omega)⟩
  · intro i f hf j hj
    exact .inr (pk_mem.2 ⟨f, List.mem_of_getElem? hf, by omega, hj⟩)
theorem RI2.skip {y : Int} (h : RI2 objs mr L (y :: l)) (hy : L[y.toNat]?.getD false = true) : RI2 objs mr L l := by
  have key : ∀ j : Nat, (L[j]?.getD false = true ∨ (j : Int) ∈ y :: l) → L[j]?.getD false = true ∨ (j : Int) ∈ l := by
    rintro j (h1 | h1)
    · exact .inl h1
    · rcases List.mem_cons.1 h1 with h1 | h1
      · left; rw [← h1] at hy; simpa using hy
      · exact .inr h1
  exact ⟨fun z hz => h.a z (List.mem_cons_of_mem _ hz), h.b, fun i f hf j hj => key j (h.c i f hf j hj), fun j x hj hx i f hi hf k hk => key k (h.d j x hj hx i f hi hf k hk), h.e⟩
theorem RI2.visit {j : Nat} (hb : MB objs mr) (h : RI2 objs mr L ((j : Int) :: l)) {x : Mo} (hx : objs[j]? = some x) :
    RI2 objs mr (L.set j true) (l ++ (x.fs.take (cntM x.kind x.fs).toNat).filterMap pk) := by
  obtain ⟨j', hj', hjl, hr⟩ := h.a j (by simp)
  have : j' = j := by omega
  subst this
  have hset : ∀ k : Nat, (L.set j' true)[k]?.getD false = true ↔ k = j' ∨ L[k]?.getD false = true := by
    intro k
    by_cases hk : k = j'
    · subst hk
      rw [List.getElem?_set_self (by rw [h.e]; exact hjl)]; simp
    · rw [List.getElem?_set_ne (Ne.symm hk)]; simp [hk]
  have key : ∀ k : Nat, (L[k]?.getD false = true ∨ (k : Int) ∈ (j' : Int) :: l) → (L.set j' true)[k]?.getD false = true ∨ (k : Int) ∈ l ++ (x.fs.take (cntM x.kind x.fs).toNat).filterMap pk := by
    rintro k (h1 | h1)
    · exact .inl ((hset k).2 (.inr h1))
    · rcases List.mem_cons.1 h1 with h1 | h1
      · exact .inl ((hset k).2 (.inl (by omega)))
      · exact .inr (List.mem_append_left _ h1)
  refine ⟨?_, ?_, fun i f hf k hk => key k (h.c i f hf k hk), ?_, by simpa using h.e⟩
  · intro y hy
    rcases List.mem_append.1 hy with hy | hy
    · exact h.a y (List.mem_cons_of_mem _ hy)
    · obtain ⟨f, h1, h2, h3⟩ := pk_mem.1 hy
      obtain ⟨i, hi, hif⟩ := List.getElem_of_mem h1
      rw [List.length_take] at hi
      rw [List.getElem_take] at hif
      have hf : x.fs[i]? = some f := by rw [List.getElem?_eq_getElem (by omega), hif]
      have := (hb.f x (List.mem_of_getElem? hx)).2 f (List.mem_of_getElem? hf)
      exact ⟨y.toNat, by omega, by omega, .field j' x i f y.toNat hr hx (by omega) hf (by omega)⟩
  · intro k hk
    rcases (hset k).1 hk with rfl | hk
    · exact hr
    · exact h.b k hk
  · intro k y hk hy i f hi hf q hq
    rcases (hset k).1 hk with hk | hk
    · subst hk
      rw [hx] at hy
      injection hy with hy
      subst hy
      right
      apply List.mem_append_right
      exact pk_mem.2 ⟨f, List.mem_of_getElem? (i := i) (by rw [List.getElem?_take, if_pos (by omega)]; exact hf), by omega, hq⟩
    · exact key q (h.d k y hk hy i f hi hf q hq)
theorem RI2.done (h : RI2 objs mr L []) (j : Nat) : L[j]?.getD false = true ↔ RchM objs mr j := by
  refine ⟨h.b j, fun hr => ?_⟩
  induction hr with
  | root i f j h1 h2 => exact (h.c i f h1 j h2).resolve_right (by simp)
  | field j x i f k _ h2 h3 h4 h5 ih => exact (h.d j x ih h2 i f h3 h4 k h5).resolve_right (by simp)
def nF (L : List Bool) : Nat := L.countP fun x => !x
theorem nF_set {L : List Bool} {j : Nat} (h : L[j]? = some false) : nF (L.set j true) + 1 = nF L := by
  induction L generalizing j with
  | nil => simp at h
  | cons x L ih =>
    cases j with
    | zero => simp at h; subst h; simp [nF]
    | succ j =>
      have := ih (j := j) (by simpa using h)
      simp only [nF, List.set_cons_succ, List.countP_cons] at this ⊢
      omega
/-- A model in memory. -/
structure MIn (w : World) (ov mv : Value) (objs : List Mo) (mr : List Fd) : Prop where
  o : ∃ a cap, ov = .slice a objs.length cap ∧ (objs = [] ∨ ∃ g, a = some ⟨g, 0, none⟩ ∧ ∀ (j : Nat) (x : Mo), objs[j]? = some x → w.cell? ⟨g, j * 2, none⟩ = some (.int .i64 x.kind) ∧ w.cell? ⟨g, j * 2 + 1, none⟩ = some x.v)
  f : ∀ (j : Nat) (x : Mo), objs[j]? = some x → FdsIn w x.v x.fs
  m : FdsIn w mv mr
theorem MIn.keep {w w' : World} {ov mv : Value} (h : MIn w ov mv objs mr) (hF : Fr [] w w') : MIn w' ov mv objs mr := by
  obtain ⟨⟨a, cap, h1, h2⟩, h3, h4⟩ := h
  refine ⟨⟨a, cap, h1, ?_⟩, fun j x hx => (h3 j x hx).keep hF, h4.keep hF⟩
  rcases h2 with h2 | ⟨g, h2, h5⟩
  · exact .inl h2
  · exact .inr ⟨g, h2, fun j x hx => ⟨cell_fr (h5 j x hx).1 hF (by simp), cell_fr (h5 j x hx).2 hF (by simp)⟩⟩
theorem MIn.at {w : World} {ov mv : Value} (h : MIn w ov mv objs mr) {j : Nat} {x : Mo} (hx : objs[j]? = some x) : ∃ g cap, ov = .slice (some ⟨g, 0, none⟩) objs.length cap ∧ w.cell? ⟨g, j * 2, none⟩ = some (.int .i64 x.kind) ∧ w.cell? ⟨g, j * 2 + 1, none⟩ = some x.v := by
  obtain ⟨⟨a, cap, h1, h2⟩, _, _⟩ := h
  rcases h2 with h2 | ⟨g, h2, h5⟩
  · rw [h2] at hx; simp at hx
  · exact ⟨g, cap, by rw [h1, h2], h5 j x hx⟩
theorem FdsIn.at {w : World} {v : Value} {fs : List Fd} (h : FdsIn w v fs) {i : Nat} {f : Fd} (hf : fs[i]? = some f) : ∃ g cap, v = .slice (some ⟨g, 0, none⟩) fs.length cap ∧ fs.length ≤ cap ∧ w.cell? ⟨g, i * 2, none⟩ = some (.int .u64 f.w) ∧ w.cell? ⟨g, i * 2 + 1, none⟩ = some (.int .i64 f.k) := by
  obtain ⟨a, cap, h1, h2, h3⟩ := h
  rcases h3 with h3 | ⟨g, h3, h5⟩
  · rw [h3] at hf; simp at hf
  · exact ⟨g, cap, by rw [h1, h3], h2, h5 i f hf⟩
theorem YAt.min {w0 w : World} {c : Yk} {A : Ar} {S : Ys} {ex : List RV} (h : YAt w0 w c A S ex) : MIn w S.ov S.mv S.objs S.mr := by
  refine ⟨?_, fun j x hx => h.fds hx, ?_⟩
  · obtain ⟨a, cap, h1, h2⟩ := h.oform
    rcases Nat.eq_zero_or_pos S.objs.length with hz | hz
    · exact ⟨a, cap, h1, .inl (List.length_eq_zero_iff.1 hz)⟩
    · obtain ⟨g, cap, h3, h4, h5, h6, h7⟩ := h.orow hz
      exact ⟨_, cap, h3, .inr ⟨g, rfl, h6⟩⟩
  · obtain ⟨g, cap, h1, h2, h3, h4, h5⟩ := h.mrow
    have := h.n8.2
    exact ⟨_, cap, by rw [this]; exact h1, by omega, .inr ⟨g, rfl, h4⟩⟩
end Go.Proofs.Ytjgndfhfiekomaa
