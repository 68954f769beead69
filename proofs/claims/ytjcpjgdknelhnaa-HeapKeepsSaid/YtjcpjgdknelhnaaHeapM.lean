/- HeapKeeps: what lies in memory at the head of a round. No program in sight. -/
import Derived.Test.YtjcpjgdknelhnaaHeapL
import Derived.Test.YtjcpjgdknelhnaaOwnRows
import Derived.Test.YtjcpjgdknelhnaaArgs
namespace Go.Proofs.Ytjcpjgdknelhnaa
open Go.ChangeShapes Go.WideShapes Go.RowKit
/-- An object and its fields' slice. -/
structure Kp where
  g : Nat
  cap : Nat
  ob : Ob
def Kp.wF (x : Kp) (fs : List Int) : Kp := ⟨x.g, x.cap, ⟨x.ob.a, x.ob.kind, x.ob.pins, fs⟩⟩
def Kp.wP (x : Kp) (q : Nat) : Kp := ⟨x.g, x.cap, ⟨x.ob.a, x.ob.kind, q, x.ob.fs⟩⟩
def Kp.wA (x : Kp) (q : Nat) : Kp := ⟨x.g, x.cap, ⟨q, x.ob.kind, x.ob.pins, x.ob.fs⟩⟩
def Kp.row (x : Kp) : Row := ⟨x.g, x.cap, 25, x.ob.fs.map (.int .u64)⟩
def nowL (P : List Kp) : List Value := P.map fun x => .int .u64 (pw x.ob.a)
def fldL (P : List Kp) : List Value := P.map fun x => .slice (some ⟨x.g, 0, none⟩) x.ob.fs.length x.cap
def pinL (P : List Kp) : List Value := P.map fun x => .int .i64 x.ob.pins
def rowsOf (n f p : Nat × Nat) (P : List Kp) : List Row :=
  ⟨n.1, n.2, 25, nowL P⟩ :: ⟨f.1, f.2, 50, fldL P⟩ :: ⟨p.1, p.2, 3, pinL P⟩ :: P.map Kp.row
structure KAt (w wr : World) (B m hb b wb lb : Nat) (A : Ar) (n f p : Nat × Nat) (P : List Kp) : Prop where
  he : HeAt wr hb b wb lb A
  hk : HK A m (P.map Kp.ob)
  rows : RowsOk wr B (rowsOf n f p P)
  fr : Fr [] w wr
structure KB (w : World) (B hb b wb lb : Nat) : Prop where
  h1 : hb < B
  h2 : b < B
  h3 : wb < B
  h4 : lb < B
  l1 : w.heap.size ≤ hb
  l2 : w.heap.size ≤ b
  l3 : w.heap.size ≤ wb
  l4 : w.heap.size ≤ lb
  l5 : w.heap.size ≤ B
variable {w wr w2 w3 : World} {B m hb b wb lb : Nat} {A A' : Ar} {n f p : Nat × Nat} {P : List Kp}
theorem KAt.keep (h : KAt w wr B m hb b wb lb A n f p P) (hF : Fr [] wr w2) : KAt w w2 B m hb b wb lb A n f p P :=
  ⟨h.he.keep hF, h.hk, h.rows.keep hF, h.fr.same hF⟩
theorem KAt.heap (h : KAt w wr B m hb b wb lb A n f p P) (G : KB w B hb b wb lb) (hF : Fr [b, wb, lb] wr w2) (he : HeAt w2 hb b wb lb A') (hk : HK A' m (P.map Kp.ob)) : KAt w w2 B m hb b wb lb A' n f p P := by
  obtain ⟨g1, g2, g3, g4, l1, l2, l3, l4, l5⟩ := G
  exact ⟨he, hk, h.rows.low hF (by simp; omega), h.fr.trans hF (by simp; omega)⟩
theorem len_nowL (P : List Kp) : (nowL P).length = P.length := by simp [nowL]
theorem len_fldL (P : List Kp) : (fldL P).length = P.length := by simp [fldL]
theorem len_pinL (P : List Kp) : (pinL P).length = P.length := by simp [pinL]
theorem KAt.now (h : KAt w wr B m hb b wb lb A n f p P) {j : Nat} {x : Kp} (hx : P[j]? = some x) : wr.cell? ⟨n.1, j, none⟩ = some (.int .u64 (pw x.ob.a)) :=
  (h.rows.at (i := 0) (r := ⟨n.1, n.2, 25, nowL P⟩) rfl).cell (by simp [nowL, hx])
theorem KAt.fld (h : KAt w wr B m hb b wb lb A n f p P) {j : Nat} {x : Kp} (hx : P[j]? = some x) : wr.cell? ⟨f.1, j, none⟩ = some (.slice (some ⟨x.g, 0, none⟩) x.ob.fs.length x.cap) :=
  (h.rows.at (i := 1) (r := ⟨f.1, f.2, 50, fldL P⟩) rfl).cell (by simp [fldL, hx])
theorem KAt.pin (h : KAt w wr B m hb b wb lb A n f p P) {j : Nat} {x : Kp} (hx : P[j]? = some x) : wr.cell? ⟨p.1, j, none⟩ = some (.int .i64 x.ob.pins) :=
  (h.rows.at (i := 2) (r := ⟨p.1, p.2, 3, pinL P⟩) rfl).cell (by simp [pinL, hx])
theorem KAt.fs (h : KAt w wr B m hb b wb lb A n f p P) {j : Nat} {x : Kp} (hx : P[j]? = some x) {i : Nat} (hi : i < x.ob.fs.length) : wr.cell? ⟨x.g, i, none⟩ = some (.int .u64 (x.ob.fs[i]?.getD 0)) :=
  (h.rows.at (i := j + 3) (r := x.row) (by simp [rowsOf, hx])).cell (by simp [Kp.row, hi])
theorem KAt.frees (h : KAt w wr B m hb b wb lb A n f p P) (i : Nat) : wr.frozen? ⟨n.1, i, none⟩ = false ∧ wr.frozen? ⟨f.1, i, none⟩ = false ∧ wr.frozen? ⟨p.1, i, none⟩ = false :=
  ⟨(h.rows.at (i := 0) (r := ⟨n.1, n.2, 25, nowL P⟩) rfl).free i, (h.rows.at (i := 1) (r := ⟨f.1, f.2, 50, fldL P⟩) rfl).free i, (h.rows.at (i := 2) (r := ⟨p.1, p.2, 3, pinL P⟩) rfl).free i⟩
theorem KAt.ffree (h : KAt w wr B m hb b wb lb A n f p P) {j : Nat} {x : Kp} (hx : P[j]? = some x) (i : Nat) : wr.frozen? ⟨x.g, i, none⟩ = false :=
  (h.rows.at (i := j + 3) (r := x.row) (by simp [rowsOf, hx])).free i
theorem map_set_same {α β : Type} {l : List α} {j : Nat} {x x' : α} {F : α → β} (hx : l[j]? = some x) (he : F x' = F x) : (l.set j x').map F = l.map F := by
  rw [List.map_set, he]
  apply List.ext_getElem?
  intro i
  by_cases hi : i = j
  · subst hi
    rw [List.getElem?_set_self']
    simp [hx]
  · rw [List.getElem?_set_ne (by omega)]
theorem lt_of_some {α : Type} {l : List α} {j : Nat} {x : α} (hx : l[j]? = some x) : j < l.length := by
  rcases Nat.lt_or_ge j l.length with h | h
  · exact h
  · rw [List.getElem?_eq_none h] at hx; simp at hx
theorem nowL_set {j : Nat} {x x' : Kp} (hx : P[j]? = some x) (he : x'.ob.a = x.ob.a) : nowL (P.set j x') = nowL P :=
  map_set_same (F := fun x : Kp => Value.int .u64 (pw x.ob.a)) hx (by simp only [he])
theorem fldL_set {j : Nat} {x x' : Kp} (hx : P[j]? = some x) (h1 : x'.g = x.g) (h2 : x'.cap = x.cap) (h3 : x'.ob.fs.length = x.ob.fs.length) : fldL (P.set j x') = fldL P :=
  map_set_same (F := fun x : Kp => Value.slice (some ⟨x.g, 0, none⟩) x.ob.fs.length x.cap) hx (by simp only [h1, h2, h3])
theorem pinL_set {j : Nat} {x x' : Kp} (hx : P[j]? = some x) (he : x'.ob.pins = x.ob.pins) : pinL (P.set j x') = pinL P :=
  map_set_same (F := fun x : Kp => Value.int .i64 x.ob.pins) hx (by simp only [he])
theorem row_set {j : Nat} {x x' : Kp} (hx : P[j]? = some x) (he : x'.row = x.row) : (P.set j x').map Kp.row = P.map Kp.row :=
  map_set_same hx he
/-- A field is another one. -/
theorem KAt.setF (h : KAt w wr B m hb b wb lb A n f p P) (G : KB w B hb b wb lb) (hF : Fr [b, wb, lb] wr w2) (he : HeAt w2 hb b wb lb A') {j : Nat} {x : Kp} (hx : P[j]? = some x) (i : Nat) (v : Int)
    (hk : HK A' m ((P.map Kp.ob).set j (x.wF (x.ob.fs.set i v)).ob)) : KAt w (w2.setCell ⟨x.g, i, none⟩ (.int .u64 v)) B m hb b wb lb A' n f p (P.set j (x.wF (x.ob.fs.set i v))) := by
  obtain ⟨g1, g2, g3, g4, l1, l2, l3, l4, l5⟩ := G
  have hr : (rowsOf n f p P)[j + 3]? = some x.row := by simp [rowsOf, hx]
  have R2 := h.rows.low hF (by simp; omega)
  have hb1 := (R2.at hr).blk.1
  have hxg : x.row.g = x.g := rfl
  have hS : Fr [x.g] w2 (w2.setCell ⟨x.g, i, none⟩ (.int .u64 v)) := (Fr.refl _ _).setCell (by simp) _
  refine ⟨he.fr hS (by simp; omega) (by simp; omega) (by simp; omega) (by simp; omega), by rw [List.map_set]; exact hk, ?_, ?_⟩
  · have := R2.grow (r' := ⟨x.g, x.cap, 25, (x.ob.fs.set i v).map (.int .u64)⟩) hr hS (by simp [hxg]) (by
      have := (R2.at hr).set i (.int .u64 v)
      simpa [Kp.row, List.map_set] using this) (.inl rfl)
    have e : (rowsOf n f p P).set (j + 3) ⟨x.g, x.cap, 25, (x.ob.fs.set i v).map (.int .u64)⟩ = rowsOf n f p (P.set j (x.wF (x.ob.fs.set i v))) := by
      unfold rowsOf
      rw [nowL_set (x' := x.wF (x.ob.fs.set i v)) hx rfl, fldL_set (x' := x.wF (x.ob.fs.set i v)) hx rfl rfl (by simp [Kp.wF]), pinL_set (x' := x.wF (x.ob.fs.set i v)) hx rfl, List.map_set]
      simp [Kp.row, Kp.wF]
    rw [← e]; exact this
  · exact (h.fr.trans hF (by simp; omega)).trans hS (by simp; omega)
/-- One more pin, or one less. -/
theorem KAt.setP (h : KAt w wr B m hb b wb lb A n f p P) (G : KB w B hb b wb lb) (hF : Fr [b, wb, lb] wr w2) (he : HeAt w2 hb b wb lb A') {j : Nat} {x : Kp} (hx : P[j]? = some x) (q : Nat)
    (hk : HK A' m ((P.map Kp.ob).set j (x.wP q).ob)) : KAt w (w2.setCell ⟨p.1, j, none⟩ (.int .i64 q)) B m hb b wb lb A' n f p (P.set j (x.wP q)) := by
  obtain ⟨g1, g2, g3, g4, l1, l2, l3, l4, l5⟩ := G
  have hr : (rowsOf n f p P)[2]? = some ⟨p.1, p.2, 3, pinL P⟩ := rfl
  have R2 := h.rows.low hF (by simp; omega)
  have hb1 := (R2.at hr).blk.1
  simp only at hb1
  have hS : Fr [p.1] w2 (w2.setCell ⟨p.1, j, none⟩ (.int .i64 q)) := (Fr.refl _ _).setCell (by simp) _
  refine ⟨he.fr hS (by simp; omega) (by simp; omega) (by simp; omega) (by simp; omega), by rw [List.map_set]; exact hk, ?_, ?_⟩
  · have := R2.grow (r' := ⟨p.1, p.2, 3, (pinL P).set j (.int .i64 q)⟩) hr hS (by simp) (by
      have := (R2.at hr).set j (.int .i64 q)
      exact this) (.inl rfl)
    have e : (rowsOf n f p P).set 2 ⟨p.1, p.2, 3, (pinL P).set j (.int .i64 q)⟩ = rowsOf n f p (P.set j (x.wP q)) := by
      unfold rowsOf
      rw [nowL_set (x' := x.wP q) hx rfl, fldL_set (x' := x.wP q) hx rfl rfl rfl, row_set (x' := x.wP q) hx rfl]
      simp [pinL, List.map_set, Kp.wP]
    rw [← e]; exact this
  · exact (h.fr.trans hF (by simp; omega)).trans hS (by simp; omega)
/-- It stands elsewhere. -/
theorem KAt.setN (h : KAt w wr B m hb b wb lb A n f p P) (G : KB w B hb b wb lb) (hF : Fr [b, wb, lb] wr w2) (he : HeAt w2 hb b wb lb A') {j : Nat} {x : Kp} (hx : P[j]? = some x) (q : Nat)
    (hk : HK A' m ((P.map Kp.ob).set j (x.wA q).ob)) : KAt w (w2.setCell ⟨n.1, j, none⟩ (.int .u64 (pw q))) B m hb b wb lb A' n f p (P.set j (x.wA q)) := by
  obtain ⟨g1, g2, g3, g4, l1, l2, l3, l4, l5⟩ := G
  have hr : (rowsOf n f p P)[0]? = some ⟨n.1, n.2, 25, nowL P⟩ := rfl
  have R2 := h.rows.low hF (by simp; omega)
  have hb1 := (R2.at hr).blk.1
  simp only at hb1
  have hS : Fr [n.1] w2 (w2.setCell ⟨n.1, j, none⟩ (.int .u64 (pw q))) := (Fr.refl _ _).setCell (by simp) _
  refine ⟨he.fr hS (by simp; omega) (by simp; omega) (by simp; omega) (by simp; omega), by rw [List.map_set]; exact hk, ?_, ?_⟩
  · have := R2.grow (r' := ⟨n.1, n.2, 25, (nowL P).set j (.int .u64 (pw q))⟩) hr hS (by simp) (by
      have := (R2.at hr).set j (.int .u64 (pw q))
      exact this) (.inl rfl)
    have e : (rowsOf n f p P).set 0 ⟨n.1, n.2, 25, (nowL P).set j (.int .u64 (pw q))⟩ = rowsOf n f p (P.set j (x.wA q)) := by
      unfold rowsOf
      rw [fldL_set (x' := x.wA q) hx rfl rfl rfl, pinL_set (x' := x.wA q) hx rfl, row_set (x' := x.wA q) hx rfl]
      simp [nowL, List.map_set, Kp.wA]
    rw [← e]; exact this
  · exact (h.fr.trans hF (by simp; omega)).trans hS (by simp; omega)
theorem KAt.start (hA : HeAt w3 hb b wb lb (Ar.new m)) (h1 : 1 ≤ m) (h2 : m ≤ 4096) (hF : Fr [] w w3) :
    KAt w (((w3.alloc (.cells #[] 25)).alloc (.cells #[] 50)).alloc (.cells #[] 3)) w3.heap.size m hb b wb lb (Ar.new m) (w3.heap.size, 0) (w3.heap.size + 1, 0) (w3.heap.size + 1 + 1, 0) [] := by
  have n1 := size_alloc w3 (.cells #[] 25)
  have n2 := size_alloc (w3.alloc (.cells #[] 25)) (.cells #[] 50)
  refine ⟨hA.keep ((((Fr.refl [] _).alloc _).alloc _).alloc _), HK.start h1 h2, ?_, ((hF.alloc _).alloc _).alloc _⟩
  have r0 := (RowsOk.nil w3 w3.heap.size).push (r := ⟨w3.heap.size, 0, 25, []⟩) ((Fr.refl [] _).alloc (.cells #[] 25)) (by simp) (Row.ok.new w3 _ (Nat.le_refl _) 25 [] (by simp)) (Nat.le_refl _)
  have r1 := r0.push (r := ⟨w3.heap.size + 1, 0, 50, []⟩) ((Fr.refl [] _).alloc (.cells #[] 50)) (by simp) (by have := Row.ok.new (w3.alloc (.cells #[] 25)) w3.heap.size (by omega) 50 [] (by simp); rw [n1] at this; exact this) (by simp only; omega)
  have r2 := r1.push (r := ⟨w3.heap.size + 1 + 1, 0, 3, []⟩) ((Fr.refl [] _).alloc (.cells #[] 3)) (by simp) (by have := Row.ok.new ((w3.alloc (.cells #[] 25)).alloc (.cells #[] 50)) w3.heap.size (by omega) 3 [] (by simp); rw [n2, n1] at this; exact this) (by simp only; omega)
  exact r2
/-- The same with any rows and any objects. -/
structure KS (w wr : World) (B m hb b wb lb : Nat) (A : Ar) (L : List Ob) (rs : List Row) : Prop where
  he : HeAt wr hb b wb lb A
  hk : HK A m L
  rows : RowsOk wr B rs
  fr : Fr [] w wr
variable {L : List Ob} {rs : List Row}
theorem KS.keep (h : KS w wr B m hb b wb lb A L rs) (hF : Fr [] wr w2) : KS w w2 B m hb b wb lb A L rs :=
  ⟨h.he.keep hF, h.hk, h.rows.keep hF, h.fr.same hF⟩
theorem KS.new (h : KS w wr B m hb b wb lb A L rs) (hB : B ≤ wr.heap.size) (t : TypeId) : KS w (wr.alloc (.cells #[] t)) B m hb b wb lb A L (rs ++ [⟨wr.heap.size, 0, t, []⟩]) :=
  ⟨h.he.keep ((Fr.refl [] _).alloc _), h.hk, h.rows.push (r := ⟨wr.heap.size, 0, t, []⟩) ((Fr.refl [] _).alloc _) (by simp) (Row.ok.new wr B hB t [] (by simp)) (Nat.le_refl _), h.fr.alloc _⟩
theorem KS.app (h : KS w wr B m hb b wb lb A L rs) (G : KB w B hb b wb lb) {i : Nat} {r : Row} (hr : rs[i]? = some r) (hF : Fr [] wr w2) {g cap N : Nat} {u : Value} (hN : r.xs.length + 1 = N) {v : Value} (hv : v.ownBlock = some r.g)
    (own : w3.ownsRow B r.t 1 (.slice (some ⟨g, 0, none⟩) N cap) N (r.xs ++ [u])) (gr : w2.grownBy w3 v.ownBlock) (hat : v.ownBlock = some g ∨ g = w2.heap.size) :
    KS w w3 B m hb b wb lb A L (rs.set i ⟨g, cap, r.t, r.xs ++ [u]⟩) := by
  obtain ⟨g1, g2, g3, g4, l1, l2, l3, l4, l5⟩ := G
  have h2 := h.keep hF
  have hg := grown_fr gr
  rw [hv] at hg hat
  have hb1 := (h2.rows.at hr).blk.1
  have hF3 : Fr [r.g] w2 w3 := hg.mono (by simp)
  refine ⟨h2.he.fr hF3 (by simp; omega) (by simp; omega) (by simp; omega) (by simp; omega), h.hk, ?_, h2.fr.trans hF3 (by simp; omega)⟩
  refine h2.rows.grow hr hF3 (by simp) ?_ ?_
  · unfold Row.ok
    simp only [List.length_append, List.length_cons, List.length_nil, Nat.zero_add]
    rw [hN]; exact own
  · rcases hat with hat | hat
    · left; simp at hat; exact hat.symm
    · right; simp only; omega
theorem KAt.ks (h : KAt w wr B m hb b wb lb A n f p P) : KS w wr B m hb b wb lb A (P.map Kp.ob) (rowsOf n f p P) := ⟨h.he, h.hk, h.rows, h.fr⟩
theorem KS.kat (h : KS w wr B m hb b wb lb A L rs) (hL : L = P.map Kp.ob) (hr : rs = rowsOf n f p P) : KAt w wr B m hb b wb lb A n f p P := by
  subst hL; subst hr; exact ⟨h.he, h.hk, h.rows, h.fr⟩
theorem KS.heap (h : KS w wr B m hb b wb lb A L rs) (G : KB w B hb b wb lb) {L' : List Ob} (hF : Fr [b, wb, lb] wr w2) (he : HeAt w2 hb b wb lb A') (hk : HK A' m L') : KS w w2 B m hb b wb lb A' L' rs := by
  obtain ⟨g1, g2, g3, g4, l1, l2, l3, l4, l5⟩ := G
  exact ⟨he, hk, h.rows.low hF (by simp; omega), h.fr.trans hF (by simp; omega)⟩
theorem KS.size (h : KS w wr B m hb b wb lb A L rs) {i : Nat} {r : Row} (hr : rs[i]? = some r) : B < wr.heap.size := by
  have := (h.rows.at hr).blk; omega
theorem KS.own (h : KS w wr B m hb b wb lb A L rs) {i : Nat} {r : Row} (hr : rs[i]? = some r) {N : Nat} (hN : r.xs.length = N) : wr.ownsRow B r.t 1 (.slice (some ⟨r.g, 0, none⟩) N r.cap) N r.xs := by
  subst hN; exact h.rows.at hr
theorem info_words : (Try.prog.info? 50).map (fun i => (i.zero, i.size, i.bytes)) = some (some (.slice none 0 0), 1, 24) := by kernel_rfl
theorem info_int : (Try.prog.info? 3).map (fun i => (i.zero, i.size, i.bytes)) = some (some (.int .i64 0), 1, 8) := by kernel_rfl
/-- All three rows have one more element. -/
theorem rows_made (n f p : Nat × Nat) (P : List Kp) (g cap : Nat) (o : Ob) (hp : o.pins = 0) (n' f' p' : Nat × Nat) :
    (((rowsOf n f p P ++ [Row.mk g cap 25 (o.fs.map (.int .u64))]).set 0 (Row.mk n'.1 n'.2 25 (nowL P ++ [Value.int .u64 (pw o.a)]))).set 1 (Row.mk f'.1 f'.2 50 (fldL P ++ [Value.slice (some ⟨g, 0, none⟩) o.fs.length cap]))).set 2 (Row.mk p'.1 p'.2 3 (pinL P ++ [Value.int .i64 0])) = rowsOf n' f' p' (P ++ [⟨g, cap, o⟩]) := by
  simp [rowsOf, nowL, fldL, pinL, Kp.row, hp]
theorem set_last {α : Type} (l : List α) (a b : α) : (l ++ [a]).set l.length b = l ++ [b] := by
  rw [List.set_append_right _ _ (Nat.le_refl _)]; simp
/-- The fields that were read so far. -/
structure KL (w wr : World) (B m hb b wb lb : Nat) (A : Ar) (n f p : Nat × Nat) (P : List Kp) (o : Ob) (j g cap q : Nat) (c : Obj) : Prop where
  ks : KS w wr B m hb b wb lb A (P.map Kp.ob ++ [o]) (rowsOf n f p P ++ [Row.mk g cap 25 ((o.fs.take j).map (.int .u64))])
  ne : g ≠ q
  at_ : blk wr q = some c
variable {o : Ob} {j g cap q : Nat} {c : Obj}
theorem KL.keep (h : KL w wr B m hb b wb lb A n f p P o j g cap q c) (hF : Fr [] wr w2) : KL w w2 B m hb b wb lb A n f p P o j g cap q c :=
  ⟨h.ks.keep hF, h.ne, hF.at h.at_ (by simp)⟩
theorem KL.row (h : KL w wr B m hb b wb lb A n f p P o j g cap q c) (hj : j ≤ o.fs.length) : wr.ownsRow B 25 1 (.slice (some ⟨g, 0, none⟩) j cap) j ((o.fs.take j).map (.int .u64)) := by
  have := h.ks.rows.at (i := (rowsOf n f p P).length) (r := Row.mk g cap 25 ((o.fs.take j).map (.int .u64))) (by simp)
  unfold Row.ok at this
  rw [show (Row.mk g cap 25 ((o.fs.take j).map (.int .u64))).xs.length = j by simp; omega] at this
  exact this
theorem KL.more (h : KL w wr B m hb b wb lb A n f p P o j g cap q c) (G : KB w B hb b wb lb) (hj : j < o.fs.length) (hF : Fr [] wr w2) {g' cap' : Nat}
    (own : w3.ownsRow B 25 1 (.slice (some ⟨g', 0, none⟩) (j + 1) cap') (j + 1) ((o.fs.take j).map (.int .u64) ++ [.int .u64 (o.fs[j]?.getD 0)])) (gr : w2.grownBy w3 (Value.ownBlock (.slice (some ⟨g, 0, none⟩) j cap))) (hat : Value.ownBlock (.slice (some ⟨g, 0, none⟩) j cap) = some g' ∨ g' = w2.heap.size) :
    KL w w3 B m hb b wb lb A n f p P o (j + 1) g' cap' q c := by
  have hq := lt_size (hF.at h.at_ (by simp))
  refine ⟨?_, ?_, ?_⟩
  · have := h.ks.app (i := (rowsOf n f p P).length) (r := Row.mk g cap 25 ((o.fs.take j).map (.int .u64))) G (by simp) hF (N := j + 1) (by simp; omega) (v := .slice (some ⟨g, 0, none⟩) j cap) rfl own gr hat
    rw [set_last] at this
    rw [List.take_add_one]
    simp only [List.getElem?_eq_getElem hj, Option.toList_some, List.map_append, List.map_cons, List.map_nil]
    simp only [List.getElem?_eq_getElem hj, Option.getD_some] at this
    exact this
  · rcases hat with hat | hat
    · simp only [Value.ownBlock, Option.some.injEq] at hat; rw [← hat]; exact h.ne
    · omega
  · have hg := grown_fr gr
    exact hg.at (hF.at h.at_ (by simp)) (by simp [Value.ownBlock]; exact fun he => h.ne he.symm)
end Go.Proofs.Ytjcpjgdknelhnaa
