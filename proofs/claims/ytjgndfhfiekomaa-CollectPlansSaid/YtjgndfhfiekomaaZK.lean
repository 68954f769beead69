/- The law's step: what it says; its small callees; when nothing is done. -/
import Derived.Test.YtjgndfhfiekomaaYG
import Derived.Test.YtjgndfhfiekomaaYF
import Derived.BigQuiet
set_option linter.all false
namespace Go.Proofs.Ytjgndfhfiekomaa
open Go.ChangeShapes Go.WideShapes Go.RowKit
theorem RVs.perm {w : World} {B : Nat} {l l' : List RV} (hp : l.Perm l') (h : RVs w B l) : RVs w B l' := by
  have key : ∀ l : List RV, (∀ (i j : Nat) (r s : RV) (x : Nat), i ≠ j → l[i]? = some r → l[j]? = some s → r.v.ownBlock = some x → s.v.ownBlock ≠ some x) ↔ l.Pairwise (fun r s => ∀ x, r.v.ownBlock = some x → s.v.ownBlock ≠ some x) := by
    intro l
    rw [List.pairwise_iff_getElem]
    constructor
    · intro h i j hi hj hij x hx
      exact h i j _ _ x (by omega) (List.getElem?_eq_getElem hi) (List.getElem?_eq_getElem hj) hx
    · intro h i j r s x hij hr hs hx hy
      have hi := lt_some hr
      have hj := lt_some hs
      rw [List.getElem?_eq_getElem hi, Option.some.injEq] at hr
      rw [List.getElem?_eq_getElem hj, Option.some.injEq] at hs
      subst hr hs
      rcases Nat.lt_or_ge i j with hlt | hge
      · exact h i j hi hj hlt x hx hy
      · exact h j i hj hi (by omega) x hy hx
  refine ⟨fun r hr => h.ok r (hp.mem_iff.2 hr), (key l').2 ?_⟩
  exact (hp.pairwise_iff (fun {a b} hab x hx hy => hab x hy hx)).1 ((key l).1 h.ne)
/-- One more row beside, ahead of the others. -/
theorem YAt.moreA {w0 w w' : World} {c : Yk} {A : Ar} {S : Ys} {ex : List RV} (h : YAt w0 w c A S ex) (hF : Fr [] w w') {r : RV} (h' : r.ok w' w0.heap.size) (hat : ∀ x, r.v.ownBlock = some x → w.heap.size ≤ x) : YAt w0 w' c A S (r :: ex) := by
  have h1 := h.more hF h' hat
  have hp : (rowsY S (ex ++ [r])).Perm (rowsY S (r :: ex)) := by
    unfold rowsY
    repeat apply List.Perm.cons
    exact List.Perm.append_left _ (List.perm_append_comm (l₁ := ex) (l₂ := [r]))
  exact ⟨h1.he, h1.yc, h1.rows.perm hp, fun s hs => h1.far s (hp.mem_iff.2 hs), h1.ap, h1.lo, h1.n8, h1.fr⟩
variable {w0 w : World} {c : Yk} {A A' : Ar} {S : Ys} {ex : List RV} {m : Nat} {G K : List Bool} {D : Nat → Option Ob}
/-- What is told of an act. -/
structure Ac where
  kind : Int
  a : Int
  b : Int
  i : Int
  n : Int
  w : Int
  p0 : Int
  p1 : Int
def Ac.v (x : Ac) : Value := .agg #[.int .i64 x.kind, .int .i64 x.a, .int .i64 x.b, .int .i64 x.i, .int .i64 x.n, .int .u64 x.w, .int .i64 x.p0, .int .i64 x.p1]
structure Md where
  os : List (Int × List Fd)
  mr : List Fd
  pins : List Int
def Ys.md (S : Ys) : Md := ⟨S.objs.map fun o => (o.kind, o.fs), S.mr, S.pins⟩
def smallW (w : Int) : Int := if w % 8 = 1 then w - 1 else w
def Md.at (M : Md) (r : Int) : Int := (M.mr[r.toNat]?.getD ⟨0, -1⟩).k
def Md.kd (M : Md) (j : Int) : Int := (M.os[j.toNat]?.getD (0, [])).1
def Md.fs (M : Md) (j : Int) : List Fd := (M.os[j.toNat]?.getD (0, [])).2
def zero2 (l : List Fd) : List Fd := l.take 2 ++ List.replicate (l.length - 2) ⟨0, -1⟩
def Ac.off (x : Ac) : Prop := x.a < 0 ∨ 7 < x.a ∨ x.b < 0 ∨ 7 < x.b
instance (x : Ac) : Decidable x.off := by unfold Ac.off; infer_instance
def Md.setFd (M : Md) (x : Ac) (f : Fd) : Md :=
  ⟨M.os.set (M.at x.a).toNat (M.kd (M.at x.a), if M.kd (M.at x.a) = 15 ∧ x.i = 1 then zero2 ((M.fs (M.at x.a)).set x.i.toNat f) else (M.fs (M.at x.a)).set x.i.toNat f), M.mr, M.pins⟩
def Md.fd (M : Md) (x : Ac) : Fd := if x.kind = 1 ∧ M.kd (M.at x.a) < 16 then M.mr[x.b.toNat]?.getD ⟨0, -1⟩ else ⟨smallW x.w, -1⟩
def Md.pin (M : Md) (x : Ac) (d : Int) : Md :=
  if 0 ≤ M.at x.a ∧ 0 ≤ M.pins[(M.at x.a).toNat]?.getD 0 + d ∧ M.pins[(M.at x.a).toNat]?.getD 0 + d ≤ 7 then ⟨M.os, M.mr, M.pins.set (M.at x.a).toNat (M.pins[(M.at x.a).toNat]?.getD 0 + d)⟩ else M
/-- What an act does with the model, when an object that it wants is made, or none is. -/
def stepM (M : Md) (x : Ac) (ok : Bool) : Md :=
  if x.off then M else
  if x.kind = 0 then (if ok then ⟨M.os ++ [(x.n, List.replicate x.i.toNat ⟨emptyW x.n, -1⟩)], M.mr.set x.a.toNat ⟨0, M.os.length⟩, M.pins ++ [0]⟩ else M) else
  if x.kind = 1 ∨ x.kind = 2 then (if M.at x.a < 0 ∨ x.i < 0 ∨ ((M.fs (M.at x.a)).length : Int) ≤ x.i then M else M.setFd x (M.fd x)) else
  if x.kind = 3 then (if M.at x.b < 0 ∨ x.i < 0 ∨ cntM (M.kd (M.at x.b)) (M.fs (M.at x.b)) ≤ x.i then M else ⟨M.os, M.mr.set x.a.toNat ((M.fs (M.at x.b))[x.i.toNat]?.getD ⟨0, -1⟩), M.pins⟩) else
  if x.kind = 4 then ⟨M.os, M.mr.set x.a.toNat ⟨0, -1⟩, M.pins⟩ else
  if x.kind = 6 then M.pin x 1 else if x.kind = 7 then M.pin x (-1) else M
theorem Ac.on {a b : Nat} (ha : a < 8) (hb : b < 8) (k i n w p0 p1 : Int) : ¬ Ac.off ⟨k, a, b, i, n, w, p0, p1⟩ := by unfold Ac.off; simp only; omega
theorem stepM_0 {M : Md} {x : Ac} {ok : Bool} (h : ¬ x.off) (hk : x.kind = 0) : stepM M x ok = if ok then ⟨M.os ++ [(x.n, List.replicate x.i.toNat ⟨emptyW x.n, -1⟩)], M.mr.set x.a.toNat ⟨0, M.os.length⟩, M.pins ++ [0]⟩ else M := by
  unfold stepM; rw [if_neg h, if_pos hk]
theorem stepM_1 {M : Md} {x : Ac} {ok : Bool} (h : ¬ x.off) (hk : x.kind = 1 ∨ x.kind = 2) : stepM M x ok = if M.at x.a < 0 ∨ x.i < 0 ∨ ((M.fs (M.at x.a)).length : Int) ≤ x.i then M else M.setFd x (M.fd x) := by
  unfold stepM; rw [if_neg h, if_neg (by omega), if_pos hk]
theorem stepM_3 {M : Md} {x : Ac} {ok : Bool} (h : ¬ x.off) (hk : x.kind = 3) : stepM M x ok = if M.at x.b < 0 ∨ x.i < 0 ∨ cntM (M.kd (M.at x.b)) (M.fs (M.at x.b)) ≤ x.i then M else ⟨M.os, M.mr.set x.a.toNat ((M.fs (M.at x.b))[x.i.toNat]?.getD ⟨0, -1⟩), M.pins⟩ := by
  unfold stepM; rw [if_neg h, if_neg (by omega), if_neg (by omega), if_pos hk]
theorem stepM_4 {M : Md} {x : Ac} {ok : Bool} (h : ¬ x.off) (hk : x.kind = 4) : stepM M x ok = ⟨M.os, M.mr.set x.a.toNat ⟨0, -1⟩, M.pins⟩ := by
  unfold stepM; rw [if_neg h, if_neg (by omega), if_neg (by omega), if_neg (by omega), if_pos hk]
theorem stepM_6 {M : Md} {x : Ac} {ok : Bool} (h : ¬ x.off) (hk : x.kind = 6) : stepM M x ok = M.pin x 1 := by
  unfold stepM; rw [if_neg h, if_neg (by omega), if_neg (by omega), if_neg (by omega), if_neg (by omega), if_pos hk]
theorem stepM_7 {M : Md} {x : Ac} {ok : Bool} (h : ¬ x.off) (hk : x.kind = 7) : stepM M x ok = M.pin x (-1) := by
  unfold stepM; rw [if_neg h, if_neg (by omega), if_neg (by omega), if_neg (by omega), if_neg (by omega), if_neg (by omega), if_pos hk]
theorem stepM_no {M : Md} {x : Ac} {ok : Bool} (hk : x.kind < 0 ∨ x.kind = 5 ∨ 7 < x.kind) : stepM M x ok = M := by
  unfold stepM; split
  · rfl
  · rw [if_neg (by omega), if_neg (by omega), if_neg (by omega), if_neg (by omega), if_neg (by omega), if_neg (by omega)]
/-- As many objects, so the same. -/
theorem stepM_eq (M : Md) (x : Ac) (o p : Bool) (h : (stepM M x o).os.length = (stepM M x p).os.length) : stepM M x o = stepM M x p := by
  unfold stepM at h ⊢
  split
  · rfl
  · rename_i h0
    rw [if_neg h0, if_neg h0] at h
    split
    · rename_i h1
      rw [if_pos h1, if_pos h1] at h
      cases o <;> cases p <;> simp at h ⊢
    · rfl
theorem stepM_len (M : Md) (x : Ac) (o : Bool) : (stepM M x o).os.length ≤ M.os.length + 1 := by
  unfold stepM Md.pin Md.setFd
  repeat' split
  all_goals simp
theorem md_at (S : Ys) (r : Nat) {k : Int} (h : k = (S.mr[r]?.getD ⟨0, -1⟩).k) : S.md.at (r : Int) = k := by
  unfold Md.at Ys.md; simp only [Int.toNat_natCast]; exact h.symm
theorem md_kd {S : Ys} {p : Nat} {x : Mo} (hx : S.objs[p]? = some x) : S.md.kd (p : Int) = x.kind ∧ S.md.fs (p : Int) = x.fs := by
  unfold Md.kd Md.fs Ys.md; simp [hx]
/-- What is behind a step. -/
def StepOk (w0 : World) (c : Yk) (ex : List RV) (m : Nat) (S : Ys) (x : Ac) (e : Ending) (w' : World) : Prop :=
  ∃ (ok : Bool) (A : Ar) (S' : Ys) (G K : List Bool) (D : Nat → Option Ob), e = .returned (.bool true) ∧ YAt w0 w' c A S' ex ∧ YI m A S' G K D ∧ S'.md = stepM S.md x ok
theorem yobject_c (hY : YAt w0 w c A S ex) (i : Nat) (hi : i < 8) : Calls Try.prog 91 #[.pointer (some ⟨c.y, 0, none⟩), .int .i64 (i : Int)] w fun e w' => e = .returned (.int .i64 (S.mr[i]?.getD ⟨0, -1⟩).k) ∧ w = w' := by
  obtain ⟨mg, mcap, hmv, hmc, _, hmk, _⟩ := hY.mrow
  have n8 := hY.n8.2
  obtain ⟨f, hf⟩ : ∃ f, S.mr[i]? = some f := ⟨S.mr[i], by rw [List.getElem?_eq_getElem]⟩
  obtain ⟨_, k1⟩ := hmk i f hf
  have y3 := hY.y3
  rw [hmv] at y3
  rw [hf]
  clear hmk hmv hf hY
  go_enter Try.func91, Try.ntmps91
  go_wp2
  go_ret
  exact ⟨rfl, rfl⟩
theorem yobject_k (hY : YAt w0 w c A S ex) (i : Nat) (hi : i < 8) (k : Int) (hk : k = (S.mr[i]?.getD ⟨0, -1⟩).k) : Calls Try.prog 91 #[.pointer (some ⟨c.y, 0, none⟩), .int .i64 (i : Int)] w fun e w' => e = .returned (.int .i64 k) ∧ w = w' := by
  rw [hk]; exact yobject_c hY i hi
theorem ysmall_c (w : World) (x : Int) (h0 : 0 ≤ x) (h1 : x < 18446744073709551616) : Calls Try.prog 92 #[.int .u64 x] w fun e w' => e = .returned (.int .u64 (smallW x)) ∧ w = w' := by
  unfold smallW
  by_cases h : x % 8 = 1
  · rw [if_pos h]
    go_enter Try.func92, Try.ntmps92
    go_wp2
    go_ret
    exact ⟨rfl, rfl⟩
  · rw [if_neg h]
    go_enter Try.func92, Try.ntmps92
    go_wp2
    go_ret
    exact ⟨rfl, rfl⟩
theorem smallW_w {x : Int} (h : Wd64 x) : Wd64 (smallW x) ∧ smallW x % 8 ≠ 1 := by unfold smallW Wd64 at *; split <;> omega
theorem YAt.lt_all {ex : List RV} (h : YAt w0 w c A S ex) : c.y < w.heap.size ∧ S.rb < w.heap.size ∧ (∀ x, S.mv.ownBlock = some x → x < w.heap.size) ∧ (∀ x, S.ov.ownBlock = some x → x < w.heap.size) ∧ ∀ x, S.pv.ownBlock = some x → x < w.heap.size :=
  ⟨lt_size h.yc, (own_lt' (h.rows.at (rowsY_r S ex)) _ rfl).2, fun x hx => (own_lt' (h.rows.at (rowsY_m S ex)) x hx).2, fun x hx => (own_lt' (h.rows.at (rowsY_o S ex)) x hx).2, fun x hx => (own_lt' (h.rows.at (rowsY_p S ex)) x hx).2⟩
theorem YAt.ny {ex : List RV} (h : YAt w0 w c A S ex) : c.y ≠ S.rb ∧ (∀ x, S.mv.ownBlock = some x → c.y ≠ x) ∧ (∀ x, S.ov.ownBlock = some x → c.y ≠ x) ∧ ∀ x, S.pv.ownBlock = some x → c.y ≠ x := by
  have hm : c.y ∈ c.all := by simp [Yk.all]
  have key : ∀ r, r ∈ rowsY S ex → ∀ x, r.v.ownBlock = some x → c.y ≠ x := fun r hr x hx he => h.far r hr x hx (he ▸ hm)
  exact ⟨key _ (List.mem_of_getElem? (rowsY_r S ex)) _ rfl, key _ (List.mem_of_getElem? (rowsY_m S ex)), key _ (List.mem_of_getElem? (rowsY_o S ex)), key _ (List.mem_of_getElem? (rowsY_p S ex))⟩
theorem YAt.dis {ex : List RV} (h : YAt w0 w c A S ex) {i j : Nat} {r s : RV} (hr : (rowsY S ex)[i]? = some r) (hs : (rowsY S ex)[j]? = some s) (hij : i ≠ j) {v u : Value} (hv : v = r.v) (hu : u = s.v) {x y : Nat} (hx : v.ownBlock = some x) (hy : u.ownBlock = some y) : x ≠ y :=
  fun he => h.rows.ne i j r s x hij hr hs (hv ▸ hx) (he ▸ hu ▸ hy)
theorem YAt.all_lt {ex : List RV} (h : YAt w0 w c A S ex) : ∀ x, x ∈ c.all → x < w.heap.size := by
  intro x hx
  simp only [Yk.all, List.mem_cons, List.not_mem_nil, or_false] at hx
  rcases hx with rfl | rfl | rfl | rfl | rfl
  · exact lt_size h.yc
  · exact lt_size h.he.p
  · exact lt_size h.he.ar.hb
  · exact lt_size h.he.ar.hw
  · exact lt_size h.he.ar.hl
theorem Yk.three {c : Yk} {x : Nat} (h : x ∉ c.all) : x ∉ [c.b, c.wb, c.lb] := fun hm => h (by
  simp only [Yk.all, List.mem_cons, List.not_mem_nil, or_false] at hm ⊢
  rcases hm with h | h | h <;> simp [h])
theorem YAt.nall {ex : List RV} (h : YAt w0 w c A S ex) {i : Nat} {r : RV} (hr : (rowsY S ex)[i]? = some r) {v : Value} (hv : v = r.v) {x : Nat} (hx : v.ownBlock = some x) : x ∉ [c.b, c.wb, c.lb] :=
  Yk.three (h.far r (List.mem_of_getElem? hr) x (hv ▸ hx))
theorem Fr.pre {L : List Nat} {a b d : World} (h : Fr [] a b) (k : Fr L b d) : Fr L a d := (h.mono (by simp)).trans k fun _ hx => .inl hx
theorem YAt.nfd {ex : List RV} (h : YAt w0 w c A S ex) {j : Nat} {o : Mo} (ho : S.objs[j]? = some o) {x : Nat} (hx : o.v.ownBlock = some x) : x < w.heap.size ∧ c.y ≠ x ∧ w0.heap.size ≤ x := by
  have h1 := own_lt' (h.rows.at (rowsY_f ex ho)) x hx
  exact ⟨h1.2, fun he => h.far _ (List.mem_of_getElem? (rowsY_f ex ho)) x hx (he ▸ (by simp [Yk.all])), h1.1⟩
theorem YAt.mfz {ex : List RV} (h : YAt w0 w c A S ex) {mg mcap : Nat} (hv : S.mv = .slice (some ⟨mg, 0, none⟩) 8 mcap) : 8 ≤ mcap ∧ (∀ i, w.frozen? ⟨mg, i, none⟩ = false) ∧ ∀ (i : Nat) (f : Fd), S.mr[i]? = some f → w.cell? ⟨mg, i * 2, none⟩ = some (.int .u64 f.w) ∧ w.cell? ⟨mg, i * 2 + 1, none⟩ = some (.int .i64 f.k) := by
  obtain ⟨g', cap', hv', h8, _, mk, mf⟩ := h.mrow
  rw [hv] at hv'
  simp only [Value.slice.injEq, Option.some.injEq, Addr.mk.injEq, true_and, and_true] at hv'
  obtain ⟨rfl, rfl⟩ := hv'
  exact ⟨h8, mf, mk⟩
theorem YAt.ofz {ex : List RV} (h : YAt w0 w c A S ex) {og n ocap : Nat} (hv : S.ov = .slice (some ⟨og, 0, none⟩) n ocap) (hn : n = S.objs.length) (h0 : 0 < n) : n ≤ ocap ∧ (∀ i, w.frozen? ⟨og, i, none⟩ = false) ∧ ∀ (i : Nat) (f : Mo), S.objs[i]? = some f → w.cell? ⟨og, i * 2, none⟩ = some (.int .i64 f.kind) ∧ w.cell? ⟨og, i * 2 + 1, none⟩ = some f.v := by
  obtain ⟨g', cap', hv', h8, _, mk, mf⟩ := h.orow (by omega)
  rw [hv] at hv'
  simp only [Value.slice.injEq, Option.some.injEq, Addr.mk.injEq, true_and, and_true] at hv'
  obtain ⟨rfl, rfl, rfl⟩ := hv'
  exact ⟨h8, mf, mk⟩
theorem YAt.pfz {ex : List RV} (h : YAt w0 w c A S ex) {pg n pcap : Nat} (hv : S.pv = .slice (some ⟨pg, 0, none⟩) n pcap) (hn : n = S.pins.length) (h0 : 0 < n) : n ≤ pcap ∧ (∀ i, w.frozen? ⟨pg, i, none⟩ = false) ∧ ∀ (i : Nat) (p : Int), S.pins[i]? = some p → w.cell? ⟨pg, i, none⟩ = some (.int .i64 p) := by
  obtain ⟨g', cap', hv', h8, _, mk, mf⟩ := h.prow (by omega)
  rw [hv] at hv'
  simp only [Value.slice.injEq, Option.some.injEq, Addr.mk.injEq, true_and, and_true] at hv'
  obtain ⟨rfl, rfl, rfl⟩ := hv'
  exact ⟨h8, mf, mk⟩
theorem YAt.ffz {ex : List RV} (h : YAt w0 w c A S ex) {j : Nat} {o : Mo} (ho : S.objs[j]? = some o) {fg n fcap : Nat} (hv : o.v = .slice (some ⟨fg, 0, none⟩) n fcap) (hn : n = o.fs.length) (h0 : 0 < n) : n ≤ fcap ∧ (∀ i, w.frozen? ⟨fg, i, none⟩ = false) ∧ ∀ (i : Nat) (f : Fd), o.fs[i]? = some f → w.cell? ⟨fg, i * 2, none⟩ = some (.int .u64 f.w) ∧ w.cell? ⟨fg, i * 2 + 1, none⟩ = some (.int .i64 f.k) := by
  obtain ⟨g', cap', hv', h8, _, mk, mf⟩ := h.frow ho (by omega)
  rw [hv] at hv'
  simp only [Value.slice.injEq, Option.some.injEq, Addr.mk.injEq, true_and, and_true] at hv'
  obtain ⟨rfl, rfl, rfl⟩ := hv'
  exact ⟨h8, mf, mk⟩
/-- Behind the second field of a stack: so many fields are nothing. -/
structure LS (w0 w : World) (c : Yk) (ex : List RV) (A : Ar) (m : Nat) (G K : List Bool) (D : Nat → Option Ob) (S : Ys) (p : Nat) (x : Mo) (o : Ob) (f : Fd) (v : Int) (k : Nat) (ys : List Int) (gs : List Fd) : Prop where
  y : YAt w0 w c A { S with objs := S.objs.set p { x with fs := gs } } ex
  hg : HG A m G K (updD D p { o with fs := ys })
  un : Unmarked A m
  yl : ys.length = o.fs.length
  gl : gs.length = x.fs.length
  y0 : ys[0]? = o.fs[0]?
  g0 : gs[0]? = x.fs[0]?
  y1 : ys[1]? = some v
  g1 : gs[1]? = some f
  z : ∀ i : Nat, 2 ≤ i → i < k → ys[i]? = some 0 ∧ gs[i]? = some ⟨0, -1⟩
section LSs
variable {p k : Nat} {x : Mo} {o : Ob} {f : Fd} {v : Int} {ys : List Int} {gs : List Fd} {w' : World}
theorem LS.start (hy : YAt w0 w c A { S with objs := S.objs.set p { x with fs := x.fs.set 1 f } } ex) (hg : HG A m G K (updD D p { o with fs := o.fs.set 1 v })) (un : Unmarked A m) (h2 : 2 ≤ x.fs.length) (hl : x.fs.length = o.fs.length) :
    LS w0 w c ex A m G K D S p x o f v 2 (o.fs.set 1 v) (x.fs.set 1 f) :=
  ⟨hy, hg, un, by simp, by simp, by rw [List.getElem?_set_ne (by omega)], by rw [List.getElem?_set_ne (by omega)], List.getElem?_set_self (by omega), List.getElem?_set_self (by omega), fun i a b => by omega⟩
theorem LS.keep (h : LS w0 w c ex A m G K D S p x o f v k ys gs) (hF : Fr [] w w') : LS w0 w' c ex A m G K D S p x o f v k ys gs := { h with y := h.y.keep hF }
theorem LS.set (h : LS w0 w c ex A m G K D S p x o f v k ys gs) (hj : D p = some o) (hl : x.fs.length = o.fs.length) (hk : k < x.fs.length) : (setF A m (pw o.a) (k : Int) 0).2 = 0 :=
  (h.hg.setS (updD_self _ _ _) k (by simp only; rw [h.yl]; omega) (v := 0) (by omega) (by omega)).1
theorem LS.next (h : LS w0 w c ex A m G K D S p x o f v k ys gs) (hl : x.fs.length = o.fs.length) (h2 : 2 ≤ k) (hk : k < x.fs.length) (hy : YAt w0 w' c (setF A m (pw o.a) (k : Int) 0).1 { S with objs := S.objs.set p { x with fs := gs.set k ⟨0, -1⟩ } } ex) :
    LS w0 w' c ex (setF A m (pw o.a) (k : Int) 0).1 m G K D S p x o f v (k + 1) (ys.set k 0) (gs.set k ⟨0, -1⟩) := by
  have hyl := h.yl
  have hgl := h.gl
  have hg := (h.hg.setS (updD_self _ _ _) k (by simp only; omega) (v := 0) (by omega) (by omega)).2
  have e : updD (updD D p { o with fs := ys }) p { o with fs := ys.set k 0 } = updD D p { o with fs := ys.set k 0 } := by
    funext i; unfold updD; split <;> rfl
  simp only at hg
  rw [e] at hg
  refine ⟨hy, hg, h.un.set _ _ _, by simpa using hyl, by simpa using hgl, by rw [List.getElem?_set_ne (by omega)]; exact h.y0, by rw [List.getElem?_set_ne (by omega)]; exact h.g0, by rw [List.getElem?_set_ne (by omega)]; exact h.y1, by rw [List.getElem?_set_ne (by omega)]; exact h.g1, ?_⟩
  intro i a b
  by_cases hi : i = k
  · subst hi
    exact ⟨List.getElem?_set_self (by omega), List.getElem?_set_self (by omega)⟩
  · rw [List.getElem?_set_ne (Ne.symm hi), List.getElem?_set_ne (Ne.symm hi)]
    exact h.z i a (by omega)
theorem zero2_of {gs xs : List Fd} (h2 : 2 ≤ xs.length) (hl : gs.length = xs.length) (g0 : gs[0]? = xs[0]?) (g1 : gs[1]? = xs[1]?) (gz : ∀ i : Nat, 2 ≤ i → i < gs.length → gs[i]? = some ⟨0, -1⟩) : gs = zero2 xs := by
  apply List.ext_getElem?
  intro i
  unfold zero2
  by_cases hi : i < 2
  · rw [List.getElem?_append_left (by rw [List.length_take]; omega), List.getElem?_take, if_pos hi]
    match i, hi with
    | 0, _ => exact g0
    | 1, _ => exact g1
  · by_cases hig : i < gs.length
    · rw [gz i (by omega) hig, List.getElem?_append_right (by rw [List.length_take]; omega), List.length_take, List.getElem?_replicate, if_pos (by omega)]
    · rw [List.getElem?_eq_none (by omega), List.getElem?_eq_none (by rw [List.length_append, List.length_take, List.length_replicate]; omega)]
theorem LS.fin (h : LS w0 w c ex A m G K D S p x o f v x.fs.length ys gs) (hI : YI m A' S G K D) (hj : D p = some o) (hx : S.objs[p]? = some x) (h15 : x.kind = 15) (h2 : 2 ≤ x.fs.length) (hl : x.fs.length = o.fs.length) (hf : Fw D f v) (hw : Wd64 f.w) :
    YI m A { S with objs := S.objs.set p { x with fs := gs } } G K (updD D p { o with fs := ys }) ∧ gs = zero2 (x.fs.set 1 f) := by
  have hgl := h.gl
  have hyl := h.yl
  refine ⟨hI.setS hj hx h15 h2 hf hw h.yl h.gl h.y0 h.g0 h.y1 h.g1 (fun i a b => h.z i a (by omega)) h.hg h.un, ?_⟩
  refine zero2_of (by simpa using h2) (by simpa using h.gl) ?_ ?_ (fun i a b => (h.z i a (by omega)).2)
  · rw [List.getElem?_set_ne (by omega)]; exact h.g0
  · rw [List.getElem?_set_self (by omega)]; exact h.g1
end LSs
set_option maxRecDepth 100000 in
/-- Nothing is done: a root that is none. -/
theorem step_off (hY : YAt w0 w c A S ex) (hI : YI m A S G K D) (x : Ac) (hx : x.off) : Calls Try.prog 40 #[.pointer (some ⟨c.y, 0, none⟩), x.v] w (StepOk w0 c ex m S x) := by
  have HM : Hid (S.md = stepM S.md x true) := Lib.hid (by unfold stepM; rw [if_pos hx])
  have HF := Lib.hid (fun w' (hF : Fr [] w w') => hY.keep hF)
  have HI := Lib.hid hI
  have fin : Hid (∀ w', Fr [] w w' → StepOk w0 c ex m S x (.returned (.bool true)) w') := Lib.hid (fun w' hF => ⟨true, A, S, G, K, D, rfl, HF.out w' hF, HI.out, HM.out⟩)
  clear hY hI HM HF HI
  unfold Ac.v
  unfold Ac.off at hx
  by_cases h1 : x.a < 0
  · clear hx
    go_enter Try.func40, Try.ntmps40
    go_wp2
    go_ret
    refine fin.out _ ?_
    repeat (first | exact Fr.refl _ _ | apply Fr.alloc | apply Fr.drew)
  by_cases h2 : 7 < x.a
  · clear hx
    go_enter Try.func40, Try.ntmps40
    go_wp2
    go_ret
    refine fin.out _ ?_
    repeat (first | exact Fr.refl _ _ | apply Fr.alloc | apply Fr.drew)
  by_cases h3 : x.b < 0
  · clear hx
    go_enter Try.func40, Try.ntmps40
    go_wp2
    go_ret
    refine fin.out _ ?_
    repeat (first | exact Fr.refl _ _ | apply Fr.alloc | apply Fr.drew)
  · have h4 : 7 < x.b := by omega
    clear hx
    go_enter Try.func40, Try.ntmps40
    go_wp2
    go_ret
    refine fin.out _ ?_
    repeat (first | exact Fr.refl _ _ | apply Fr.alloc | apply Fr.drew)
end Go.Proofs.Ytjgndfhfiekomaa
