import Derived.Test.YtjgndfhfiekomaaZK
import Derived.Test.YtjgndfhfiekomaaColY
import Derived.Test.YtjgndfhfiekomaaYF
import Derived.Deep.AppendLies
import Derived.Deep.DeepCutAuto
import Derived.Deep.RegionHeld3
import Derived.Test.YtjgndfhfiekomaaArgs
/- A collection of the law's world: its roots in memory, before and after. -/
set_option linter.all false
namespace Go.Proofs.Ytjgndfhfiekomaa
open Go.ChangeShapes Go.WideShapes Go.RowKit
variable {w0 w w' : World} {c : Yk} {A A' : Ar} {S : Ys} {ex : List RV} {m : Nat} {G K : List Bool} {D C : Nat → Option Ob} {ms : List Nat} {cl : Int → Int} {T : Tr}
theorem YAt.ran (h : YAt w0 w c A S ex) {R : List Int} {arr : Array Value} (hH : HeAt w' c.hb c.b c.wb c.lb A') (hF : Fr [c.b, c.wb, c.lb, S.rb] w w') (hb : blk w' S.rb = some (.cells arr 37 (0, 0))) (hs : arr.size = 8) (hR : R.length = 8)
    (ha : ∀ j : Nat, j < 8 → arr[j]? = some (.int .u64 (R[j]?.getD 0))) : YAt w0 w' c A' { S with roots := R } ex := by
  have hg := own_lt' (h.rows.at (rowsY_r S ex)) S.rb rfl
  have hy := h.yne.1
  have hn := h.ny.1
  simp only [List.mem_cons, List.not_mem_nil, or_false, not_or] at hy
  refine ⟨hH, hF.at h.yc (by simp only [List.mem_cons, List.not_mem_nil, or_false, not_or]; exact ⟨hy.1, hy.2.1, hy.2.2, hn⟩), ?_, ?_, h.ap, h.lo, ⟨hR, h.n8.2⟩, ?_⟩
  · have e : rowsY { S with roots := R } ex = (rowsY S ex).set 0 (rRow { S with roots := R }) := rfl
    rw [e]
    refine h.rows.grow (rowsY_r S ex) hF (fun x hx => ?_) ?_ (.inl rfl)
    · simp only [List.mem_cons, List.not_mem_nil, or_false] at hx
      have key : x ∈ c.all → ∀ s, s ∈ rowsY S ex → s.v.ownBlock ≠ some x := fun hm s hs he => h.far s hs x he hm
      rcases hx with hx | hx | hx | hx
      · exact .inr (key (by simp [Yk.all, hx]))
      · exact .inr (key (by simp [Yk.all, hx]))
      · exact .inr (key (by simp [Yk.all, hx]))
      · exact .inl (by rw [hx]; rfl)
    · refine own_mk hb hg.1 (Nat.le_refl _) (by unfold maxLen; omega) (by show arr.size = 8 * 1; omega) ?_
      show arr.toList.take (8 * 1) = R.map (.int .u64)
      apply List.ext_getElem?
      intro j
      rw [List.getElem?_take]
      split
      · rename_i hj
        have h1 := ha j (by omega)
        simp only [List.getElem?_map, Array.getElem?_toList]
        rw [h1, List.getElem?_eq_getElem (by omega : j < R.length)]
        rfl
      · rename_i hj
        rw [List.getElem?_eq_none (by simp; omega)]
  · intro r hr x hx
    have e : rowsY { S with roots := R } ex = (rowsY S ex).set 0 (rRow { S with roots := R }) := rfl
    rw [e] at hr
    rcases List.mem_or_eq_of_mem_set hr with hr | hr
    · exact h.far r hr x hx
    · subst hr
      exact h.far _ (List.mem_of_getElem? (rowsY_r S ex)) x hx
  · refine h.fr.trans hF (fun x hx => .inr ?_)
    simp only [List.mem_cons, List.not_mem_nil, or_false] at hx
    rcases hx with hx | hx | hx | hx
    · exact h.lo x (by simp [Yk.all, hx])
    · exact h.lo x (by simp [Yk.all, hx])
    · exact h.lo x (by simp [Yk.all, hx])
    · rw [hx]; exact hg.1
theorem YAt.rblk (h : YAt w0 w c A S ex) : ∃ arr, blk w S.rb = some (.cells arr 37 (0, 0)) ∧ arr.size = 8 ∧ ∀ j : Nat, j < 8 → arr[j]? = some (.int .u64 (S.roots[j]?.getD 0)) := by
  obtain ⟨cur, h1, _, _, _, h5, h6, _⟩ := own_blk (h.rows.at (rowsY_r S ex))
  refine ⟨cur, h1, by have h : cur.size = 8 * 1 := h5; omega, fun j hj => ?_⟩
  have n8 := h.n8.1
  have h6' : cur.toList.take (8 * 1) = S.roots.map (.int .u64) := h6
  have := congrArg (fun l => l[j]?) h6'
  simp only [List.getElem?_take, List.getElem?_map] at this
  rw [if_pos (by omega), List.getElem?_eq_getElem (by omega : j < S.roots.length), Array.getElem?_toList] at this
  rw [this, List.getElem?_eq_getElem (by omega : j < S.roots.length)]
  rfl
/-- The first three, and the rest. -/
def rw3 (rb : Nat) (l : List Int) : List Rw := [⟨rb, 8, 0, 8, some ⟨rb, 0, none⟩, l.take 3⟩, ⟨rb, 8, 3, 5, some ⟨rb, 3, none⟩, l.drop 3⟩]
def rw1 (rb : Nat) (l : List Int) : List Rw := [⟨rb, 8, 0, 8, some ⟨rb, 0, none⟩, l⟩]
theorem two_cases {α : Type} {P : Nat → α → Prop} {a b : α} (h0 : P 0 a) (h1 : P 1 b) : ∀ (i : Nat) (r : α), [a, b][i]? = some r → P i r := by
  intro i r hr
  match i with
  | 0 => simp only [List.getElem?_cons_zero, Option.some.injEq] at hr; subst hr; exact h0
  | 1 => simp only [List.getElem?_cons_succ, List.getElem?_cons_zero, Option.some.injEq] at hr; subst hr; exact h1
  | i + 2 => simp at hr
theorem rw3_in {rb : Nat} {l : List Int} {arr : Array Value} (hl : l.length = 8) (hb : blk w rb = some (.cells arr 37 (0, 0))) (hs : arr.size = 8) (ha : ∀ j : Nat, j < 8 → arr[j]? = some (.int .u64 (l[j]?.getD 0))) : RowsIn w (rw3 rb l) [l.take 3, l.drop 3] := by
  refine ⟨rfl, ?_⟩
  have key := two_cases (P := fun i r => ∀ q : List Int, [l.take 3, l.drop 3][i]? = some q → RowIn w r q) (a := (⟨rb, 8, 0, 8, some ⟨rb, 0, none⟩, l.take 3⟩ : Rw)) (b := (⟨rb, 8, 3, 5, some ⟨rb, 3, none⟩, l.drop 3⟩ : Rw)) ?_ ?_
  · intro i r q hr hq
    exact key i r hr q hq
  · intro q hq
    simp only [List.getElem?_cons_zero, Option.some.injEq] at hq
    subst hq
    refine ⟨rfl, .inr ⟨rfl, arr, hb, hs, fun j hj => ?_⟩⟩
    rw [List.length_take] at hj
    simp only [Nat.zero_add, List.getElem?_take]
    rw [if_pos (by omega)]
    exact ha j (by omega)
  · intro q hq
    simp only [List.getElem?_cons_succ, List.getElem?_cons_zero, Option.some.injEq] at hq
    subst hq
    refine ⟨rfl, .inr ⟨rfl, arr, hb, hs, fun j hj => ?_⟩⟩
    rw [List.length_drop] at hj
    simp only [List.getElem?_drop]
    exact ha (3 + j) (by omega)
theorem rw3_arg {hb b wb lb rb g2 : Nat} {l : List Int} (hl : l.length = 8) (h : blk w g2 = some (.cells #[.slice (some ⟨rb, 0, none⟩) 3 8, .slice (some ⟨rb, 3, none⟩) 5 5] 26 (0, 0))) (hg : rb < w.heap.size) (hne : g2 ≠ rb) (h1 : rb ∉ [hb, b, wb, lb]) (h2 : g2 ∉ [hb, b, wb, lb]) :
    RowsArg w hb b wb lb (.slice (some ⟨g2, 0, none⟩) 2 2) (rw3 rb l) := by
  have hm : ∀ r, r ∈ rw3 rb l → r.g = rb ∧ r.l.length ≤ 8 := by
    intro r hr
    simp only [rw3, List.mem_cons, List.not_mem_nil, or_false] at hr
    rcases hr with rfl | rfl
    · exact ⟨rfl, by simp only [List.length_take]; omega⟩
    · exact ⟨rfl, by simp only [List.length_drop]; omega⟩
  refine ⟨⟨_, 2, rfl⟩, ?_, fun r hr => by rw [(hm r hr).1]; exact ⟨hg, h1⟩, ?_, by simp [rw3], fun r hr => by have := (hm r hr).2; omega⟩
  · refine two_cases ?_ ?_
    · refine ⟨g2, 0, 2, rfl, ?_, h2, by simp [rw3, hne]⟩
      have := cell_of h (i := 0) rfl
      simp only [Rw.v, List.length_take, hl]
      exact this
    · refine ⟨g2, 0, 2, rfl, ?_, h2, by simp [rw3, hne]⟩
      have := cell_of h (i := 1) rfl
      simp only [Rw.v, List.length_drop, hl]
      exact this
  · intro i j r s hij hr hs
    match i, j with
    | 0, 0 => exact absurd rfl hij
    | 0, 1 =>
      simp only [rw3, List.getElem?_cons_zero, List.getElem?_cons_succ, Option.some.injEq] at hr hs
      subst hr hs
      right; right; right; left
      simp only [List.length_take]; omega
    | 1, 0 =>
      simp only [rw3, List.getElem?_cons_zero, List.getElem?_cons_succ, Option.some.injEq] at hr hs
      subst hr hs
      right; right; right; right
      simp only [List.length_take]; omega
    | 1, 1 => exact absurd rfl hij
    | i + 2, _ => simp [rw3] at hr
    | 0, j + 2 => simp [rw3] at hs
    | 1, j + 2 => simp [rw3] at hs
/-- What the roots are, behind. -/
theorem ran_two {rb : Nat} {l : List Int} {ls' : List (List Int)} (AF : After D m cl [l.take 3, l.drop 3] ls' T G K C ms) (hl : l.length = 8) (hR : RowsIn w' (rw3 rb l) ls') :
    ∃ (R : List Int) (arr : Array Value), R.length = 8 ∧ blk w' rb = some (.cells arr 37 (0, 0)) ∧ arr.size = 8 ∧ (∀ j : Nat, j < 8 → arr[j]? = some (.int .u64 (R[j]?.getD 0))) ∧ ∀ j : Nat, j < 8 → Tx D C ms (l[j]?.getD 0) (R[j]?.getD 0) := by
  have hrl := AF.rl
  obtain ⟨l0, l1, rfl⟩ : ∃ a b, ls' = [a, b] := by
    match ls', hrl with
    | [a, b], _ => exact ⟨a, b, rfl⟩
  have t0 := AF.rt 0 (by simp)
  have t1 := AF.rt 1 (by simp)
  simp only [List.getElem?_cons_zero, List.getElem?_cons_succ, Option.getD_some] at t0 t1
  obtain ⟨t0l, t0⟩ := t0
  obtain ⟨t1l, t1⟩ := t1
  rw [List.length_take, hl] at t0l t0
  rw [List.length_drop, hl] at t1l t1
  simp only [show min 3 8 = 3 from rfl, show 8 - 3 = 5 from rfl] at t0l t0 t1l t1
  have r0 := hR.2 0 _ l0 rfl rfl
  have r1 := hR.2 1 _ l1 rfl rfl
  obtain ⟨_, r0⟩ := r0
  obtain ⟨_, r1⟩ := r1
  have n0 : ¬ l.take 3 = [] := fun h => by have := congrArg List.length h; simp [hl] at this
  have n1 : ¬ l.drop 3 = [] := fun h => by have := congrArg List.length h; simp [hl] at this
  obtain ⟨_, arr, b0, s0, a0⟩ := r0.resolve_left n0
  obtain ⟨_, arr', b1, s1, a1⟩ := r1.resolve_left n1
  simp only at b0 b1 s0 s1 a0 a1
  have : arr' = arr := by rw [b0] at b1; simp only [Option.some.injEq, Obj.cells.injEq] at b1; exact b1.1.symm
  subst this
  refine ⟨l0 ++ l1, arr', by simp [t0l, t1l], b0, s0, fun j hj => ?_, fun j hj => ?_⟩
  · by_cases h3 : j < 3
    · rw [List.getElem?_append_left (by omega)]
      have := a0 j (by omega)
      rwa [Nat.zero_add] at this
    · rw [List.getElem?_append_right (by omega), t0l]
      have := a1 (j - 3) (by omega)
      rwa [show 3 + (j - 3) = j by omega] at this
  · by_cases h3 : j < 3
    · rw [List.getElem?_append_left (by omega)]
      have := t0 j h3
      rwa [List.getElem?_take, if_pos h3] at this
    · rw [List.getElem?_append_right (by omega), t0l]
      have := t1 (j - 3) (by omega)
      rwa [List.getElem?_drop, show 3 + (j - 3) = j by omega] at this
end Go.Proofs.Ytjgndfhfiekomaa
/- The law's world is made: nothing is in it. -/
namespace Go.Proofs.Ytjgndfhfiekomaa
open Go.ChangeShapes Go.WideShapes Go.RowKit
variable {w w' : World} {m : Nat}
/-- What there is ahead of the model's roots. -/
structure Made0 (w : World) (m : Nat) (c : Yk) (rb : Nat) (v : Value) (wx : World) : Prop where
  he : HeAt wx c.hb c.b c.wb c.lb (Ar.new m)
  rk : blk wx rb = some (.cells (wordCells (zeros 8)) 37 (0, 0))
  yc : blk wx c.y = some (.cells #[.pointer (some ⟨c.hb, 0, none⟩), .slice (some ⟨rb, 0, none⟩) 8 8, .slice none 0 0, v, .slice none 0 0] 90 (0, 0))
  ap : c.all.Nodup
  ra : rb ∉ c.all
  lo : (∀ x, x ∈ c.all → w.heap.size ≤ x) ∧ w.heap.size ≤ rb
  fr : Fr [] w wx
def MadeCut (w : World) (m : Nat) (s3 : Value) (wx : World) : Prop := ∃ (c : Yk) (rb : Nat), s3 = .pointer (some ⟨c.y, 0, none⟩) ∧ Made0 w m c rb (.slice none 0 0) wx
theorem made_fin {wz w1 wx : World} {hb b wb lb rb y : Nat} (Fz : Fr [] w wz) (H1 : HeAt w1 hb b wb lb (Ar.new m)) (F1 : Fr [] wz w1) (q0 : wz.heap.size ≤ hb) (q1 : wz.heap.size ≤ b) (q2 : wz.heap.size ≤ wb) (q3 : wz.heap.size ≤ lb) (F2 : Fr [] w1 wx)
    (hrb : blk wx rb = some (.cells (wordCells (zeros 8)) 37 (0, 0))) (hrn : rb < wz.heap.size ∨ w1.heap.size ≤ rb) (hrl : w.heap.size ≤ rb) (hry : rb ≠ y) (hy : w1.heap.size ≤ y)
    (hyc : blk wx y = some (.cells #[.pointer (some ⟨hb, 0, none⟩), .slice (some ⟨rb, 0, none⟩) 8 8, .slice none 0 0, .slice none 0 0, .slice none 0 0] 90 (0, 0))) : MadeCut w m (.pointer (some ⟨y, 0, none⟩)) wx := by
  have z := Fz.size
  have l0 := lt_size H1.p
  have l1 := lt_size H1.ar.hb
  have l2 := lt_size H1.ar.hw
  have l3 := lt_size H1.ar.hl
  refine ⟨⟨y, hb, b, wb, lb⟩, rb, rfl, H1.keep F2, hrb, hyc, ?_, ?_, ⟨?_, hrl⟩, (Fz.same F1).same F2⟩
  · have a1 := H1.n1
    have a2 := H1.n2
    have a3 := H1.n3
    have a4 := H1.ar.n1
    have a5 := H1.ar.n2
    have a6 := H1.ar.n3
    simp only [Yk.all, List.nodup_cons, List.mem_cons, List.not_mem_nil, or_false, not_or, not_false_eq_true, List.nodup_nil, and_true]
    omega
  · simp only [Yk.all, List.mem_cons, List.not_mem_nil, or_false, not_or]
    omega
  · intro x hx
    simp only [Yk.all, List.mem_cons, List.not_mem_nil, or_false] at hx
    omega
theorem b2a (w : World) (o p : Obj) : blk ((w.alloc o).alloc p) w.heap.size = some o := by rw [blk_alloc, if_neg (by rw [size_alloc]; omega), blk_alloc, if_pos rfl]
theorem b2b (w : World) (o p : Obj) : blk ((w.alloc o).alloc p) (w.heap.size + 1) = some p := by rw [blk_alloc, if_pos (by rw [size_alloc])]
theorem b1a (w : World) (o : Obj) : blk (w.alloc o) w.heap.size = some o := by rw [blk_alloc, if_pos rfl]
/-- The world in which nothing is. -/
def Y0 (rb : Nat) (mv : Value) : Ys := ⟨zeros 8, rb, [], .slice none 0 0, List.replicate 8 ⟨0, -1⟩, mv, [], .slice none 0 0⟩
theorem y0_paper (rb : Nat) (mv : Value) (h1 : 1 ≤ m) (h2 : m ≤ 4096) : ∃ G K D, YI m (Ar.new m) (Y0 rb mv) G K D := by
  refine ⟨_, _, _, HG.start h1 h2, Unmarked.start m, fun j o h => by simp at h, rfl, ⟨rfl, rfl⟩, fun j o h => by simp at h, ?_, ⟨by simp [Y0], by simp [Y0], ?_, fun x hx => by simp [Y0] at hx⟩, ?_, fun p hp => by simp [Y0] at hp⟩
  · intro i hi
    have hz : (Y0 rb mv).roots[i]?.getD 0 = 0 := by
      show (List.replicate 8 (0 : Int))[i]?.getD 0 = 0
      rw [List.getElem?_replicate, if_pos hi]; rfl
    refine ⟨⟨0, -1⟩, ?_, .inl ⟨rfl, hz, by rw [hz]; decide⟩⟩
    show (List.replicate 8 (⟨0, -1⟩ : Fd))[i]? = _
    rw [List.getElem?_replicate, if_pos hi]
  · intro f hf
    simp only [Y0, List.mem_replicate] at hf
    rw [hf.2]; simp [Y0]
  · intro f hf
    simp only [Y0, List.mem_replicate] at hf
    rw [hf.2]; simp [Wd64]
def MadeOk (w : World) (m : Nat) (e : Ending) (w' : World) : Prop := ∃ (c : Yk) (rb : Nat) (mv : Value), e = .returned (.pointer (some ⟨c.y, 0, none⟩)) ∧ YAt w w' c (Ar.new m) (Y0 rb mv) []
theorem info_fd : (Try.prog.info? 139).map (fun i => (i.zero, i.size, i.bytes)) = some (some (.agg #[.int .u64 0, .int .i64 0]), 2, 16) := by kernel_rfl
theorem farY {w w2 w1 : World} {row : Option Nat} {pb : Nat} (hg : w2.grownBy w1 row) (hF : Fr [] w w2) (hl : pb < w.heap.size) (hne : row ≠ some pb) {o : Obj} (h : blk w pb = some o) : blk w1 pb = some o :=
  ((hg.block pb (Nat.lt_of_lt_of_le hl hF.size) (fun h => hne h.symm)).trans (hF.block pb hl (by simp))).trans h
def nos (k : Nat) : List Fd := List.replicate k ⟨0, -1⟩
theorem nos_app (k : Nat) : fdCells (nos k) ++ [.int .u64 0, .int .i64 (-1)] = fdCells (nos (k + 1)) := by
  unfold nos
  rw [List.replicate_succ', fd_app]
theorem made_y {c : Yk} {rb B : Nat} {v : Value} {wx : World} (h : Made0 w m c rb v wx) (hr : wx.ownsRow B 139 2 v 8 (fdCells (nos 8))) (hB : ∀ x, x ∈ c.all → x < B) (hB2 : rb < B) (hB3 : w.heap.size ≤ B) : YAt w wx c (Ar.new m) (Y0 rb v) [] := by
  have own : ∀ x, v.ownBlock = some x → B ≤ x := fun x hx => (own_lt' hr x hx).1
  have rr : (rRow (Y0 rb v)).ok wx w.heap.size := by
    refine own_mk h.rk h.lo.2 (Nat.le_refl _) (by unfold maxLen; omega) (by simp [rRow, wordCells, zeros]) (by simp [rRow, wordCells, zeros, Y0])
  have rm : (mRow (Y0 rb v)).ok wx w.heap.size := by
    obtain ⟨h1, h2⟩ := hr
    refine ⟨by simpa [mRow, Y0, nos] using h1, h2.imp (fun h => ?_) ?_⟩
    · obtain ⟨a1, a2⟩ := h
      omega
    · rintro ⟨g, cap, cur, a1, a2, a3⟩
      exact ⟨g, cap, cur, a1, by omega, a3⟩
  refine ⟨h.he, h.yc, ⟨?_, ?_⟩, ?_, h.ap, h.lo.1, ⟨by simp [Y0, zeros], by simp [Y0]⟩, h.fr⟩
  · intro r hr
    simp only [rowsY, Y0, List.map_nil, List.append_nil, List.mem_cons, List.not_mem_nil, or_false] at hr
    rcases hr with rfl | rfl | rfl | rfl
    · exact rr
    · exact ⟨rfl, .inl ⟨rfl, rfl⟩⟩
    · exact rm
    · exact ⟨rfl, .inl ⟨rfl, rfl⟩⟩
  · intro i j r s x hij hi hj hx hy
    match i, j with
    | 0, 0 => exact hij rfl
    | 0, 1 => simp [rowsY, oRow, Y0] at hj; subst hj; simp [Value.ownBlock] at hy
    | 0, 2 =>
      simp [rowsY, rRow, mRow, Y0] at hi hj
      subst hi hj
      simp [Value.ownBlock] at hx
      have := own x hy
      omega
    | 0, 3 => simp [rowsY, pRow, Y0] at hj; subst hj; simp [Value.ownBlock] at hy
    | 1, _ => simp [rowsY, oRow, Y0] at hi; subst hi; simp [Value.ownBlock] at hx
    | 2, 0 =>
      simp [rowsY, rRow, mRow, Y0] at hi hj
      subst hi hj
      simp [Value.ownBlock] at hy
      have := own x hx
      omega
    | 2, 1 => simp [rowsY, oRow, Y0] at hj; subst hj; simp [Value.ownBlock] at hy
    | 2, 2 => exact hij rfl
    | 2, 3 => simp [rowsY, pRow, Y0] at hj; subst hj; simp [Value.ownBlock] at hy
    | 3, _ => simp [rowsY, pRow, Y0] at hi; subst hi; simp [Value.ownBlock] at hx
    | i + 4, _ => simp [rowsY, Y0] at hi
    | 0, j + 4 => simp [rowsY, Y0] at hj
    | 2, j + 4 => simp [rowsY, Y0] at hj
  · intro r hr x hx hm
    simp only [rowsY, Y0, List.map_nil, List.append_nil, List.mem_cons, List.not_mem_nil, or_false] at hr
    rcases hr with rfl | rfl | rfl | rfl
    · simp [rRow, Value.ownBlock] at hx
      subst hx
      exact h.ra hm
    · simp [oRow, Value.ownBlock] at hx
    · have h1 := own x hx
      have h2 := hB x hm
      omega
    · simp [pRow, Value.ownBlock] at hx
theorem Made0.next {c : Yk} {rb B : Nat} {v : Value} {wr w5 : World} (h : Made0 w m c rb v wr) (hF : Fr v.ownBlock.toList wr w5) (hv : ∀ x, v.ownBlock = some x → B ≤ x) (hB : ∀ x, x ∈ c.all → x < B) (hB2 : rb < B) (hB3 : w.heap.size ≤ B) (v' : Value) :
    Made0 w m c rb v' (w5.setCell ⟨c.y, 3, none⟩ v') := by
  have hn : ∀ x, x < B → x ∉ v.ownBlock.toList := fun x hx hm => by have := hv x (by simpa using hm); omega
  have mem : c.y ∈ c.all ∧ c.hb ∈ c.all ∧ c.b ∈ c.all ∧ c.wb ∈ c.all ∧ c.lb ∈ c.all := by simp [Yk.all]
  have ap := h.ap
  simp only [Yk.all, List.nodup_cons, List.mem_cons, List.not_mem_nil, or_false, not_or] at ap
  obtain ⟨⟨a1, a2, a3, a4⟩, _⟩ := ap
  have hF2 : Fr [c.y] w5 (w5.setCell ⟨c.y, 3, none⟩ v') := (Fr.refl _ _).setCell (by simp) _
  have hry : rb ≠ c.y := fun he => h.ra (he ▸ mem.1)
  refine ⟨(h.he.fr hF (hn _ (hB _ mem.2.1)) (hn _ (hB _ mem.2.2.1)) (hn _ (hB _ mem.2.2.2.1)) (hn _ (hB _ mem.2.2.2.2))).fr hF2 (by simp; exact Ne.symm a1) (by simp; exact Ne.symm a2) (by simp; exact Ne.symm a3) (by simp; exact Ne.symm a4),
    hF2.at (hF.at h.rk (hn _ hB2)) (by simpa using hry), ?_, h.ap, h.ra, h.lo, ?_⟩
  · rw [blk_set, if_pos rfl, hF.at h.yc (hn _ (hB _ mem.1))]; rfl
  · exact (h.fr.trans hF (fun x hx => .inr (by have := hv x (by simpa using hx); omega))).trans hF2 (fun x hx => .inr (by simp only [List.mem_singleton] at hx; subst hx; exact h.lo.1 _ mem.1))
set_option maxRecDepth 10000 in
set_option maxHeartbeats 4000000 in
theorem ymade_c (w : World) (n : Int) (hm : blocksOf n = m) : Calls Try.prog 39 #[.int .i64 n] w (MadeOk w m) := by
  have ON := Lib.hid (fun wz => onew_c n wz)
  rw [hm] at ON
  have RW : ∀ wz : World, (Instr.makeSlice 26 (.int .i64 8) (.int .i64 8)).run Try.prog wz = .ok (.slice (some ⟨wz.heap.size, 0, none⟩) 8 8) (wz.alloc (.cells (wordCells (zeros 8)) 37)) := fun wz => run_words wz 8 (by omega)
  go_enter Try.func39, Try.ntmps39
  go_wp2_with fail
  go_cut [3] (fun s3 wx => MadeCut w m s3 wx)
  case first =>
    go_region_held3 (fun _ => True) (trivial) (first | (go_at_call 12; refine (ON.out _).mono ?_; rintro e w1 ⟨hb, b, wb, lb, rfl, H1, F1, q0, q1, q2, q3⟩))
    all_goals
      go_wp2_with fail
      go_meet
      first
      | exact made_fin (wz := w.drew) (Fr.refl _ _).drew H1 F1 q0 q1 q2 q3 (((Fr.refl _ _).alloc _).alloc _) (b2a w1 _ _) (.inr (Nat.le_refl _)) F1.size (by omega) (by omega) (b2b w1 _ _)
      | exact made_fin (wz := (w.alloc (.cells (wordCells (zeros 8)) 37)).drew) ((Fr.refl _ _).alloc _).drew H1 F1 q0 q1 q2 q3 ((Fr.refl _ _).alloc _) (((Fr.refl [] w1).alloc _).at (F1.at (b1a w _) (by simp)) (by simp)) (.inl (by show w.heap.size < (w.alloc _).heap.size; rw [size_alloc]; omega)) (Nat.le_refl _) (by have h1 := F1.size; have h2 : (w.alloc (.cells (wordCells (zeros 8)) 37)).drew.heap.size = w.heap.size + 1 := size_alloc _ _; omega) (Nat.le_refl _) (b1a w1 _)
  case rest =>
    obtain ⟨c, rb, rfl, M0⟩ := hcut
    have M0 := Lib.hid M0
    have y1 : wc.cell? ⟨c.y, 1, none⟩ = some (.slice (some ⟨rb, 0, none⟩) 8 8) := cell_of M0.out.yc rfl
    obtain ⟨i0, hi0, hz0, hz1, hz2⟩ := info_parts info_fd
    have II := Lib.hid hi0
    have Z0 := Lib.hid hz0
    have Z1 := Lib.hid hz1
    have Z2 := Lib.hid hz2
    have HA : Hid (∀ x, x ∈ c.all → x < wc.heap.size) := Lib.hid (fun x hx => by
      simp only [Yk.all, List.mem_cons, List.not_mem_nil, or_false] at hx
      rcases hx with rfl | rfl | rfl | rfl | rfl
      · exact lt_size M0.out.yc
      · exact lt_size M0.out.he.p
      · exact lt_size M0.out.he.ar.hb
      · exact lt_size M0.out.he.ar.hw
      · exact lt_size M0.out.he.ar.hl)
    have HR : Hid (rb < wc.heap.size) := Lib.hid (lt_size M0.out.rk)
    have HW : Hid (w.heap.size ≤ wc.heap.size) := Lib.hid M0.out.fr.size
    have R0 : Hid (wc.ownsRow wc.heap.size 139 2 (.slice none 0 0) 0 (fdCells (nos 0))) := Lib.hid ⟨rfl, .inl ⟨rfl, rfl⟩⟩
    obtain ⟨B, hB⟩ : ∃ B, B = wc.heap.size := ⟨_, rfl⟩
    rw [← hB] at HA HR HW R0
    have HB : Hid (B ≤ wc.heap.size) := Lib.hid (by omega)
    clear hi0 hz0 hz1 hz2 hB
    go_wp2_with fail
    clear y1
    go_loopw [14] (fun u wr => ∃ (k : Nat) (v : Value), k ≤ 8 ∧ u = .int .i64 (k : Int) ∧ Hid (Made0 w m c rb v wr) ∧ Hid (wr.ownsRow B 139 2 v k (fdCells (nos k))) ∧ Hid (B ≤ wr.heap.size)) (fun u _ => 8 - (intOf u).toNat)
    case atStart => exact ⟨0, _, by omega, by go_num, M0, R0, HB⟩
    case round =>
      obtain ⟨k, v, hk, rfl, MK, RK, BK⟩ := hrel
      clear M0 R0 HB
      by_cases hlt : k < 8
      · have y3 : wr.cell? ⟨c.y, 3, none⟩ = some v := cell_of MK.out.yc rfl
        have hyl : c.y < wr.heap.size := lt_size MK.out.yc
        have R5 := Lib.hid (own_fr (w' := wr.alloc (.cells #[.int .u64 0, .int .i64 (-1)] 139)) RK.out ((Fr.refl [] wr).alloc _) (by simp))
        have NW := Lib.hid (show (wr.alloc (.cells #[.int .u64 0, .int .i64 (-1)] 139)).heap[wr.heap.size]? = some (.cells #[.int .u64 0, .int .i64 (-1)] 139 (0, 0)) from b1a wr _)
        have hB4 : Hid (B ≤ (wr.alloc (.cells #[.int .u64 0, .int .i64 (-1)] 139)).heap.size) := Lib.hid (by rw [size_alloc]; have := BK.out; omega)
        have HRN : Hid (v.ownBlock ≠ some c.y) := Lib.hid (fun h => by have := (own_lt' RK.out c.y h).1; have := HA.out c.y (by simp [Yk.all]); omega)
        have YC := Lib.hid MK.out.yc
        go_wp2_with (at_builtin; refine wpList_append_lies _ rfl _ _ _ rfl B 139 i0 (.agg #[.int .u64 0, .int .i64 0]) 2 16 Try.underlying85 II.out Z0.out Z1.out Z2.out rfl (by omega) v k _ rfl R5.out ⟨wr.heap.size, 0, none⟩ 1 1 [.int .u64 0, .int .i64 (-1)] rfl rfl (World.news_of_block NW.out) (by simp [Value.oneCell']) (by omega) (by unfold maxLen; omega) (by omega) hB4.out _ rfl ?_; intro g5 cap5 w5 own5 gr5 at5 lt5; rw [nos_app] at own5; have q5 := farY gr5 ((Fr.refl [] wr).alloc _) hyl HRN.out YC.out; have q6 : w5.cell? ⟨c.y, 3, none⟩ = some v := cell_of q5 rfl; have q7 : w5.frozen? ⟨c.y, 3, none⟩ = false := free_of q5; have OW := Lib.hid own5; have GR := Lib.hid gr5; clear own5 gr5 at5 q5)
        have M6 := Lib.hid (MK.out.next (w5 := w5) ((((Fr.refl [] wr).alloc (.cells #[.int .u64 0, .int .i64 (-1)] 139)).mono (by simp)).trans (grown_fr GR.out) (fun x hx => .inl hx)) (fun x hx => (own_lt' RK.out x hx).1) HA.out HR.out HW.out (.slice (some ⟨g5, 0, none⟩) (k + 1) cap5))
        have R6 := Lib.hid (own_fr (w' := w5.setCell ⟨c.y, 3, none⟩ (.slice (some ⟨g5, 0, none⟩) (k + 1) cap5)) OW.out ((Fr.refl [c.y] w5).setCell (by simp) _) (fun x hx => by
          have h1 := (own_lt' OW.out x hx).1
          have h2 := HA.out c.y (by simp [Yk.all])
          simp only [List.mem_singleton]
          omega))
        have B6 : Hid (B ≤ (w5.setCell ⟨c.y, 3, none⟩ (.slice (some ⟨g5, 0, none⟩) (k + 1) cap5)).heap.size) := Lib.hid (by
          rw [size_set]
          have h1 := GR.out.size
          have h2 := hB4.out
          omega)
        clear MK RK R5 NW HRN YC OW GR q6 q7 y3
        go_roundw
        case rel => exact ⟨k + 1, _, by omega, by go_num, M6, R6, B6⟩
        case measure => simp [intOf]; omega
      · have hk8 : k = 8 := by omega
        have RZ := Lib.hid (show wr.ownsRow B 139 2 v 8 (fdCells (nos 8)) by have := RK.out; rw [hk8] at this; exact this)
        have YF := Lib.hid (made_y MK.out RZ.out HA.out HR.out HW.out)
        have HJK := Lib.hid hlt
        clear hk8 MK RK
        go_wp2
        go_ret
        exact ⟨c, rb, v, rfl, YF.out⟩
end Go.Proofs.Ytjgndfhfiekomaa
/- A slice of the law's acts, as an argument. -/
namespace Go.Proofs.Ytjgndfhfiekomaa
open Go.ChangeShapes Go.WideShapes Go.RowKit
section
variable {H : Type} {enc : TypeId × Value → H} {P : Program} {w : World} {spare : Nat → Bool} {held : Bool}
theorem leaf_int {base n : Nat} {ft : TypeId} {k : IntKind} {cs : List Value} {o : Nat} {y : DataW H × List MemPlace} (hu : P.underlying ft = some (.int k)) (h1 : P.cellsOf ft = 1) (ho : o < cs.length)
    (h : DataW.trod enc P w base spare held n ft ((cs.drop o).take (P.cellsOf ft)) = some y) : ∃ z : Int, cs[o]? = some (.int k z) ∧ (Lit.int k z).wf = true := by
  rw [h1] at h
  have hone : (cs.drop o).take 1 = [cs[o]'(by omega)] := by
    rw [List.drop_eq_getElem_cons (by omega)]; rfl
  rw [hone] at h
  obtain ⟨z, hz, _, hw⟩ := DataW.trod_int hu h
  simp only [List.cons.injEq, and_true] at hz
  exact ⟨z, by rw [List.getElem?_eq_getElem ho, hz], hw⟩
theorem some_at {α : Type} {ys : List α} {j : Nat} (h : j < ys.length) : ∃ y, ys[j]? = some y := ⟨ys[j], List.getElem?_eq_getElem h⟩
end
/-- The kinds of an act's cells. -/
def ks16 : List IntKind := [.i64, .i64, .i64, .i64, .i64, .u64, .i64, .i64]
def IsActs16 (w : World) (a : Option Addr) (len cap : Nat) (N : Nat → Nat → Int) : Prop :=
  RowsAt w a len 8 (fun i j => .int (ks16.getD j .i64) (N i j)) ∧ (∀ i j, i < len → j < 8 → (Lit.int (ks16.getD j .i64) (N i j)).wf = true) ∧ len ≤ cap ∧ cap ≤ maxLen
theorem act_leaf {H : Type} {enc : TypeId × Value → H} {w : World} {spare : Nat → Bool} {held : Bool} {base fuel : Nat} {cs : List Value} {x : DataW H × List MemPlace}
    (h : DataW.trod enc Try.prog w base spare held fuel 80 cs = some x) (j : Nat) (hj : j < 8) : ∃ z : Int, cs[j]? = some (.int (ks16.getD j .i64) z) ∧ (Lit.int (ks16.getD j .i64) z).wf = true := by
  obtain ⟨ys, n, _, _, hlen, hys, hg⟩ := DataW.trod_struct Try.underlying80 h
  have hC : Try.prog.cellsOf 80 = 8 := by kernel_rfl
  rw [hC] at hlen
  have hone : Try.prog.cellsOf 3 = 1 := by kernel_rfl
  have honw : Try.prog.cellsOf 37 = 1 := by kernel_rfl
  have leaf := fun (i : Nat) (hi : i < ys.length) (ft : TypeId) (k : IntKind) (o : Nat) (hu : Try.prog.underlying ft = some (.int k)) (h1 : Try.prog.cellsOf ft = 1) (ho : o < cs.length) (he : DataW.trod enc Try.prog w base spare held n ft ((cs.drop o).take (Try.prog.cellsOf ft)) = ys[i]?) =>
    leaf_int hu h1 ho (he.trans (some_at hi).choose_spec)
  have hys7 : ys.length = 7 := hys
  match j, hj with
  | 0, _ => exact leaf 0 (by omega) _ .i64 0 Try.underlying3 hone (by omega) (hg 0 _ rfl)
  | 1, _ => exact leaf 1 (by omega) _ .i64 1 Try.underlying3 hone (by omega) (hg 1 _ rfl)
  | 2, _ => exact leaf 2 (by omega) _ .i64 2 Try.underlying3 hone (by omega) (hg 2 _ rfl)
  | 3, _ => exact leaf 3 (by omega) _ .i64 3 Try.underlying3 hone (by omega) (hg 3 _ rfl)
  | 4, _ => exact leaf 4 (by omega) _ .i64 4 Try.underlying3 hone (by omega) (hg 4 _ rfl)
  | 5, _ => exact leaf 5 (by omega) _ .u64 5 Try.underlying37 honw (by omega) (hg 5 _ rfl)
  | q + 6, hj =>
    obtain ⟨y, hy⟩ := some_at (ys := ys) (j := 6) (by omega)
    have h6 := (hg 6 _ rfl).trans hy
    have hC2 : Try.prog.cellsOf 72 = 2 := by kernel_rfl
    obtain ⟨zs, n2, _, _, hlen2, hzs, hg2⟩ := DataW.trod_struct Try.underlying72 h6
    have hzs2 : zs.length = 2 := hzs
    rw [hC2] at hlen2
    have hl2 : ((cs.drop 6).take 2).length = 2 := by rw [List.length_take, List.length_drop]; omega
    have leaf2 := fun (i : Nat) (hi : i < 2) (he : DataW.trod enc Try.prog w base spare held n2 3 ((((cs.drop 6).take (Try.prog.cellsOf 72)).drop i).take (Try.prog.cellsOf 3)) = zs[i]?) =>
      leaf_int (k := .i64) Try.underlying3 hone (by rw [hC2, hl2]; exact hi) (he.trans (some_at (by omega)).choose_spec)
    have fin : ∀ i, i < 2 → (∃ z : Int, ((cs.drop 6).take (Try.prog.cellsOf 72))[i]? = some (.int .i64 z) ∧ (Lit.int .i64 z).wf = true) → ∃ z : Int, cs[6 + i]? = some (.int .i64 z) ∧ (Lit.int .i64 z).wf = true := by
      rintro i hi ⟨z, h1, h2⟩
      rw [hC2, List.getElem?_take, if_pos hi, List.getElem?_drop] at h1
      exact ⟨z, h1, h2⟩
    match q, hj with
    | 0, _ => exact fin 0 (by omega) (leaf2 0 (by omega) (hg2 0 _ rfl))
    | 1, _ => exact fin 1 (by omega) (leaf2 1 (by omega) (hg2 1 _ rfl))
    | q + 2, hj => omega
theorem opener16 {H : Type} {enc : TypeId × Value → H} {w : World} {spare : Nat → Bool} {held : Bool} {a : Option Addr} {len cap : Nat} {d : DataW H} {p : List MemPlace}
    (h : DataW.Trod enc Try.prog w 0 spare held 76 (.slice a len cap) d p) : ∃ N, IsActs16 w a len cap N := by
  obtain ⟨fuel, h⟩ := h
  rcases Go.Deep.open_slice Try.underlying76 h with ⟨hcs, _⟩ | ⟨a0, l0, c0, m, n, D, Pl, hcs, _, hl, hm, hmm, _, hi⟩
  · simp [Value.cells] at hcs
    obtain ⟨rfl, rfl, rfl⟩ := hcs
    exact ⟨fun _ _ => 0, .inl rfl, fun i j hi => by omega, Nat.le_refl _, by simp [maxLen]⟩
  · simp [Value.cells] at hcs
    obtain ⟨rfl, rfl, rfl⟩ := hcs
    have hlm : len ≤ m := by rw [hmm]; split <;> omega
    have hC : Try.prog.cellsOf 80 = 8 := by kernel_rfl
    have key : ∀ i j, ∃ z : Int, i < len → j < 8 → w.cell? (a0.add (i * 8 + j)) = some (.int (ks16.getD j .i64) z) ∧ (Lit.int (ks16.getD j .i64) z).wf = true := by
      intro i j
      by_cases hil : i < len
      · by_cases hj : j < 8
        · obtain ⟨cs', hc, ht'⟩ := hi i (by omega)
          rw [hC] at hc
          obtain ⟨_, hcl, hat⟩ := World.cells?_some hc
          obtain ⟨z, hz, hw⟩ := act_leaf ht' j hj
          refine ⟨z, fun _ _ => ⟨?_, hw⟩⟩
          rw [← Go.Deep.add_add, hat j hj, hz]
        · exact ⟨0, fun _ h => absurd h hj⟩
      · exact ⟨0, fun h => absurd h hil⟩
    have key2 : ∀ i, ∃ z : Nat → Int, ∀ j, i < len → j < 8 → w.cell? (a0.add (i * 8 + j)) = some (.int (ks16.getD j .i64) (z j)) ∧ (Lit.int (ks16.getD j .i64) (z j)).wf = true :=
      fun i => ⟨fun j => Classical.choose (key i j), fun j => Classical.choose_spec (key i j)⟩
    refine ⟨fun i => Classical.choose (key2 i), ?_, fun i j h1 h2 => (Classical.choose_spec (key2 i) j h1 h2).2, hl, hm⟩
    by_cases h0 : len = 0
    · exact .inl h0
    · right
      have hc := (Classical.choose_spec (key2 0) 0 (by omega) (by omega)).1
      have hs : a0.spot = none ∧ a0.block < w.heap.size := by
        have := addr_none hc
        simp [Addr.add] at this
        exact this
      refine ⟨a0.block, a0.off, by cases a0; simp_all, hs.2, fun i j h1 h2 => ?_⟩
      exact add_cell hs.1 (Classical.choose_spec (key2 i) j h1 h2).1
/-- An act of them. -/
def actN (N : Nat → Nat → Int) (k : Nat) : Ac := ⟨N k 0, N k 1, N k 2, N k 3, N k 4, N k 5, N k 6, N k 7⟩
theorem acts16_at {w w' : World} {ab ao len : Nat} {N : Nat → Nat → Int} {L : List Nat} (h : RowsAt w (some ⟨ab, ao, none⟩) len 8 (fun i j => .int (ks16.getD j .i64) (N i j))) (hF : Fr L w w') (hL : ∀ x, x ∈ L → w.heap.size ≤ x) (k : Nat) (hk : k < len) :
    w'.cell? ⟨ab, ao + k * 8, none⟩ = some (.int .i64 (N k 0)) ∧ w'.cell? ⟨ab, ao + k * 8 + 1, none⟩ = some (.int .i64 (N k 1)) ∧ w'.cell? ⟨ab, ao + k * 8 + 2, none⟩ = some (.int .i64 (N k 2)) ∧ w'.cell? ⟨ab, ao + k * 8 + 3, none⟩ = some (.int .i64 (N k 3)) ∧ w'.cell? ⟨ab, ao + k * 8 + 4, none⟩ = some (.int .i64 (N k 4)) ∧
      w'.cell? ⟨ab, ao + k * 8 + 5, none⟩ = some (.int .u64 (N k 5)) ∧ w'.cell? ⟨ab, ao + k * 8 + 6, none⟩ = some (.int .i64 (N k 6)) ∧ w'.cell? ⟨ab, ao + k * 8 + 7, none⟩ = some (.int .i64 (N k 7)) ∧ ab < w.heap.size := by
  rcases h.fr hF hL with h | ⟨b, o, h1, h2, h3⟩
  · omega
  · simp only [Option.some.injEq, Addr.mk.injEq] at h1
    obtain ⟨rfl, rfl, _⟩ := h1
    have g := fun j hj => by have := h3 k j hk hj; rw [← Nat.add_assoc] at this; exact this
    rcases h with h | ⟨b, o, h1, h2', _⟩
    · omega
    · simp only [Option.some.injEq, Addr.mk.injEq] at h1
      obtain ⟨rfl, _⟩ := h1
      exact ⟨g 0 (by omega), g 1 (by omega), g 2 (by omega), g 3 (by omega), g 4 (by omega), g 5 (by omega), g 6 (by omega), g 7 (by omega), h2'⟩
end Go.Proofs.Ytjgndfhfiekomaa
