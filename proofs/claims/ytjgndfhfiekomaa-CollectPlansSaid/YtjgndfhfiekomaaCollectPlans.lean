import Derived.Test.YtjgndfhfiekomaaYF
import Derived.Test.YtjgndfhfiekomaaZR
import Derived.Test.YtjgndfhfiekomaaZP
import Derived.ProofKit
import Derived.ChangeOld
import Derived.Lib.SmallJoins
/- Two of the law's worlds beside one another: each is rows to the other. -/
set_option linter.all false
namespace Go.Proofs.Ytjgndfhfiekomaa
open Go.ChangeShapes Go.WideShapes Go.RowKit
variable {w0 w : World} {c d : Yk} {A E : Ar} {S U : Ys} {m : Nat} {ex : List RV} {B : Nat}
theorem app_swap {α : Type} {a b : List α} {i : Nat} {r : α} (h : (b ++ a)[i]? = some r) : ∃ j, (a ++ b)[j]? = some r ∧ (i < b.length → j = a.length + i) ∧ (b.length ≤ i → j = i - b.length ∧ j < a.length) := by
  by_cases hi : i < b.length
  · rw [List.getElem?_append_left hi] at h
    exact ⟨a.length + i, by rw [List.getElem?_append_right (by omega), Nat.add_sub_cancel_left]; exact h, fun _ => rfl, fun h => by omega⟩
  · rw [List.getElem?_append_right (by omega)] at h
    have hl := lt_some h
    exact ⟨i - b.length, by rw [List.getElem?_append_left hl]; exact h, fun h => absurd h hi, fun _ => ⟨rfl, hl⟩⟩
theorem RVs.comm {a b : List RV} (h : RVs w B (a ++ b)) : RVs w B (b ++ a) := by
  refine ⟨fun r hr => h.ok r (by rw [List.mem_append] at hr ⊢; exact hr.symm), ?_⟩
  intro i j r s x hij hr hs hx
  obtain ⟨i', h1, h2, h3⟩ := app_swap hr
  obtain ⟨j', k1, k2, k3⟩ := app_swap hs
  refine h.ne i' j' r s x (fun he => hij ?_) h1 k1 hx
  by_cases hi : i < b.length
  · have e1 := h2 hi
    by_cases hj : j < b.length
    · have e2 := k2 hj; omega
    · have e2 := k3 (by omega); omega
  · have e1 := h3 (by omega)
    by_cases hj : j < b.length
    · have e2 := k2 hj; omega
    · have e2 := k3 (by omega); omega
/-- The five blocks of a world, as rows. -/
def five (c : Yk) (A : Ar) (S : Ys) : List RV :=
  [⟨90, 5, .slice (some ⟨c.y, 0, none⟩) 1 1, 1, (S.cells c).toList⟩, ⟨111, 1, .slice (some ⟨c.hb, 0, none⟩) 1 1, 1, [.pointer (some ⟨c.b, 0, none⟩)]⟩, ⟨169, 9, .slice (some ⟨c.b, 0, none⟩) 1 1, 1, (A.cells c.wb c.lb).toList⟩,
    ⟨37, 1, .slice (some ⟨c.wb, 0, none⟩) A.words.length A.words.length, A.words.length, (wordCells A.words).toList⟩, ⟨181, 2, .slice (some ⟨c.lb, 0, none⟩) A.lines.length A.lines.length, A.lines.length, (lineCells A.lines).toList⟩]
theorem blk_row {g n z : Nat} {t : TypeId} {cells : Array Value} (h : blk w g = some (.cells cells t (0, 0))) (hB : B ≤ g) (hs : cells.size = n * z) (hm : n ≤ maxLen) : RV.ok w B ⟨t, z, .slice (some ⟨g, 0, none⟩) n n, n, cells.toList⟩ :=
  own_mk h hB (Nat.le_refl _) hm hs (by rw [← hs]; exact List.take_length)
theorem row_blk {g n z : Nat} {t : TypeId} {cells : Array Value} (h : RV.ok w B ⟨t, z, .slice (some ⟨g, 0, none⟩) n n, n, cells.toList⟩) (hs : cells.size = n * z) : blk w g = some (.cells cells t (0, 0)) ∧ B ≤ g := by
  obtain ⟨cur, hb, h0, _, _, h3, h4, _⟩ := own_blk h
  refine ⟨?_, h0⟩
  have : cur.toList = cells.toList := by
    simp only at h3 h4
    rw [← h3] at h4
    rw [← h4]
    exact (List.take_length (l := cur.toList)).symm
  rw [hb, Array.toList_inj.1 this]
theorem len_five (c : Yk) (A : Ar) (S : Ys) : (five c A S).length = 5 := rfl
theorem five_at (c : Yk) (A : Ar) (S : Ys) {i : Nat} {r : RV} (h : (five c A S)[i]? = some r) : ∃ g, r.v.ownBlock = some g ∧ c.all[i]? = some g := by
  match i with
  | 0 => simp only [five, List.getElem?_cons_zero, Option.some.injEq] at h; subst h; exact ⟨c.y, rfl, rfl⟩
  | 1 => simp only [five, List.getElem?_cons_succ, List.getElem?_cons_zero, Option.some.injEq] at h; subst h; exact ⟨c.hb, rfl, rfl⟩
  | 2 => simp only [five, List.getElem?_cons_succ, List.getElem?_cons_zero, Option.some.injEq] at h; subst h; exact ⟨c.b, rfl, rfl⟩
  | 3 => simp only [five, List.getElem?_cons_succ, List.getElem?_cons_zero, Option.some.injEq] at h; subst h; exact ⟨c.wb, rfl, rfl⟩
  | 4 => simp only [five, List.getElem?_cons_succ, List.getElem?_cons_zero, Option.some.injEq] at h; subst h; exact ⟨c.lb, rfl, rfl⟩
  | i + 5 => simp [five] at h
theorem nodup_at {l : List Nat} (h : l.Nodup) {i j x : Nat} (hi : l[i]? = some x) (hj : l[j]? = some x) : i = j := by
  have h1 := lt_some hi
  have h2 := lt_some hj
  rw [List.getElem?_eq_getElem h1] at hi
  rw [List.getElem?_eq_getElem h2] at hj
  injection hi with hi
  injection hj with hj
  have hp := List.pairwise_iff_getElem.1 h
  rcases Nat.lt_trichotomy i j with hc | hc | hc
  · exact absurd (hi.trans hj.symm) (hp i j h1 h2 hc)
  · exact hc
  · exact absurd (hj.trans hi.symm) (hp j i h2 h1 hc)
theorem size_lc (l : List (Bool × Bool)) : (lineCells l).size = l.length * 2 := by
  induction l with
  | nil => rfl
  | cons x l ih => simp only [lineCells, List.flatMap_cons, List.size_toArray, List.length_append, List.length_cons, List.length_nil] at ih ⊢; omega
theorem YAt.all_rows (h : YAt w0 w c A S ex) (ok : A.Ok m) : RVs w w0.heap.size (five c A S ++ rowsY S ex) := by
  have hw := ok.wl
  have hl := ok.ll
  have hm := ok.m2
  have mem : c.y ∈ c.all ∧ c.hb ∈ c.all ∧ c.b ∈ c.all ∧ c.wb ∈ c.all ∧ c.lb ∈ c.all := by simp [Yk.all]
  refine ⟨fun r hr => ?_, fun i j r s x hij hr hs hx hy => ?_⟩
  · rcases List.mem_append.1 hr with hr | hr
    · simp only [five, List.mem_cons, List.not_mem_nil, or_false] at hr
      rcases hr with rfl | rfl | rfl | rfl | rfl
      · exact blk_row h.yc (h.lo _ mem.1) rfl (by unfold maxLen; omega)
      · exact blk_row (cells := #[.pointer (some ⟨c.b, 0, none⟩)]) h.he.p (h.lo _ mem.2.1) rfl (by unfold maxLen; omega)
      · exact blk_row h.he.ar.hb (h.lo _ mem.2.2.1) rfl (by unfold maxLen; omega)
      · exact blk_row h.he.ar.hw (h.lo _ mem.2.2.2.1) (by simp [wordCells]) (by unfold maxLen; omega)
      · exact blk_row h.he.ar.hl (h.lo _ mem.2.2.2.2) (size_lc _) (by unfold maxLen; omega)
    · exact h.rows.ok r hr
  · by_cases hi : i < 5
    · rw [List.getElem?_append_left (by rw [len_five]; exact hi)] at hr
      obtain ⟨g, g1, g2⟩ := five_at c A S hr
      rw [hx] at g1
      injection g1 with g1
      subst g1
      by_cases hj : j < 5
      · rw [List.getElem?_append_left (by rw [len_five]; exact hj)] at hs
        obtain ⟨g', k1, k2⟩ := five_at c A S hs
        rw [hy] at k1
        injection k1 with k1
        subst k1
        exact hij (nodup_at h.ap g2 k2)
      · rw [List.getElem?_append_right (by rw [len_five]; omega)] at hs
        exact h.far s (List.mem_of_getElem? hs) x hy (List.mem_of_getElem? g2)
    · rw [List.getElem?_append_right (by rw [len_five]; omega)] at hr
      by_cases hj : j < 5
      · rw [List.getElem?_append_left (by rw [len_five]; exact hj)] at hs
        obtain ⟨g', k1, k2⟩ := five_at c A S hs
        rw [hy] at k1
        injection k1 with k1
        subst k1
        exact h.far r (List.mem_of_getElem? hr) x hx (List.mem_of_getElem? k2)
      · rw [List.getElem?_append_right (by rw [len_five]; omega)] at hs
        rw [len_five] at hr hs
        exact h.rows.ne (i - 5) (j - 5) r s x (by omega) hr hs hx hy
theorem five_own (c : Yk) (A : Ar) (S : Ys) {i g : Nat} (h : c.all[i]? = some g) : ∃ r, (five c A S)[i]? = some r ∧ r.v.ownBlock = some g := by
  match i with
  | 0 => simp only [Yk.all, List.getElem?_cons_zero, Option.some.injEq] at h; subst h; exact ⟨_, rfl, rfl⟩
  | 1 => simp only [Yk.all, List.getElem?_cons_succ, List.getElem?_cons_zero, Option.some.injEq] at h; subst h; exact ⟨_, rfl, rfl⟩
  | 2 => simp only [Yk.all, List.getElem?_cons_succ, List.getElem?_cons_zero, Option.some.injEq] at h; subst h; exact ⟨_, rfl, rfl⟩
  | 3 => simp only [Yk.all, List.getElem?_cons_succ, List.getElem?_cons_zero, Option.some.injEq] at h; subst h; exact ⟨_, rfl, rfl⟩
  | 4 => simp only [Yk.all, List.getElem?_cons_succ, List.getElem?_cons_zero, Option.some.injEq] at h; subst h; exact ⟨_, rfl, rfl⟩
  | i + 5 => simp [Yk.all] at h
theorem YAt.of_rows (h : RVs w w0.heap.size (five c A S ++ rowsY S ex)) (n8 : S.roots.length = 8 ∧ S.mr.length = 8) (hF : Fr [] w0 w) : YAt w0 w c A S ex := by
  have ne : ∀ i j g, i ≠ j → c.all[i]? = some g → c.all[j]? ≠ some g := fun i j g hij h1 h2 => by
    obtain ⟨r, r1, r2⟩ := five_own c A S h1
    obtain ⟨s, s1, s2⟩ := five_own c A S h2
    have l1 := lt_some r1
    have l2 := lt_some s1
    exact h.ne i j r s g hij (by rw [List.getElem?_append_left l1]; exact r1) (by rw [List.getElem?_append_left l2]; exact s1) r2 s2
  have f0 := row_blk (h.ok _ (List.mem_append_left _ (List.mem_of_getElem? (l := five c A S) (i := 0) rfl))) rfl
  have f1 := row_blk (cells := #[.pointer (some ⟨c.b, 0, none⟩)]) (h.ok _ (List.mem_append_left _ (List.mem_of_getElem? (l := five c A S) (i := 1) rfl))) rfl
  have f2 := row_blk (h.ok _ (List.mem_append_left _ (List.mem_of_getElem? (l := five c A S) (i := 2) rfl))) rfl
  have f3 := row_blk (h.ok _ (List.mem_append_left _ (List.mem_of_getElem? (l := five c A S) (i := 3) rfl))) (by simp [wordCells])
  have f4 := row_blk (h.ok _ (List.mem_append_left _ (List.mem_of_getElem? (l := five c A S) (i := 4) rfl))) (size_lc _)
  have n (i j : Nat) (hij : i ≠ j) (a b : Nat) (ha : c.all[i]? = some a) (hb : c.all[j]? = some b) : a ≠ b := fun he => ne i j a hij ha (he ▸ hb)
  have e01 := n 0 1 (by omega) _ _ rfl rfl
  have e02 := n 0 2 (by omega) _ _ rfl rfl
  have e03 := n 0 3 (by omega) _ _ rfl rfl
  have e04 := n 0 4 (by omega) _ _ rfl rfl
  have e12 := n 1 2 (by omega) _ _ rfl rfl
  have e13 := n 1 3 (by omega) _ _ rfl rfl
  have e14 := n 1 4 (by omega) _ _ rfl rfl
  have e23 := n 2 3 (by omega) _ _ rfl rfl
  have e24 := n 2 4 (by omega) _ _ rfl rfl
  have e34 := n 3 4 (by omega) _ _ rfl rfl
  refine ⟨⟨f1.1, ⟨f2.1, f3.1, f4.1, e23, e24, e34⟩, e12, e13, e14⟩, f0.1, ⟨fun r hr => h.ok r (List.mem_append_right _ hr), fun i j r s x hij hr hs hx => ?_⟩, ?_, ?_, ?_, n8, hF⟩
  · exact h.ne (5 + i) (5 + j) r s x (by omega) (by rw [List.getElem?_append_right (by rw [len_five]; omega), len_five, Nat.add_sub_cancel_left]; exact hr) (by rw [List.getElem?_append_right (by rw [len_five]; omega), len_five, Nat.add_sub_cancel_left]; exact hs) hx
  · intro r hr x hx hm
    obtain ⟨i, hi⟩ := List.getElem?_of_mem hr
    obtain ⟨j, hj⟩ := List.getElem?_of_mem hm
    obtain ⟨s, s1, s2⟩ := five_own c A S hj
    have l2 := lt_some s1
    exact h.ne j (5 + i) s r x (by rw [len_five] at l2; omega) (by rw [List.getElem?_append_left l2]; exact s1) (by rw [List.getElem?_append_right (by rw [len_five]; omega), len_five, Nat.add_sub_cancel_left]; exact hi) s2 hx
  · simp only [Yk.all, List.nodup_cons, List.mem_cons, List.not_mem_nil, or_false, not_or, not_false_eq_true, List.nodup_nil, and_true]
    exact ⟨⟨e01, e02, e03, e04⟩, ⟨e12, e13, e14⟩, ⟨e23, e24⟩, e34⟩
  · intro x hx
    simp only [Yk.all, List.mem_cons, List.not_mem_nil, or_false] at hx
    rcases hx with rfl | rfl | rfl | rfl | rfl
    · exact f0.2
    · exact f1.2
    · exact f2.2
    · exact f3.2
    · exact f4.2
theorem rowsY_ex (S : Ys) (ex : List RV) : rowsY S ex = rowsY S [] ++ ex := by simp [rowsY]
/-- The other one's rows. -/
def rowsOf (c : Yk) (A : Ar) (S : Ys) : List RV := five c A S ++ rowsY S []
/-- Each of two worlds is rows to the other. -/
theorem YAt.swap (h : YAt w0 w c A S (rowsOf d E U)) (ok : A.Ok m) (n8 : U.roots.length = 8 ∧ U.mr.length = 8) : YAt w0 w d E U (rowsOf c A S) := by
  have h1 := h.all_rows ok
  rw [rowsY_ex, ← List.append_assoc] at h1
  have h2 := h1.comm
  refine YAt.of_rows ?_ n8 h.fr
  rw [rowsY_ex, ← List.append_assoc]
  exact h2
end Go.Proofs.Ytjgndfhfiekomaa
/- Two of the law's worlds: made, and collected with all roots in one row. No program in sight. -/
namespace Go.Proofs.Ytjgndfhfiekomaa
open Go.ChangeShapes Go.WideShapes Go.RowKit
variable {w0 w w' : World} {c d : Yk} {A A' E : Ar} {S U : Ys} {ex : List RV} {m B B2 : Nat} {G K G2 K2 G3 K3 G4 K4 : List Bool} {D D2 C C2 : Nat → Option Ob} {ms ms2 : List Nat} {cl cl2 : Int → Int} {T T2 : Tr} {ls ls' ls2 ls2' : List (List Int)}
theorem RV.ok.less {r : RV} (h : r.ok w B2) (hB : B ≤ B2) : r.ok w B := by
  unfold RV.ok at h ⊢
  obtain ⟨h1, h2⟩ := h
  refine ⟨h1, h2.imp id ?_⟩
  rintro ⟨g, cap, cur, a1, a2, a3⟩
  exact ⟨g, cap, cur, a1, by omega, a3⟩
theorem RVs.cat {a b : List RV} (ha : RVs w B a) (hb : RVs w B2 b) (hB : B ≤ B2) (hlt : ∀ r, r ∈ a → ∀ x, r.v.ownBlock = some x → x < B2) : RVs w B (a ++ b) := by
  refine ⟨fun r hr => ?_, ?_⟩
  · rcases List.mem_append.1 hr with hr | hr
    · exact ha.ok r hr
    · exact (hb.ok r hr).less hB
  · intro i j r s x hij hr hs hx hy
    by_cases hi : i < a.length
    · rw [List.getElem?_append_left hi] at hr
      by_cases hj : j < a.length
      · rw [List.getElem?_append_left hj] at hs
        exact ha.ne i j r s x hij hr hs hx hy
      · rw [List.getElem?_append_right (by omega)] at hs
        have h1 := hlt r (List.mem_of_getElem? hr) x hx
        have h2 := (own_lt' (hb.ok s (List.mem_of_getElem? hs)) x hy).1
        omega
    · rw [List.getElem?_append_right (by omega)] at hr
      by_cases hj : j < a.length
      · rw [List.getElem?_append_left hj] at hs
        have h1 := hlt s (List.mem_of_getElem? hs) x hy
        have h2 := (own_lt' (hb.ok r (List.mem_of_getElem? hr)) x hx).1
        omega
      · rw [List.getElem?_append_right (by omega)] at hs
        exact hb.ne _ _ r s x (by omega) hr hs hx hy
/-- A world, and one that was made behind it. -/
theorem YAt.join (h : YAt w0 w c A S []) (k : YAt w w' d E U []) (okA : A.Ok m) (okE : E.Ok m) : YAt w0 w' c A S (rowsOf d E U) := by
  have h0 := h.all_rows okA
  have h1 := (h.keep k.fr).all_rows okA
  have k1 := k.all_rows okE
  refine YAt.of_rows ?_ h.n8 (h.fr.same k.fr)
  rw [rowsY_ex, ← List.append_assoc]
  exact h1.cat k1 h.fr.size (fun r hr x hx => (own_lt' (h0.ok r hr) x hx).2)
theorem stepM_plan (M : Md) (x : Ac) (ok : Bool) (q0 q1 : Int) : stepM M { x with p0 := q0, p1 := q1 } ok = stepM M x ok := rfl
theorem RchM.md (hS : S.md = U.md) {j : Nat} (h : RchM S.objs S.mr j) : RchM U.objs U.mr j := by
  have e1 : S.objs.map (fun o => (o.kind, o.fs)) = U.objs.map (fun o => (o.kind, o.fs)) := congrArg Md.os hS
  have e2 : S.mr = U.mr := congrArg Md.mr hS
  induction h with
  | root i f j h1 h2 => exact .root i f j (by rw [← e2]; exact h1) h2
  | field j x i f k _ h2 h3 h4 h5 ih =>
    have e3 := congrArg (fun l => l[j]?) e1
    simp only [List.getElem?_map, h2, Option.map_some] at e3
    obtain ⟨y, hy, hyx⟩ := Option.map_eq_some_iff.1 e3.symm
    simp only [Prod.mk.injEq] at hyx
    obtain ⟨k1, k2⟩ := hyx
    exact .field j y i f k ih hy (by rw [k1, k2]; exact h3) (by rw [k2]; exact h4) h5
/-- As the models are the same, as many objects live. -/
theorem live_eq (h : YI m A S G K D) (AF : After D m cl ls ls' T G3 K3 C ms) (hl : ∀ x, (∃ l, l ∈ ls ∧ x ∈ l) ↔ x ∈ S.roots) (h2 : YI m E U G2 K2 D2) (AF2 : After D2 m cl2 ls2 ls2' T2 G4 K4 C2 ms2) (hl2 : ∀ x, (∃ l, l ∈ ls2 ∧ x ∈ l) ↔ x ∈ U.roots)
    (hS : S.md = U.md) : T.live = T2.live := by
  classical
  obtain ⟨L, hLe⟩ : ∃ L : List Bool, L = (List.range S.objs.length).map (fun j => decide (RchM S.objs S.mr j)) := ⟨_, rfl⟩
  have hL : L.length = S.objs.length := by rw [hLe]; simp
  have hr : ∀ j : Nat, L[j]?.getD false = true ↔ RchM S.objs S.mr j := by
    intro j
    rw [hLe]
    by_cases hj : j < S.objs.length
    · simp [hj]
    · simp only [List.getElem?_map]
      rw [List.getElem?_eq_none (by simpa using hj)]
      simp only [Option.map_none, Option.getD_none, Bool.false_eq_true, false_iff]
      intro hR
      obtain ⟨o, ho⟩ := ((h.reach hl j).1 hR).some
      exact hj (h.bd j o ho)
  have e1 : S.objs.length = U.objs.length := by
    have := congrArg (fun M => M.os.length) hS
    simpa [Ys.md] using this
  rw [h.live AF hl hL hr, h2.live AF2 hl2 (hL.trans e1) (fun j => (hr j).trans ⟨RchM.md hS, RchM.md hS.symm⟩)]
theorem one_roots {l : List Int} (x : Int) : (∃ q, q ∈ [l] ∧ x ∈ q) ↔ x ∈ l := by simp
theorem one_case {α : Type} {P : Nat → α → Prop} {a : α} (h0 : P 0 a) : ∀ (i : Nat) (r : α), [a][i]? = some r → P i r := by
  intro i r hr
  match i with
  | 0 => simp only [List.getElem?_cons_zero, Option.some.injEq] at hr; subst hr; exact h0
  | i + 1 => simp at hr
theorem rw1_in {rb : Nat} {l : List Int} {arr : Array Value} (hl : l.length = 8) (hb : blk w rb = some (.cells arr 37 (0, 0))) (hs : arr.size = 8) (ha : ∀ j : Nat, j < 8 → arr[j]? = some (.int .u64 (l[j]?.getD 0))) : RowsIn w (rw1 rb l) [l] := by
  refine ⟨rfl, ?_⟩
  have key := one_case (P := fun i r => ∀ q : List Int, [l][i]? = some q → RowIn w r q) (a := (⟨rb, 8, 0, 8, some ⟨rb, 0, none⟩, l⟩ : Rw)) ?_
  · intro i r q hr hq
    exact key i r hr q hq
  · intro q hq
    simp only [List.getElem?_cons_zero, Option.some.injEq] at hq
    subst hq
    refine ⟨rfl, .inr ⟨rfl, arr, hb, hs, fun j hj => ?_⟩⟩
    simp only [Nat.zero_add]
    exact ha j (by omega)
theorem rw1_arg {hb b wb lb rb g2 : Nat} {l : List Int} (hl : l.length = 8) (h : blk w g2 = some (.cells #[.slice (some ⟨rb, 0, none⟩) 8 8] 26 (0, 0))) (hg : rb < w.heap.size) (hne : g2 ≠ rb) (h1 : rb ∉ [hb, b, wb, lb]) (h2 : g2 ∉ [hb, b, wb, lb]) :
    RowsArg w hb b wb lb (.slice (some ⟨g2, 0, none⟩) 1 1) (rw1 rb l) := by
  refine ⟨⟨_, 1, rfl⟩, ?_, ?_, ?_, by simp [rw1], ?_⟩
  · refine one_case ?_
    refine ⟨g2, 0, 1, rfl, ?_, h2, by simp [rw1, hne]⟩
    have := cell_of h (i := 0) rfl
    simp only [Rw.v, hl]
    exact this
  · intro r hr
    simp only [rw1, List.mem_singleton] at hr
    subst hr
    exact ⟨hg, h1⟩
  · intro i j r s hij hr hs
    match i, j with
    | 0, 0 => exact absurd rfl hij
    | 0, j + 1 => simp [rw1] at hs
    | i + 1, _ => simp [rw1] at hr
  · intro r hr
    simp only [rw1, List.mem_singleton] at hr
    subst hr
    simp only; omega
/-- What the roots are, behind. -/
theorem ran_one {rb : Nat} {l : List Int} (AF : After D m cl [l] ls' T G K C ms) (hl : l.length = 8) (hR : RowsIn w' (rw1 rb l) ls') :
    ∃ (R : List Int) (arr : Array Value), R.length = 8 ∧ blk w' rb = some (.cells arr 37 (0, 0)) ∧ arr.size = 8 ∧ (∀ j : Nat, j < 8 → arr[j]? = some (.int .u64 (R[j]?.getD 0))) ∧ ∀ j : Nat, j < 8 → Tx D C ms (l[j]?.getD 0) (R[j]?.getD 0) := by
  have hrl := AF.rl
  obtain ⟨l0, rfl⟩ : ∃ a, ls' = [a] := by
    match ls', hrl with
    | [a], _ => exact ⟨a, rfl⟩
  have t0 := AF.rt 0 (by simp)
  simp only [List.getElem?_cons_zero, Option.getD_some] at t0
  obtain ⟨t0l, t0⟩ := t0
  rw [hl] at t0l t0
  have r0 := hR.2 0 _ l0 rfl rfl
  obtain ⟨_, r0⟩ := r0
  have n0 : ¬ l = [] := fun h => by have := congrArg List.length h; simp [hl] at this
  obtain ⟨_, arr, b0, s0, a0⟩ := r0.resolve_left n0
  simp only at b0 s0 a0
  refine ⟨l0, arr, t0l, b0, s0, fun j hj => ?_, fun j hj => t0 j hj⟩
  have := a0 j (by omega)
  rwa [Nat.zero_add] at this
/-- Behind a collection with one row. -/
theorem one_fin (Y : YAt w0 w c A S ex) (hI : YI m A S G K D) (AF : After D m cl [S.roots] ls' T G3 K3 C ms) (H : HeAt w' c.hb c.b c.wb c.lb T.A.sweep) (R3 : RowsIn w' (rw1 S.rb S.roots) ls') (F : Fr [c.b, c.wb, c.lb, S.rb] w w') :
    ∃ R : List Int, YAt w0 w' c T.A.sweep { S with roots := R } ex ∧ YI m T.A.sweep { S with roots := R } G3 K3 (keptD C ms) := by
  obtain ⟨R, arr, a1, a2, a3, a4, a5⟩ := ran_one AF Y.n8.1 R3
  exact ⟨R, Y.ran H F a2 a3 a1 a4, hI.after AF a1 a5⟩
/-- One row less. -/
theorem YAt.drop {r : RV} (h : YAt w0 w c A S (r :: ex)) : YAt w0 w c A S ex := by
  have hp : (rowsY S (r :: ex)).Perm (r :: rowsY S ex) := by
    rw [rowsY_ex S (r :: ex), rowsY_ex S ex]
    exact List.perm_middle
  have h1 := h.rows.perm hp
  have hm : ∀ s, s ∈ rowsY S ex → s ∈ rowsY S (r :: ex) := fun s hs => hp.mem_iff.2 (List.mem_cons_of_mem _ hs)
  refine ⟨h.he, h.yc, ⟨fun s hs => h1.ok s (List.mem_cons_of_mem _ hs), fun i j s t x hij hs ht => h1.ne (i + 1) (j + 1) s t x (by omega) (by simpa using hs) (by simpa using ht)⟩, fun s hs => h.far s (hm s hs), h.ap, h.lo, h.n8, h.fr⟩
theorem YAt.mem {r : RV} (h : YAt w0 w c A S (r :: ex)) : r.ok w w0.heap.size := h.rows.ok r (by rw [rowsY_ex]; simp)
def Ac.cells (x : Ac) : Array Value := #[.int .i64 x.kind, .int .i64 x.a, .int .i64 x.b, .int .i64 x.i, .int .i64 x.n, .int .u64 x.w, .int .i64 x.p0, .int .i64 x.p1]
/-- Two worlds of the same model. -/
structure Both (w0 : World) (m : Nat) (c d : Yk) (k : Nat) (A : Ar) (S : Ys) (G K : List Bool) (D : Nat → Option Ob) (E : Ar) (U : Ys) (G2 K2 : List Bool) (D2 : Nat → Option Ob) (w : World) : Prop where
  y : YAt w0 w c A S (rowsOf d E U)
  i : YI m A S G K D
  j : YI m E U G2 K2 D2
  md : S.md = U.md
  n : S.objs.length ≤ k
theorem md_len (h : S.md = U.md) : S.objs.length = U.objs.length := by
  have := congrArg (fun M => M.os.length) h
  simpa [Ys.md] using this
theorem Both.keep {k : Nat} (h : Both w0 m c d k A S G K D E U G2 K2 D2 w) (hF : Fr [] w w') : Both w0 m c d k A S G K D E U G2 K2 D2 w' := { h with y := h.y.keep hF }
theorem Both.other {k : Nat} (h : Both w0 m c d k A S G K D E U G2 K2 D2 w) : YAt w0 w d E U (rowsOf c A S) := h.y.swap h.i.hg.inv.ok h.j.n8
/-- The first of two has stepped. -/
structure Mid (w0 : World) (m : Nat) (c d : Yk) (k : Nat) (x : Ac) (ok : Bool) (M : Md) (A : Ar) (S : Ys) (G K : List Bool) (D : Nat → Option Ob) (E : Ar) (U : Ys) (G2 K2 : List Bool) (D2 : Nat → Option Ob) (w : World) : Prop where
  y : YAt w0 w d E U (rowsOf c A S)
  i : YI m A S G K D
  j : YI m E U G2 K2 D2
  md : S.md = stepM M x ok
  md0 : M = U.md
  n : U.objs.length ≤ k
theorem Both.step1 {k g : Nat} {x y : Ac} (h : Both w0 m c d k A S G K D E U G2 K2 D2 w) (hF : Fr [] w w') (hg : w.heap.size ≤ g) (hb : blk w' g = some (.cells y.cells 80 (0, 0))) (hw : Wd64 x.w) (hk : k < 1000) :
    Calls Try.prog 40 #[.pointer (some ⟨c.y, 0, none⟩), x.v] w' fun e w2 => e = .returned (.bool true) ∧ ∃ ok A' S' G' K' D', Hid (Mid w0 m c d k x ok S.md A' S' G' K' D' E U G2 K2 D2 w2) ∧ blk w2 g = some (.cells y.cells 80 (0, 0)) := by
  have h0 := h.y.fr.size
  have Y1 := h.y.moreA hF (r := ⟨80, 8, .slice (some ⟨g, 0, none⟩) 1 1, 1, y.cells.toList⟩) (blk_row hb (by omega) rfl (by unfold maxLen; omega)) (fun x hx => by
    simp only [Value.ownBlock, Option.some.injEq] at hx
    omega)
  refine (step_c Y1 h.i (by have := h.n; omega) x hw).mono ?_
  rintro e w2 ⟨ok, A', S', G', K', D', rfl, a2, a3, a4⟩
  exact ⟨rfl, ok, A', S', G', K', D', Lib.hid ⟨a2.drop.swap a3.hg.inv.ok h.j.n8, a3, h.j, a4, h.md, by rw [← md_len h.md]; exact h.n⟩, (row_blk a2.mem rfl).1⟩
/-- Both have stepped. -/
structure Dun (w0 : World) (m : Nat) (c d : Yk) (k : Nat) (A : Ar) (S : Ys) (G K : List Bool) (D : Nat → Option Ob) (E : Ar) (U : Ys) (G2 K2 : List Bool) (D2 : Nat → Option Ob) (w : World) : Prop where
  y : YAt w0 w c A S (rowsOf d E U)
  i : YI m A S G K D
  j : YI m E U G2 K2 D2
  md : S.objs.length = U.objs.length → S.md = U.md
  n : S.objs.length ≤ k + 1
theorem Mid.step2 {k : Nat} {x : Ac} {ok : Bool} {M : Md} {q0 q1 : Int} (h : Mid w0 m c d k x ok M A S G K D E U G2 K2 D2 w) (hF : Fr [] w w') (hw : Wd64 x.w) (hk : k < 1000) :
    Calls Try.prog 40 #[.pointer (some ⟨d.y, 0, none⟩), Ac.v { x with p0 := q0, p1 := q1 }] w' fun e w2 => e = .returned (.bool true) ∧ ∃ E' U' G' K' D', Hid (Dun w0 m c d k A S G K D E' U' G' K' D' w2) := by
  refine (step_c (h.y.keep hF) h.j (by have := h.n; omega) { x with p0 := q0, p1 := q1 } hw).mono ?_
  rintro e w2 ⟨ok2, E', U', G', K', D', rfl, a2, a3, a4⟩
  refine ⟨rfl, E', U', G', K', D', Lib.hid ⟨a2.swap a3.hg.inv.ok h.i.n8, h.i, a3, fun hn => ?_, ?_⟩⟩
  · have e1 : ∀ V : Ys, V.md.os.length = V.objs.length := fun V => by simp [Ys.md]
    rw [stepM_plan, ← h.md0] at a4
    have e2 := h.md
    rw [← e1, ← e1, a4, e2] at hn
    rw [a4, e2]
    exact stepM_eq M x ok ok2 hn
  · have e1 : ∀ V : Ys, V.md.os.length = V.objs.length := fun V => by simp [Ys.md]
    have h1 := stepM_len M x ok
    rw [← h.md, e1, h.md0, e1] at h1
    have := h.n
    omega
theorem Dun.both {k : Nat} (h : Dun w0 m c d k A S G K D E U G2 K2 D2 w) (hn : S.objs.length = U.objs.length) : Both w0 m c d (k + 1) A S G K D E U G2 K2 D2 w := ⟨h.y, h.i, h.j, h.md hn, h.n⟩
theorem Dun.other {k : Nat} (h : Dun w0 m c d k A S G K D E U G2 K2 D2 w) : YAt w0 w d E U (rowsOf c A S) := h.y.swap h.i.hg.inv.ok h.j.n8
/-- A run with all roots in one row. -/
theorem one_run (Y : YAt w0 w c A S ex) (hI : YI m A S G K D) (p0 p1 : Int) (wz : World) (bz : Nat) (hF : Fr [] w wz) (hbz : w.heap.size ≤ bz) (hb : blk wz bz = some (.cells #[.slice (some ⟨S.rb, 0, none⟩) 8 8] 26 (0, 0))) :
    Calls Try.prog 36 #[.pointer (some ⟨c.hb, 0, none⟩), .slice (some ⟨bz, 0, none⟩) 1 1, .agg #[.int .i64 p0, .int .i64 p1]] wz (RunG c.hb c.b c.wb c.lb m (rw1 S.rb S.roots) D [S.roots] p0 p1 wz) := by
  have h := Y.keep hF
  obtain ⟨arr, a1, a2, a3⟩ := h.rblk
  have n8 := h.n8.1
  have hlt := Y.lt_all.2.1
  have hall := Y.all_lt
  have h4 : ∀ x, x ∉ c.all → x ∉ [c.hb, c.b, c.wb, c.lb] := fun x hx hm => hx (by
    simp only [Yk.all, List.mem_cons, List.not_mem_nil, or_false] at hm ⊢
    rcases hm with h | h | h | h <;> simp [h])
  have hmem : ∀ l, l ∈ [S.roots] → ∀ x, x ∈ l → ∃ i, i < 8 ∧ S.roots[i]?.getD 0 = x := fun l hl x hx => by
    simp only [List.mem_singleton] at hl
    subst hl
    obtain ⟨i, hi, hix⟩ := List.getElem_of_mem hx
    exact ⟨i, by omega, by rw [List.getElem?_eq_getElem hi, Option.getD_some, hix]⟩
  refine run_law h.he hI.hg hI.un hI.bd (by have := hI.mb.n; omega) hI.closed _ _ _ (rw1_arg n8 hb (by have := hF.size; omega) (by omega) (h4 _ (h.far _ (List.mem_of_getElem? (rowsY_r S ex)) S.rb rfl)) (h4 _ (fun hm => by have := hall _ hm; omega))) (rw1_in n8 a1 a2 a3) ?_ ?_ p0 p1
  · intro l hl x hx
    obtain ⟨i, hi, rfl⟩ := hmem l hl x hx
    obtain ⟨f, _, h2⟩ := hI.rt i hi
    exact h2.wok
  · intro l hl x hx
    obtain ⟨i, hi, rfl⟩ := hmem l hl x hx
    exact hI.rw hi
end Go.Proofs.Ytjgndfhfiekomaa
/- The law CollectPlans holds for every input: the Go function returns true and leaves its arguments as they were. No condition. -/
namespace Go.Proofs.Ytjgndfhfiekomaa.collectPlans
open Go.ChangeShapes Go.WideShapes Go.ChangeAt Go.RowKit Go.Joins
theorem early (n : Int) (a : Option Addr) (len cap : Nat) (p0 p1 : Int) (w : World) (bn : -9223372036854775808 ≤ n ∧ n ≤ 9223372036854775807) (hl : len ≤ maxLen) (h : n < 1 ∨ 8 < n ∨ 100 < len) :
    Calls Try.prog 7 #[.int .i64 n, .slice a len cap, .agg #[.int .i64 p0, .int .i64 p1]] w fun e w' => e = .returned (.bool true) ∧ Below w.heap.size w w' := by
  unfold maxLen at hl
  have FB : ∀ w', Fr [] (w.alloc (.cells #[.int .i64 p0, .int .i64 p1] 72)) w' → Below w.heap.size w w' := fun w' hF => (((Fr.refl [] w).alloc _).same hF).below
  by_cases h1 : n < 1
  · clear h
    go_enter Try.func7, Try.ntmps7
    go_wp2_with fail
    refine (collectAlive_c _).mono ?_
    rintro e w' ⟨rfl, F1⟩
    go_wp2
    go_ret
    exact ⟨rfl, FB _ F1⟩
  by_cases h2 : 8 < n
  · clear h
    go_enter Try.func7, Try.ntmps7
    go_wp2_with fail
    refine (collectAlive_c _).mono ?_
    rintro e w' ⟨rfl, F1⟩
    go_wp2
    go_ret
    exact ⟨rfl, FB _ F1⟩
  · have h3 : 100 < len := by omega
    clear h
    go_enter Try.func7, Try.ntmps7
    go_wp2_with fail
    refine (collectAlive_c _).mono ?_
    rintro e w' ⟨rfl, F1⟩
    go_wp2
    go_ret
    exact ⟨rfl, FB _ F1⟩
/-- Behind one of the two runs: the report's block, what lives. -/
def RunCut (w0 : World) (c : Yk) (ex : List RV) (m : Nat) (S : Ys) (D : Nat → Option Ob) (B : Nat) (L : List Nat) (wr : World) (s : Value) (wx : World) : Prop :=
  ∃ (rx : Nat) (cl : Int → Int) (T : Tr) (R : List Int) (ls' : List (List Int)) (G K G1 K1 : List Bool) (C D1 : Nat → Option Ob) (ms : List Nat) (A : Ar), s = .pointer (some ⟨rx, 0, none⟩) ∧ B ≤ rx ∧ blk wx rx = some (.cells #[.int .i64 T.live, .int .i64 T.moved, .int .i64 (emptyIn T.A.sweep.lines m)] 69 (0, 0)) ∧
    Hid (After D m cl [S.roots] ls' T G K C ms) ∧ Hid (YAt w0 wx c A { S with roots := R } ex) ∧ Hid (YI m A { S with roots := R } G1 K1 D1) ∧ Hid (Fr L wr wx)
theorem run_fin {w0 wr w3 wx : World} {c : Yk} {A : Ar} {S : Ys} {ex : List RV} {m rx : Nat} {G K G3 K3 : List Bool} {D C : Nat → Option Ob} {ms : List Nat} {cl : Int → Int} {T : Tr} {ls' : List (List Int)} (Y : YAt w0 wr c A S ex) (hI : YI m A S G K D) (AF : After D m cl [S.roots] ls' T G3 K3 C ms)
    (H3 : HeAt w3 c.hb c.b c.wb c.lb T.A.sweep) (R3 : RowsIn w3 (rw1 S.rb S.roots) ls') (F4 : Fr [c.b, c.wb, c.lb, S.rb] wr w3) (hrx : wr.heap.size ≤ rx) (FX : Fr [rx] w3 wx)
    (hb : blk wx rx = some (.cells #[.int .i64 T.live, .int .i64 T.moved, .int .i64 (emptyIn T.A.sweep.lines m)] 69 (0, 0))) : RunCut w0 c ex m S D wr.heap.size [c.b, c.wb, c.lb, S.rb] wr (.pointer (some ⟨rx, 0, none⟩)) wx := by
  have hall := Y.all_lt
  have hr2 := Y.lt_all.2.1
  have ha : ∀ x, x ∈ c.all → x ≠ rx := fun x hx he => by have := hall x hx; omega
  have m1 : c.hb ∈ c.all ∧ c.b ∈ c.all ∧ c.wb ∈ c.all ∧ c.lb ∈ c.all := by simp [Yk.all]
  have F5 : Fr [c.b, c.wb, c.lb, S.rb] wr wx := F4.trans FX (fun x hx => by simp only [List.mem_singleton] at hx; right; omega)
  have H5 := H3.fr FX (by simpa using ha _ m1.1) (by simpa using ha _ m1.2.1) (by simpa using ha _ m1.2.2.1) (by simpa using ha _ m1.2.2.2)
  have R5 : RowsIn wx (rw1 S.rb S.roots) ls' := R3.keep (fun r hr o ho => FX.at ho (by
    simp only [rw1, List.mem_singleton] at hr
    simp only [List.mem_singleton]
    subst hr
    simp only
    omega))
  obtain ⟨R, a1, a2⟩ := one_fin Y hI AF H5 R5 F5
  exact ⟨rx, cl, T, R, ls', _, _, _, _, C, _, ms, _, rfl, hrx, hb, Lib.hid AF, Lib.hid a1, Lib.hid a2, Lib.hid F5⟩
set_option maxRecDepth 100000 in
set_option maxHeartbeats 8000000 in
theorem main (m : Nat) (a : Option Addr) (len cap : Nat) (N : Nat → Nat → Int) (p0 p1 : Int) (w : World) (hm : 1 ≤ m ∧ m ≤ 8) (hl : len ≤ 100) (hN : IsActs16 w a len cap N) :
    Calls Try.prog 7 #[.int .i64 (m : Int), .slice a len cap, .agg #[.int .i64 p0, .int .i64 p1]] w fun e w' => e = .returned (.bool true) ∧ Below w.heap.size w w' := by
  have HM : Hid (blocksOf (m : Int) = m) := Lib.hid (by
    unfold blocksOf
    split
    · omega
    · split <;> omega)
  have HN := Lib.hid hN
  have hcap := hN.2.2.1
  have F0 := Lib.hid (show Fr [] w (w.alloc (.cells #[.int .i64 p0, .int .i64 p1] 72)) from (Fr.refl _ _).alloc _)
  have P0 := Lib.hid (b1a w (.cells #[.int .i64 p0, .int .i64 p1] 72))
  clear hN
  go_enter Try.func7, Try.ntmps7
  go_wp2_with fail
  refine (collectAlive_c _).mono ?_
  rintro e w1 ⟨rfl, F1⟩
  have P1 := Lib.hid (F1.at P0.out (by simp))
  have F1 := Lib.hid (F0.out.same F1)
  clear F0 P0
  go_wp2_with fail
  refine (ymade_c _ _ HM.out).mono ?_
  rintro e w2 ⟨c, rb, mv, rfl, YM⟩
  have YM := Lib.hid YM
  go_wp2_with fail
  refine (ymade_c _ _ HM.out).mono ?_
  rintro e w3 ⟨d, rb2, mv2, rfl, YN⟩
  obtain ⟨G0, K0, D0, I0⟩ := y0_paper (m := m) rb mv (by omega) (by omega)
  obtain ⟨G1, K1, D1, I1⟩ := y0_paper (m := m) rb2 mv2 (by omega) (by omega)
  have BO : Hid (Both w1 m c d 0 (Ar.new m) (Y0 rb mv) G0 K0 D0 (Ar.new m) (Y0 rb2 mv2) G1 K1 D1 w3) := Lib.hid ⟨YM.out.join YN I0.hg.inv.ok I1.hg.inv.ok, I0, I1, rfl, Nat.le_refl _⟩
  clear YM YN I0 I1
  obtain ⟨S0, hS0⟩ : ∃ S0, S0 = Y0 rb mv := ⟨_, rfl⟩
  obtain ⟨U0, hU0⟩ : ∃ U0, U0 = Y0 rb2 mv2 := ⟨_, rfl⟩
  obtain ⟨A0, hA0⟩ : ∃ A0, A0 = Ar.new m := ⟨_, rfl⟩
  rw [← hS0, ← hU0, ← hA0] at BO
  clear hS0 hU0 hA0
  obtain ⟨px, hpx⟩ : ∃ px, px = w.heap.size := ⟨_, rfl⟩
  have HPX := Lib.hid hpx
  rw [← hpx] at P1 ⊢
  clear hpx
  have HP1 := Lib.hid (lt_size P1.out)
  go_wp2_with fail
  go_loopw [10, 11, 33] (fun _ _ u wr => ∃ (k : Nat) (A : Ar) (S : Ys) (G K : List Bool) (D : Nat → Option Ob) (E : Ar) (U : Ys) (G2 K2 : List Bool) (D2 : Nat → Option Ob), k ≤ len ∧ u = .int .i64 (k : Int) ∧ Hid (Both w1 m c d k A S G K D E U G2 K2 D2 wr)) (fun _ _ u _ => len - (intOf u).toNat)
  case atStart => exact ⟨0, _, S0, _, _, _, _, U0, _, _, _, by omega, by go_num, BO⟩
  case round =>
    obtain ⟨k, A, S, G, K, D, E, U, G2, K2, D2, hk, rfl, BK⟩ := hrel
    clear BO
    have FK := Lib.hid (F1.out.same BK.out.y.fr)
    have PR := Lib.hid (BK.out.y.fr.at P1.out (by simp))
    by_cases hlt : k < len
    · obtain ⟨ab, ao, rfl⟩ : ∃ ab ao, a = some ⟨ab, ao, none⟩ := by
        rcases HN.out.1 with h | ⟨b, o, h, _⟩
        · omega
        · exact ⟨b, o, h⟩
      obtain ⟨a0, a1, a2, a3, a4, a5, a6, a7, hab⟩ := acts16_at HN.out.1 FK.out (by simp) k hlt
      have hsz : ab < wr.heap.size := by have := FK.out.size; omega
      have hps : px < wr.heap.size := by have := HP1.out; have := BK.out.y.fr.size; omega
      have q0 := cell_of PR.out (i := 0) rfl
      have q1 := cell_of PR.out (i := 1) rfl
      have hne : ab ≠ wr.heap.size := by omega
      have hne1 : px ≠ wr.heap.size := by omega
      have hne2 : px ≠ wr.heap.size + 1 := by omega
      have hw : Hid (Wd64 (actN N k).w) := Lib.hid (by
        have := HN.out.2.1 k 5 hlt (by omega)
        have h2 := bounds_u64 this
        unfold Wd64 actN
        simp only
        omega)
      have SC : Hid (∀ wz, Fr [] wr wz → blk wz (wr.heap.size + 1) = some (.cells #[.int .i64 (N k 0), .int .i64 (N k 1), .int .i64 (N k 2), .int .i64 (N k 3), .int .i64 (N k 4), .int .u64 (N k 5), .int .i64 (p0), .int .i64 (p1)] 80 (0, 0)) → Calls Try.prog 40 #[.pointer (some ⟨c.y, 0, none⟩), .agg #[.int .i64 (N k 0), .int .i64 (N k 1), .int .i64 (N k 2), .int .i64 (N k 3), .int .i64 (N k 4), .int .u64 (N k 5), .int .i64 (N k 6), .int .i64 (N k 7)]] wz fun e w2 => e = .returned (.bool true) ∧ ∃ ok A' S' G' K' D', Hid (Mid w1 m c d k (actN N k) ok S.md A' S' G' K' D' E U G2 K2 D2 w2) ∧ blk w2 (wr.heap.size + 1) = some (.cells #[.int .i64 (N k 0), .int .i64 (N k 1), .int .i64 (N k 2), .int .i64 (N k 3), .int .i64 (N k 4), .int .u64 (N k 5), .int .i64 (p0), .int .i64 (p1)] 80 (0, 0))) :=
        Lib.hid (fun wz hF hb => BK.out.step1 (x := actN N k) (y := { actN N k with p0 := p0, p1 := p1 }) hF (by omega) hb hw.out (by omega))
      clear BK PR
      go_wp2_with fail
      refine (SC.out _ (((Fr.refl _ _).alloc _).alloc _) (b2b _ _ _)).mono ?_
      rintro e w4 ⟨rfl, ok, A', S', G', K', D', MI, B4⟩
      have ST : Hid (Calls Try.prog 40 #[.pointer (some ⟨d.y, 0, none⟩), .agg #[.int .i64 (N k 0), .int .i64 (N k 1), .int .i64 (N k 2), .int .i64 (N k 3), .int .i64 (N k 4), .int .u64 (N k 5), .int .i64 (p0), .int .i64 (p1)]] w4 fun e w2 => e = .returned (.bool true) ∧ ∃ E' U' G2' K2' D2', Hid (Dun w1 m c d k A' S' G' K' D' E' U' G2' K2' D2' w2)) := Lib.hid (MI.out.step2 (x := actN N k) (q0 := p0) (q1 := p1) (Fr.refl _ _) hw.out (by omega))
      have b0 := cell_of B4 (i := 0) rfl
      have b1 := cell_of B4 (i := 1) rfl
      have b2 := cell_of B4 (i := 2) rfl
      have b3 := cell_of B4 (i := 3) rfl
      have b4 := cell_of B4 (i := 4) rfl
      have b5 := cell_of B4 (i := 5) rfl
      have b6 := cell_of B4 (i := 6) rfl
      have b7 := cell_of B4 (i := 7) rfl
      clear SC MI B4 a0 a1 a2 a3 a4 a5 a6 a7 q0 q1 hab hsz hps hne hne1 hne2
      go_wp2_with fail
      refine ST.out.mono ?_
      rintro e w5 ⟨rfl, E', U', G2', K2', D2', DN⟩
      clear ST b0 b1 b2 b3 b4 b5 b6 b7
      have y2 : w5.cell? ⟨c.y, 2, none⟩ = some S'.ov := DN.out.y.y2
      have z2 : w5.cell? ⟨d.y, 2, none⟩ = some U'.ov := DN.out.other.y2
      obtain ⟨oa, ocap, hov, hoc⟩ := DN.out.y.oform
      obtain ⟨ua, ucap, huv, huc⟩ := DN.out.other.oform
      rw [hov] at y2
      rw [huv] at z2
      obtain ⟨n, hn⟩ : ∃ n, n = S'.objs.length := ⟨_, rfl⟩
      obtain ⟨u, hu⟩ : ∃ u, u = U'.objs.length := ⟨_, rfl⟩
      rw [← hn] at y2
      rw [← hu] at z2
      have HN1 := Lib.hid hn
      have HU1 := Lib.hid hu
      clear hn hu hov huv hoc huc
      by_cases hnu : n = u
      · have hb : ((n : Int) != (u : Int)) = false := by simp; omega
        have BN : Hid (Both w1 m c d (k + 1) A' S' G' K' D' E' U' G2' K2' D2' w5) := Lib.hid (DN.out.both (by rw [← HN1.out, ← HU1.out]; exact hnu))
        have hnu := Lib.hid hnu
        go_wp2
        go_region
        go_wp2
        go_roundw
        case rel => exact ⟨k + 1, _, _, _, _, _, _, _, _, _, _, by omega, by go_num, Lib.hid (BN.out.keep (Fr.refl _ _).drew)⟩
        case measure => simp [intOf]; omega
      · have hb : ((n : Int) != (u : Int)) = true := by simp; omega
        have hc : ¬ ((n : Int) = (u : Int)) := by omega
        have F5 := Lib.hid (F1.out.same DN.out.y.fr)
        go_wp2
        go_region
        go_wp2
        go_ret
        exact ⟨rfl, F5.out.drew.below⟩
    · have HJK := Lib.hid hlt
      clear HN
      have HPD : Hid (px ∉ [d.b, d.wb, d.lb, U.rb]) := Lib.hid (fun hx => by
        have h1 := HP1.out
        have h2 := BK.out.other.lo
        have h3 := (own_lt' (BK.out.other.rows.at (rowsY_r _ _)) U.rb rfl).1
        simp only [Yk.all, List.mem_cons, List.not_mem_nil, or_false] at h2 hx
        have h4 := h2 d.b (by simp)
        have h5 := h2 d.wb (by simp)
        have h6 := h2 d.lb (by simp)
        omega)
      have RN : Hid (∀ (wz : World) (bz : Nat), Fr [] wr wz → wr.heap.size ≤ bz → blk wz bz = some (.cells #[.slice (some ⟨S.rb, 0, none⟩) 8 8] 26 (0, 0)) → Calls Try.prog 36 #[.pointer (some ⟨c.hb, 0, none⟩), .slice (some ⟨bz, 0, none⟩) 1 1, .agg #[.int .i64 (0), .int .i64 (0)]] wz (RunG c.hb c.b c.wb c.lb m (rw1 S.rb S.roots) D [S.roots] (0) (0) wz)) := Lib.hid (fun wz bz hF hbz hb => one_run BK.out.y BK.out.i (0) (0) wz bz hF hbz hb)
      have NRX : Hid (∀ x, wr.heap.size ≤ x → x ∉ (c.b :: c.wb :: c.lb :: (rw1 S.rb S.roots).map Rw.g)) := Lib.hid (fun x hx hm => by
        have hall := (BK.out.y).all_lt
        have hr2 := (BK.out.y).lt_all.2.1
        have b1 := hall c.b (by simp [Yk.all])
        have b2 := hall c.wb (by simp [Yk.all])
        have b3 := hall c.lb (by simp [Yk.all])
        simp only [rw1, List.map_cons, List.map_nil, List.mem_cons, List.not_mem_nil, or_false] at hm
        omega)
      go_wp2_with fail
      go_cut [12] (fun sx wx => RunCut w1 c (rowsOf d E U) m S D wr.heap.size [c.b, c.wb, c.lb, S.rb] wr sx wx)
      case first =>
        have hyl : c.y < wr.heap.size := (BK.out.y).lt_all.1
        have y0 : wr.cell? ⟨c.y, 0, none⟩ = some (.pointer (some ⟨c.hb, 0, none⟩)) := (BK.out.y).y0
        have y1 : wr.cell? ⟨c.y, 1, none⟩ = some (.slice (some ⟨S.rb, 0, none⟩) 8 8) := (BK.out.y).y1
        have hy4 : c.y ∉ [c.b, c.wb, c.lb, S.rb] := by
          have h1 := (BK.out.y).yne.1
          have h2 := (BK.out.y).ny.1
          simp only [List.mem_cons, List.not_mem_nil, or_false, not_or] at h1 ⊢
          exact ⟨h1.1, h1.2.1, h1.2.2, h2⟩
        have KC : Hid (∀ wz, Fr [c.b, c.wb, c.lb, S.rb] wr wz → wz.cell? ⟨c.y, 0, none⟩ = some (.pointer (some ⟨c.hb, 0, none⟩)) ∧ wz.cell? ⟨c.y, 1, none⟩ = some (.slice (some ⟨S.rb, 0, none⟩) 8 8)) := Lib.hid (fun wz hF => ⟨cell_fr y0 hF hy4, cell_fr y1 hF hy4⟩)
        go_region_held3 (fun W => W.cell? ⟨c.y, 0, none⟩ = some (.pointer (some ⟨c.hb, 0, none⟩)) ∧ W.cell? ⟨c.y, 1, none⟩ = some (.slice (some ⟨S.rb, 0, none⟩) 8 8)) (first | with_reducible assumption | exact KC.out _ (by repeat (first | with_reducible assumption | exact Fr.refl _ _ | apply Fr.drew | apply Fr.alloc | (refine Fr.setCell ?_ (.inr (by omega)) _)))) (first | (go_at_call 36; refine (RN.out _ _ (by repeat (first | exact Fr.refl _ _ | apply Fr.drew | apply Fr.alloc)) (by omega) (by first | exact b1a wr _ | exact b2b wr _ _ | exact b2a wr _ _)).mono ?_; rintro e w3 ⟨cl, T, ls', G', K', C, ms, AF, hcz, rfl, H3, R3, F3⟩; clear hcz; have F4 : Fr [c.b, c.wb, c.lb, S.rb] wr w3 := Fr.pre (by repeat (first | exact Fr.refl _ _ | apply Fr.drew | apply Fr.alloc)) (F3.mono (fun x hx => .inl (by simpa [rw1] using hx))); first | (refine rep_then (rx := wr.heap.size) (v0 := .int .i64 0) (v1 := .int .i64 0) (v2 := .int .i64 0) (t := 69) F3 ?_ ?_ ?_; (focus (first | exact b1a wr _ | exact b2b wr _ _ | exact b2a wr _ _)); exact NRX.out _ (by omega); rintro ⟨qb, q0, q1, q2, q3, q4, q5⟩) | (refine rep_then (rx := wr.heap.size + 1) (v0 := .int .i64 0) (v1 := .int .i64 0) (v2 := .int .i64 0) (t := 69) F3 ?_ ?_ ?_; (focus (first | exact b1a wr _ | exact b2b wr _ _ | exact b2a wr _ _)); exact NRX.out _ (by omega); rintro ⟨qb, q0, q1, q2, q3, q4, q5⟩) | skip))
        all_goals
          go_wp2_with fail
          go_meet
          first
          | exact run_fin (BK.out.y) (BK.out.i) AF H3 R3 F4 F4.size (((Fr.refl [w3.heap.size] w3).alloc _)) (b1a w3 _)
          | exact run_fin (BK.out.y) (BK.out.i) AF H3 R3 F4 (by omega) ((((Fr.refl [_] w3).setCell (by simp) _).setCell (by simp) _).setCell (by simp) _) (by rw [blk_set, if_pos rfl, blk_set, if_pos rfl, blk_set, if_pos rfl, qb]; rfl)
      case rest =>
        obtain ⟨rx, cl, T, R, ls', G', K', G1, K1, C, D1, ms, A1, rfl, hrx, RB, AF, Y1, I1, FX⟩ := hcut
        generalize wc = wa at *
        have YD := Lib.hid (Y1.out.swap I1.out.hg.inv.ok BK.out.j.n8)
        have PA := Lib.hid (Y1.out.fr.at P1.out (by simp))
        have HRX := Lib.hid (show rx ∉ [d.b, d.wb, d.lb, U.rb] from fun hx => by
          have h2 := BK.out.other.all_lt
          have h3 := BK.out.other.lt_all.2.1
          simp only [Yk.all, List.mem_cons, List.not_mem_nil, or_false] at h2 hx
          have h4 := h2 d.b (by simp)
          have h5 := h2 d.wb (by simp)
          have h6 := h2 d.lb (by simp)
          omega)
        have RB := Lib.hid RB
        have HW := Lib.hid hrx
        clear RN NRX hrx
        have RN2 : Hid (∀ (wz : World) (bz : Nat), Fr [] wa wz → wa.heap.size ≤ bz → blk wz bz = some (.cells #[.slice (some ⟨U.rb, 0, none⟩) 8 8] 26 (0, 0)) → Calls Try.prog 36 #[.pointer (some ⟨d.hb, 0, none⟩), .slice (some ⟨bz, 0, none⟩) 1 1, .agg #[.int .i64 (p0), .int .i64 (p1)]] wz (RunG d.hb d.b d.wb d.lb m (rw1 U.rb U.roots) D2 [U.roots] (p0) (p1) wz)) := Lib.hid (fun wz bz hF hbz hb => one_run YD.out BK.out.j (p0) (p1) wz bz hF hbz hb)
        have NRX2 : Hid (∀ x, wa.heap.size ≤ x → x ∉ (d.b :: d.wb :: d.lb :: (rw1 U.rb U.roots).map Rw.g)) := Lib.hid (fun x hx hm => by
          have hall := (YD.out).all_lt
          have hr2 := (YD.out).lt_all.2.1
          have b1 := hall d.b (by simp [Yk.all])
          have b2 := hall d.wb (by simp [Yk.all])
          have b3 := hall d.lb (by simp [Yk.all])
          simp only [rw1, List.map_cons, List.map_nil, List.mem_cons, List.not_mem_nil, or_false] at hm
          omega)
        go_wp2_with fail
        go_cut [13] (fun sx wx => RunCut w1 d (rowsOf c A1 { S with roots := R }) m U D2 wa.heap.size [d.b, d.wb, d.lb, U.rb] wa sx wx)
        case first =>
          have hyl : d.y < wa.heap.size := (YD.out).lt_all.1
          have y0 : wa.cell? ⟨d.y, 0, none⟩ = some (.pointer (some ⟨d.hb, 0, none⟩)) := (YD.out).y0
          have y1 : wa.cell? ⟨d.y, 1, none⟩ = some (.slice (some ⟨U.rb, 0, none⟩) 8 8) := (YD.out).y1
          have hy4 : d.y ∉ [d.b, d.wb, d.lb, U.rb] := by
            have h1 := (YD.out).yne.1
            have h2 := (YD.out).ny.1
            simp only [List.mem_cons, List.not_mem_nil, or_false, not_or] at h1 ⊢
            exact ⟨h1.1, h1.2.1, h1.2.2, h2⟩
          have k0 := cell_of PA.out (i := 0) rfl
          have k1 := cell_of PA.out (i := 1) rfl
          have hp4 : px ∉ [d.b, d.wb, d.lb, U.rb] := HPD.out
          have KC : Hid (∀ wz, Fr [d.b, d.wb, d.lb, U.rb] wa wz → wz.cell? ⟨d.y, 0, none⟩ = some (.pointer (some ⟨d.hb, 0, none⟩)) ∧ wz.cell? ⟨d.y, 1, none⟩ = some (.slice (some ⟨U.rb, 0, none⟩) 8 8) ∧ wz.cell? ⟨px, 0, none⟩ = some (.int .i64 p0) ∧ wz.cell? ⟨px, 1, none⟩ = some (.int .i64 p1)) := Lib.hid (fun wz hF => ⟨cell_fr y0 hF hy4, cell_fr y1 hF hy4, cell_fr k0 hF hp4, cell_fr k1 hF hp4⟩)
          go_region_held3 (fun W => W.cell? ⟨d.y, 0, none⟩ = some (.pointer (some ⟨d.hb, 0, none⟩)) ∧ W.cell? ⟨d.y, 1, none⟩ = some (.slice (some ⟨U.rb, 0, none⟩) 8 8) ∧ W.cell? ⟨px, 0, none⟩ = some (.int .i64 p0) ∧ W.cell? ⟨px, 1, none⟩ = some (.int .i64 p1)) (first | with_reducible assumption | exact KC.out _ (by repeat (first | with_reducible assumption | exact Fr.refl _ _ | apply Fr.drew | apply Fr.alloc | (refine Fr.setCell ?_ (.inr (by omega)) _)))) (first | (go_at_call 36; refine (RN2.out _ _ (by repeat (first | exact Fr.refl _ _ | apply Fr.drew | apply Fr.alloc)) (by omega) (by first | exact b1a wa _ | exact b2b wa _ _ | exact b2a wa _ _)).mono ?_; rintro e w3 ⟨cl, T, ls', G', K', C, ms, AF, hcz, rfl, H3, R3, F3⟩; clear hcz; have F4 : Fr [d.b, d.wb, d.lb, U.rb] wa w3 := Fr.pre (by repeat (first | exact Fr.refl _ _ | apply Fr.drew | apply Fr.alloc)) (F3.mono (fun x hx => .inl (by simpa [rw1] using hx))); first | (refine rep_then (rx := wa.heap.size) (v0 := .int .i64 0) (v1 := .int .i64 0) (v2 := .int .i64 0) (t := 69) F3 ?_ ?_ ?_; (focus (first | exact b1a wa _ | exact b2b wa _ _ | exact b2a wa _ _)); exact NRX2.out _ (by omega); rintro ⟨qb, q0, q1, q2, q3, q4, q5⟩) | (refine rep_then (rx := wa.heap.size + 1) (v0 := .int .i64 0) (v1 := .int .i64 0) (v2 := .int .i64 0) (t := 69) F3 ?_ ?_ ?_; (focus (first | exact b1a wa _ | exact b2b wa _ _ | exact b2a wa _ _)); exact NRX2.out _ (by omega); rintro ⟨qb, q0, q1, q2, q3, q4, q5⟩) | skip))
          all_goals
            go_wp2_with fail
            go_meet
            first
            | exact run_fin (YD.out) (BK.out.j) AF H3 R3 F4 F4.size (((Fr.refl [w3.heap.size] w3).alloc _)) (b1a w3 _)
            | exact run_fin (YD.out) (BK.out.j) AF H3 R3 F4 (by omega) ((((Fr.refl [_] w3).setCell (by simp) _).setCell (by simp) _).setCell (by simp) _) (by rw [blk_set, if_pos rfl, blk_set, if_pos rfl, blk_set, if_pos rfl, qb]; rfl)
        case rest =>
          obtain ⟨rx2, cl2, T2, R2, ls2', G2', K2', G3, K3, C2, D3, ms2, A2, rfl, hrx2, RB2, AF2, Y3, I3, FX2⟩ := hcut
          generalize wc = wb at *
          have HL := live_eq BK.out.i AF.out one_roots BK.out.j AF2.out one_roots BK.out.md
          have RBK := FX2.out.at RB.out HRX.out
          have r0 := cell_of RBK (i := 0) rfl
          have s0 := cell_of RB2 (i := 0) rfl
          rw [← HL] at s0
          obtain ⟨lv, hlv⟩ : ∃ lv, lv = T.live := ⟨_, rfl⟩
          rw [← hlv] at r0 s0
          have YC := Lib.hid (Y3.out.swap I3.out.hg.inv.ok I1.out.n8)
          have FE := Lib.hid (F1.out.same Y3.out.fr)
          clear HL RBK RB RB2 hlv RN2 NRX2 AF AF2 FX FX2 hrx2
          go_wp2_with fail
          refine (same_c YC.out I1.out).mono ?_
          rintro e wd ⟨rfl, F3⟩
          have Y5 := Lib.hid (Y3.out.keep F3)
          have F3 := Lib.hid F3
          go_wp2_with fail
          refine (same_c Y5.out I3.out).mono ?_
          rintro e we ⟨rfl, F4⟩
          have F6 := Lib.hid ((FE.out.same F3.out).same F4)
          clear Y5 F3 F4
          go_wp2
          go_ret
          exact ⟨rfl, F6.out.below⟩
/-- A plan, as an argument. -/
def zeroP : Value := .agg #[.int .i64 0, .int .i64 0]
theorem cells_plan : Try.prog.cellsOf 3 = 1 := by kernel_rfl
set_option maxRecDepth 100000 in
theorem open_plan {H : Type} {enc : TypeId × Value → H} {W : World} {d : DataW H} {p : List MemPlace} {base : Nat} {v : Value} (hv : Value.okWide Try.prog W .any base 72 v) (h : DataW.Trod enc Try.prog W 0 (fun _ => true) true 72 v d p) : ∃ z : Int × Int, v = .agg #[.int .i64 z.1, .int .i64 z.2] ∧ True := by
  obtain ⟨c0, c1, y0, y1, m, rfl, rfl, rfl, hy0, hy1⟩ := open_agg2 Try.underlying72 (by kernel_rfl) (by kernel_rfl) hv h
  obtain ⟨a, e0, _⟩ := DataW.trod_int Try.underlying3 hy0
  obtain ⟨b, e1, _⟩ := DataW.trod_int Try.underlying3 hy1
  simp at e0 e1
  subst e0 e1
  exact ⟨(a, b), rfl, trivial⟩
theorem walk (n : Int) (a : Option Addr) (len cap : Nat) (N : Nat → Nat → Int) (z : Int × Int) (w : World) (w0 : (Lit.int .i64 n).wf = true) (hN : IsActs16 w a len cap N) (_ : True) :
    Calls Try.prog 7 #[.int .i64 n, .slice a len cap, .agg #[.int .i64 z.1, .int .i64 z.2]] w fun e w' => e = .returned (.bool true) ∧ Below w.heap.size w w' := by
  have bn := bounds_i64 w0
  by_cases h : n < 1 ∨ 8 < n ∨ 100 < len
  · exact early n a len cap z.1 z.2 w bn (by have := hN.2.2; omega) h
  · have := main n.toNat a len cap N z.1 z.2 w (by omega) (by omega) hN
    rwa [show ((n.toNat : Nat) : Int) = n from by omega] at this
theorem own : ownKnob Try.prog.godebug = none := by kernel_rfl
theorem laidOut : laidOutB Try.prog = true := by kernel_rfl
set_option maxRecDepth 100000 in
theorem lifted (os : Os) (started : os.Started) (H : Type) (enc : TypeId × Value → H) :
    ReturnsInHanded {} Try.checked os 7 .any (Rows.collectPlansSpec.pre6 enc Try.prog Try.f7 Rows.collectPlansRow.domain false) (Rows.collectPlansSpec.post enc Try.prog Try.f7 false true false false) := by
  refine returnsInHanded_of_change (C := Try.checked) own started (by kernel_rfl) Try.func7
    (ChangeSpec.witness6 (enc := enc) (C := Try.checked) false ⟨#[], #[.int .i64 0, .slice none 0 0, zeroP], []⟩ 8 (by kernel_rfl) (by kernel_rfl) (by kernel_rfl) (by kernel_rfl)) ?_
  intro W base args ds gs before hval0 hW hcnd _
  have hval : ∀ (j : Nat) t v, Try.f7.params[j]? = some t → args[j]? = some v → Value.okWide Try.prog W .any base t v := hval0
  have hW' := hW
  obtain ⟨p, q, hA0, hV, rfl, hfz, hnd⟩ := hW
  have hA : DataW.TrodAll enc Try.prog W 0 (fun _ => true) true Try.f7.params.toList args.toList ds p := hA0
  rw [Try.params7] at hA hval
  obtain ⟨v0, vs0, d0, ds0, p0, q0, hargs, rfl, rfl, h0, r0⟩ := trodAll_cons hA
  obtain ⟨v1, vs1, d1, ds1, p1, q1, rfl, rfl, rfl, h1, r1⟩ := trodAll_cons r0
  obtain ⟨v2, vs2, d2, ds2, p2, q2, rfl, rfl, rfl, h2, r2⟩ := trodAll_cons r1
  obtain ⟨rfl, rfl, rfl⟩ := trodAll_nil r2
  obtain rfl : args = #[v0, v1, v2] := by cases args; simp_all
  obtain ⟨rfl, rfl⟩ := trodVars_none hV
  obtain ⟨a0, rfl, rfl, rfl, w0⟩ := open_int Try.underlying3 (hval 0 3 v0 rfl rfl) h0
  obtain ⟨a1, len1, cap1, rfl⟩ := okWide_slice Try.underlying76 (hval 1 76 v1 rfl rfl)
  have k1 := h1
  have lt1 : ∀ x ∈ p1, x.block < W.heap.size := by obtain ⟨m, hm⟩ := k1; exact DataW.trod_lt m _ _ _ hm
  obtain ⟨z1, w1⟩ := opener16 h1
  have k2 := h2
  have lt2 : ∀ x ∈ p2, x.block < W.heap.size := by obtain ⟨m, hm⟩ := k2; exact DataW.trod_lt m _ _ _ hm
  obtain ⟨z2, rfl, w2⟩ := open_plan (hval 2 72 v2 rfl rfl) h2
  clear hA0 hval0
  refine (walk a0 a1 len1 cap1 z1 z2 W w0 w1 w2).mono fun e W' ⟨he, bel⟩ => ?_
  subst he
  exact ⟨_, rfl, _, _, _, [], _, [], hW', trodAll_mk1 (shut_bool Try.underlying4 _), (trodAll_cons_mk (shut_int Try.underlying3 w0) (trodAll_cons_mk (Below.trod laidOut (by kernel_rfl) (of_decide_eq_true (by kernel_rfl)) k1 bel lt1) (trodAll_cons_mk (Below.trod laidOut (by kernel_rfl) (of_decide_eq_true (by kernel_rfl)) k2 bel lt2) trodAll_mk0))), rfl, bel.frame _, fun h => by cases h⟩
theorem over : Rows.collectPlansRow.holds Try.pinned (OpenSpec.ofChange Rows.collectPlansSpec) :=
  OpenClaim.holds_of_wide 7 Try.f7 rfl rfl rfl rfl rfl rfl rfl ⟨rfl, rfl, rfl, rfl, rfl⟩ rfl rfl rfl rfl rfl (by kernel_rfl) Try.func7 (by kernel_rfl)
    (of_decide_eq_true (by kernel_rfl)) (by unfold Func.isWrapper; first | (rw [if_pos (by decide +kernel)]; kernel_rfl) | (rw [if_neg (by decide +kernel)]; exact ⟨rfl, rfl⟩))
    (fun os started H enc _ => lifted os started H enc)
/-- THE STATEMENT -/
theorem proved : Rows.CollectPlansSaid := over
#print axioms proved
end Go.Proofs.Ytjgndfhfiekomaa.collectPlans
