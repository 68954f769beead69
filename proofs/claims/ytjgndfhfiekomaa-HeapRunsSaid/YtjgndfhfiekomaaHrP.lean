/- Append of a slice that may be nil; objects behind one another. -/
import Derived.Test.YtjgndfhfiekomaaHrN
import Derived.Deep.RegionHeld3
set_option linter.all false
namespace Go.Proofs.Ytjgndfhfiekomaa
open Go.ChangeShapes Go.WideShapes Go.RowKit
variable {B0 : Nat} {w w' : World} {oa : Option Addr} {oc : Nat} {O : List RO} {r : RO}
theorem wpList_appQ {ops : Array Oper} {rest : List Oper} {o : Oper} {a : Act} {Q : Exit → Act → World → Prop} (w : World) (hgd : o.guard = none) (s x : Operand) (t : TypeId)
    (ho : o.op = .call { callee := .builtin .append, args := #[s, x], argTypes := #[t, t] })
    (base : Nat) (e : TypeId) (i : TypeInfo) (z : Value) (size bytes : Nat) (ht : Try.prog.underlying t = some (.slice e)) (hi : Try.prog.info? e = some i) (hz : i.zero = some z)
    (hsize : i.size = size) (hby : i.bytes = bytes) (hzs : z.cells.size = size) (hsz : 0 < size)
    (g0 c0 n : Nat) (xs : List Value) (hs : a.eval s = .slice (some ⟨g0, 0, none⟩) n c0) (hown : w.ownsRow base e size (.slice (some ⟨g0, 0, none⟩) n c0) n xs)
    (oa : Option Addr) (m c : Nat) (news : List Value) (hx : a.eval x = .slice oa m c) (hl : news.length = m * size) (hnews : m = 0 ∨ ∃ ad, oa = some ad ∧ ∀ j u, news[j]? = some u → w.cell? (ad.add j) = some u) (h1 : ∀ u ∈ news, u.oneCell' = true)
    (h63 : n + m ≤ maxLen) (hbytes : (n + m) * bytes ≤ 140737488355328) (hbase : base ≤ w.heap.size)
    (h : ∀ g cap w', w'.ownsRow base e size (.slice (some ⟨g, 0, none⟩) (n + m) cap) (n + m) (xs ++ news) → Fr [g0] w w' → (g = g0 ∨ w.heap.size ≤ g) → wpList Try.prog ops Q rest (a.put o.dst (.slice (some ⟨g, 0, none⟩) (n + m) cap)) w') : wpList Try.prog ops Q (o :: rest) a w := by
  rcases hnews with hm | ⟨ad, rfl, hnews⟩
  · subst hm
    have hn0 : news = [] := List.eq_nil_of_length_eq_zero (by rw [hl, Nat.zero_mul])
    subst hn0
    have hc := own_cap hown
    have hr : (Builtin.append_ #[t, t] o.type #[.slice (some ⟨g0, 0, none⟩) n c0, .slice oa 0 c]).run Try.prog w = .ok (.slice (some ⟨g0, 0, none⟩) n c0) w := by
      cases oa with
      | none =>
        simp [Builtin.append_, run_underlying ht, sizeOf, typeInfo, hi, Builtin.lenOf, Builtin.firstCells, loadCells, loadCellsFrom, hc.1]
        rw [storeCells]; rfl
      | some ad =>
        simp [Builtin.append_, run_underlying ht, sizeOf, typeInfo, hi, Builtin.lenOf, Builtin.firstCells, loadCells, loadCellsFrom, hc.1]
        rw [storeCells]; rfl
    refine wpList_plain hgd fun K hK => ?_
    unfold Oper.wp execOp
    simp only [ho, resolve, invoke, builtin, Sem.run_bind, Sem.run_pure, Result.andThen_ok, List.map_toArray, List.map_cons, List.map_nil, hs, hx, hr]
    exact hK _ _ (h g0 c0 w (by simpa using hown) (Fr.refl _ _) (.inl rfl))
  · exact wpList_app w hgd s x t ho base e i z size bytes ht hi hz hsize hby hzs hsz g0 c0 n xs hs hown ad m c news hx hl hnews h1 h63 hbytes hbase h
theorem OsAt.newsQ (h : OsAt B0 w oa oc O) (hF : Fr [] w w') : O.length = 0 ∨ ∃ ad, oa = some ad ∧ ∀ j u, (roCells O)[j]? = some u → w'.cell? (ad.add j) = some u := by
  rcases h.news with h0 | ⟨b, h1, h2, h3⟩
  · exact .inl (by rw [h0]; rfl)
  · refine .inr ⟨⟨b, 0, none⟩, h1, fun j u hu => ?_⟩
    have := h3 j u hu
    rw [Addr.add_lit, Nat.zero_add] at this ⊢
    rw [← this]
    exact World.cell?_of_block (w := w) (hF.block b h2 (by simp))
theorem newsR {ro : RO} {v0 v1 v2 v3 v4 : Value} (hv : roC ro = [v0, v1, v2, v3, v4]) : ∀ (j : Nat) u, (roC ro)[j]? = some u → (w.alloc (.cells #[v0, v1, v2, v3, v4] 122)).cell? ((⟨w.heap.size, 0, none⟩ : Addr).add j) = some u := by
  intro j u hu
  rw [Addr.add_lit, Nat.zero_add]
  rw [hv] at hu
  have hb : blk (w.alloc (.cells #[v0, v1, v2, v3, v4] 122)) w.heap.size = some (.cells #[v0, v1, v2, v3, v4] 122 (0, 0)) := by rw [blk_alloc, if_pos rfl]
  match j, hu with
  | 0, hu => simp at hu; subst hu; exact cell_of hb (i := 0) rfl
  | 1, hu => simp at hu; subst hu; exact cell_of hb (i := 1) rfl
  | 2, hu => simp at hu; subst hu; exact cell_of hb (i := 2) rfl
  | 3, hu => simp at hu; subst hu; exact cell_of hb (i := 3) rfl
  | 4, hu => simp at hu; subst hu; exact cell_of hb (i := 4) rfl
  | j + 5, hu => simp at hu
theorem one_roC (ro : RO) : ∀ u ∈ roC ro, u.oneCell' = true := fun u hu => one_ro [ro] u (by simpa [roCells] using hu)
theorem ro_snoc (O : List RO) (ro : RO) : roCells O ++ roC ro = roCells (O ++ [ro]) := by simp [roCells]
end Go.Proofs.Ytjgndfhfiekomaa
