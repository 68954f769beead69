/- A copy: append onto an empty list of the call's own. -/
import Derived.Test.YtjdanblijcdllaaGreatDoorLawT
set_option linter.all false
namespace Go.Proofs.YtjdanblijcdllaaGreatDoor
open Go.ChangeShapes Go.WideShapes Go.RowKit
theorem wpList_copy {ops : Array Oper} {rest : List Oper} {o : Oper} {act : Act} {Q : Exit → Act → World → Prop} {w : World} (hgd : o.guard = none) (s x : Operand)
    (ho : o.op = .call { callee := .builtin .append, args := #[s, x], argTypes := #[23, 23] }) {B cap : Nat} {w0 : World} {a : Option Addr} {L : List Nat} (hs : act.eval s = .slice (some ⟨w0.heap.size, 0, none⟩) 0 0) (hB : B ≤ w0.heap.size)
    (hx : act.eval x = .slice a L.length cap) (hL0 : In w0 a cap L) (hw : w = w0.alloc (.cells #[] 108)) (h : ∀ a' c' w', Nw w' B a' c' L → Fr [] w0 w' → wpList Tryz.prog ops Q rest (act.put o.dst (.slice a' L.length c')) w') : wpList Tryz.prog ops Q (o :: rest) act w := by
  obtain ⟨g, hge⟩ : ∃ g, g = w0.heap.size := ⟨_, rfl⟩
  have hg : blk w g = some (.cells #[] 108 (0, 0)) := by rw [hw, blk_alloc, if_pos hge]
  have hF0 : Fr [] w0 w := by rw [hw]; exact (Fr.refl [] w0).alloc _
  have hL := hL0.keep hF0
  rw [← hge] at hs hB
  obtain ⟨i0, hi, hz0, hz1, hz2⟩ := info_parts info_u32
  have hown : w.ownsRow B 108 1 (.slice (some ⟨g, 0, none⟩) 0 0) 0 [] := own_mk (cur := #[]) hg hB (Nat.le_refl _) (Nat.zero_le _) rfl rfl
  have hBs : B ≤ w.heap.size := by have := lt_size hg; omega
  cases a with
  | some ad =>
    obtain ⟨b, q, sp⟩ := ad
    have hc : ∀ j u, (lc L)[j]? = some u → w.cell? ((⟨b, q, sp⟩ : Addr).add j) = some u := fun j u hu => by
      have hj : j < L.length := by
        rcases Nat.lt_or_ge j L.length with hh | hh
        · exact hh
        · rw [List.getElem?_eq_none (by rw [len_lc]; exact hh)] at hu; simp at hu
      obtain ⟨b', q', h1, hb, hc⟩ := hL.at hj
      simp only [Option.some.injEq, Addr.mk.injEq] at h1
      obtain ⟨rfl, rfl, rfl⟩ := h1
      rw [lc_get L j hj] at hu
      rw [← hu, ← hc]
      unfold Addr.add
      split
      · subst j; rfl
      · rfl
    have hsm := hL.sm
    refine wpList_append_own w hgd s x 23 ho B 108 i0 (.int .u32 0) 1 4 Tryz.underlying23 hi hz0 hz1 hz2 rfl (by decide) (.slice (some ⟨g, 0, none⟩) 0 0) 0 [] hs hown ⟨b, q, sp⟩ L.length cap (lc L) hx (by rw [len_lc, Nat.mul_one]) hc (lc_one L) (by unfold maxLen; omega) (by omega) hBs ?_
    intro v' w' h2 h3 _
    rw [Nat.zero_add, List.nil_append] at h2
    obtain ⟨a', c', rfl⟩ := own_slice h2
    exact h a' c' w' (Nw.of_own h2 hL.lim hL.sm) (hF0.trans (grown_fr h3) (by intro y hy; right; simp [Value.ownBlock] at hy; omega))
  | none =>
    have h0 : L = [] := by
      rcases hL.rd with h0 | ⟨b, q, h1, _⟩
      · exact h0
      · simp at h1
    subst h0
    have hr : (Builtin.append_ #[23, 23] o.type #[.slice (some ⟨g, 0, none⟩) 0 0, .slice none 0 cap]).run Tryz.prog w = .ok (.slice (some ⟨g, 0, none⟩) 0 0) w := by
      simp [Builtin.append_, run_underlying Tryz.underlying23, sizeOf, typeInfo, hi, Builtin.lenOf, Builtin.firstCells, loadCells, loadCellsFrom]
      rw [storeCells]; rfl
    refine wpList_plain hgd fun K hK => ?_
    unfold Oper.wp execOp
    simp only [ho, resolve, invoke, builtin, Sem.run_bind, Sem.run_pure, Result.andThen_ok, List.map_toArray, List.map_cons, List.map_nil, hs, hx, List.length_nil, hr]
    exact hK _ _ (h (some ⟨g, 0, none⟩) 0 w ⟨hown, lim_nil, by simp⟩ hF0)
end Go.Proofs.YtjdanblijcdllaaGreatDoor
