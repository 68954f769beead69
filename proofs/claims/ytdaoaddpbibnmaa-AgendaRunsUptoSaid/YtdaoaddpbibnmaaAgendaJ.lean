/- The law's acts as an argument: each holds a slice of words. -/
import Derived.Test.YtdaoaddpbibnmaaAgendaI
import Derived.Test.YtdaoaddpbibnmaaArgs
import Derived.Lib.SmallJoins
import Derived.Test.YtdaoaddpbibnmaaRows
set_option linter.all false
namespace Go.Proofs.Ytdaoaddpbibnmaa
open Go.ChangeShapes Go.WideShapes Go.RowKit
/-- An act: its kind, time, word, list. -/
structure A17 where
  k : Int
  t : Int
  x : Int
  a : Option Addr
  n : Nat
  cap : Nat
  ws : List Int
structure A17.In (w : World) (z : A17) : Prop where
  rd : WsR w z.a z.ws
  len : z.ws.length = z.n
  cap : z.n ≤ z.cap
  max : z.cap ≤ maxLen
def IsActs17 (w : World) (a : Option Addr) (len cap : Nat) (N : Nat → A17) : Prop :=
  (len = 0 ∨ ∃ b o, a = some ⟨b, o, none⟩ ∧ b < w.heap.size ∧ ∀ i, i < len → w.cell? ⟨b, o + i * 4, none⟩ = some (.int .i64 (N i).k) ∧ w.cell? ⟨b, o + i * 4 + 1, none⟩ = some (.int .i64 (N i).t) ∧ w.cell? ⟨b, o + i * 4 + 2, none⟩ = some (.int .u64 (N i).x) ∧ w.cell? ⟨b, o + i * 4 + 3, none⟩ = some (.slice (N i).a (N i).n (N i).cap)) ∧
    (∀ i, i < len → (N i).In w) ∧ len ≤ cap ∧ cap ≤ maxLen
theorem list4 {α : Type} {l : List α} (h : l.length = 4) : ∃ a b c d, l = [a, b, c, d] := by
  match l, h with
  | [a, b, c, d], _ => exact ⟨a, b, c, d, rfl⟩
theorem bulk_pos {H : Type} (d : DataW H) : 1 ≤ Rows.uptoBulk d := by
  cases d with
  | lit l => cases l <;> simp [Rows.uptoBulk]
  | _ => simp [Rows.uptoBulk]
theorem bulk_len {H : Type} (l : List (DataW H)) : l.length ≤ Rows.uptoBulkAll l := by
  induction l with
  | nil => simp
  | cons d l ih =>
    have := bulk_pos d
    simp only [Rows.uptoBulkAll, List.length_cons]
    omega
theorem bulk_mem {H : Type} {l : List (DataW H)} {d : DataW H} (h : d ∈ l) : Rows.uptoBulk d ≤ Rows.uptoBulkAll l := by
  induction l with
  | nil => simp at h
  | cons e l ih =>
    simp only [Rows.uptoBulkAll]
    rcases List.mem_cons.1 h with rfl | h
    · omega
    · have := ih h; omega
theorem act17_open {H : Type} {enc : TypeId × Value → H} {w : World} {spare : Nat → Bool} {held : Bool} {fuel : Nat} {cs : List Value} {x : DataW H × List MemPlace}
    (h : DataW.trod enc Try.prog w 0 spare held fuel 39 cs = some x) : ∃ z : A17, cs = [.int .i64 z.k, .int .i64 z.t, .int .u64 z.x, .slice z.a z.n z.cap] ∧ z.In w ∧ z.n ≤ Rows.uptoBulk x.1 := by
  obtain ⟨y0, y1, y2, y3, n, hxe, hl, h0, h1, h2, h3⟩ := Go.Joins.trod_struct4 Try.underlying39 h
  have hC : Try.prog.cellsOf 39 = 4 := by kernel_rfl
  have hI : Try.prog.cellsOf 3 = 1 := by kernel_rfl
  have hW : Try.prog.cellsOf 29 = 1 := by kernel_rfl
  have hS : Try.prog.cellsOf 26 = 1 := by kernel_rfl
  rw [hC] at hl
  obtain ⟨c0, c1, c2, c3, rfl⟩ := list4 hl
  simp only [hI] at h0 h1
  simp only [hW] at h2
  simp only [hS] at h3
  obtain ⟨k, e0, _⟩ := DataW.trod_int Try.underlying3 h0
  obtain ⟨t, e1, _⟩ := DataW.trod_int Try.underlying3 h1
  obtain ⟨v, e2, _⟩ := DataW.trod_int Try.underlying29 h2
  obtain ⟨a, l, c, e3⟩ := Go.Joins.slice_form Try.underlying26 h3
  simp only [List.drop_zero, List.drop_succ_cons, List.take_succ_cons, List.take_zero, List.cons.injEq, and_true] at e0 e1 e2 e3
  subst e0 e1 e2 e3
  obtain ⟨zs, g1, g2, g3, g4, g5⟩ := open_int_slice (a := a) (len := l) (cap := c) Try.underlying26 Try.underlying29 (by kernel_rfl) ⟨n, h3⟩
  have hbk : l ≤ Rows.uptoBulk y3.1 := by
    rcases Go.Deep.open_slice Try.underlying26 h3 with ⟨hcs, _⟩ | ⟨a', len', cap', m', n', D', Pl', hcs, _, _, _, _, hx', _⟩
    · simp at hcs
      omega
    · simp at hcs
      rw [hx']
      simp only [Rows.uptoBulk]
      have := bulk_len ((List.range len').map D')
      simp only [List.length_map, List.length_range] at this
      omega
  have hbx : Rows.uptoBulk y3.1 ≤ Rows.uptoBulk x.1 := by
    rw [hxe]
    simp only [Rows.uptoBulk]
    have := bulk_mem (l := [y0.1, y1.1, y2.1, y3.1]) (d := y3.1) (by simp)
    omega
  refine ⟨⟨k, t, v, a, l, c, zs⟩, rfl, ⟨?_, g1, g3, g4⟩, Nat.le_trans hbk hbx⟩
  rcases g5 with g5 | ⟨b, o, r1, r2, r3⟩
  · left; exact List.length_eq_zero_iff.1 (by simp only; omega)
  · right; exact ⟨b, o, r1, r2, fun i hi => r3 i (by simp only at hi; omega)⟩
theorem opener17 {H : Type} {enc : TypeId × Value → H} {w : World} {spare : Nat → Bool} {held : Bool} {a : Option Addr} {len cap : Nat} {d : DataW H} {p : List MemPlace}
    (h : DataW.Trod enc Try.prog w 0 spare held 35 (.slice a len cap) d p) : ∃ N, IsActs17 w a len cap N ∧ ∀ i, i < len → (N i).n ≤ Rows.uptoBulk d := by
  obtain ⟨fuel, h⟩ := h
  rcases Go.Deep.open_slice Try.underlying35 h with ⟨hcs, _⟩ | ⟨a0, l0, c0, m, n, D, Pl, hcs, _, hl, hm, hmm, hxx, hi⟩
  · simp [Value.cells] at hcs
    obtain ⟨rfl, rfl, rfl⟩ := hcs
    exact ⟨fun _ => ⟨0, 0, 0, none, 0, 0, []⟩, ⟨.inl rfl, fun i hi => by omega, Nat.le_refl _, by simp [maxLen]⟩, fun i hi => by omega⟩
  · simp [Value.cells] at hcs
    obtain ⟨rfl, rfl, rfl⟩ := hcs
    have hlm : len ≤ m := by rw [hmm]; split <;> omega
    have hC : Try.prog.cellsOf 39 = 4 := by kernel_rfl
    have key : ∀ i, ∃ z : A17, i < len → (∀ j u, [Value.int .i64 z.k, .int .i64 z.t, .int .u64 z.x, .slice z.a z.n z.cap][j]? = some u → w.cell? (a0.add (i * 4 + j)) = some u) ∧ z.In w ∧ z.n ≤ Rows.uptoBulk d := by
      intro i
      by_cases hil : i < len
      · obtain ⟨cs', hc, ht'⟩ := hi i (by omega)
        rw [hC] at hc
        obtain ⟨_, hcl, hat⟩ := World.cells?_some hc
        obtain ⟨z, hz, hw⟩ := act17_open ht'
        refine ⟨z, fun _ => ⟨fun j u hu => ?_, hw.1, Nat.le_trans hw.2 ?_⟩⟩
        rotate_left
        · simp only [Prod.mk.injEq] at hxx
          rw [hxx.1]
          simp only [Rows.uptoBulk]
          have := bulk_mem (l := (List.range len).map D) (d := D i) (List.mem_map_of_mem (List.mem_range.2 hil))
          omega
        have hj : j < 4 := by
          rcases Nat.lt_or_ge j 4 with hj | hj
          · exact hj
          · rw [List.getElem?_eq_none (by simpa using hj)] at hu; simp at hu
        rw [← Go.Deep.add_add, hat j hj, hz]
        exact hu
      · exact ⟨⟨0, 0, 0, none, 0, 0, []⟩, fun h => absurd h hil⟩
    refine ⟨fun i => Classical.choose (key i), ⟨?_, fun i h1 => (Classical.choose_spec (key i) h1).2.1, hl, hm⟩, fun i h1 => (Classical.choose_spec (key i) h1).2.2⟩
    by_cases h0 : len = 0
    · exact .inl h0
    · right
      have hc := (Classical.choose_spec (key 0) (by omega)).1 0 _ rfl
      have hs : a0.spot = none ∧ a0.block < w.heap.size := by
        have := addr_none hc
        simp [Addr.add] at this
        exact this
      refine ⟨a0.block, a0.off, by cases a0; simp_all, hs.2, fun i h1 => ?_⟩
      have hk := (Classical.choose_spec (key i) h1).1
      exact ⟨add_cell hs.1 (hk 0 _ rfl), add_cell hs.1 (hk 1 _ rfl), add_cell hs.1 (hk 2 _ rfl), add_cell hs.1 (hk 3 _ rfl)⟩
theorem A17.In.keep {w w' : World} {z : A17} (h : z.In w) (hF : Fr [] w w') : z.In w' := ⟨h.rd.keep hF (by simp), h.len, h.cap, h.max⟩
theorem acts17_at {w w' : World} {ab ao len cap : Nat} {N : Nat → A17} (h : IsActs17 w (some ⟨ab, ao, none⟩) len cap N) (hF : Fr [] w w') (k : Nat) (hk : k < len) :
    w'.cell? ⟨ab, ao + k * 4, none⟩ = some (.int .i64 (N k).k) ∧ w'.cell? ⟨ab, ao + k * 4 + 1, none⟩ = some (.int .i64 (N k).t) ∧ w'.cell? ⟨ab, ao + k * 4 + 2, none⟩ = some (.int .u64 (N k).x) ∧ w'.cell? ⟨ab, ao + k * 4 + 3, none⟩ = some (.slice (N k).a (N k).n (N k).cap) ∧ ab < w.heap.size ∧ (N k).In w' := by
  rcases h.1 with h0 | ⟨b, o, h1, h2, h3⟩
  · omega
  · simp only [Option.some.injEq, Addr.mk.injEq] at h1
    obtain ⟨rfl, rfl, _⟩ := h1
    obtain ⟨q0, q1, q2, q3⟩ := h3 k hk
    have key : ∀ j u, w.cell? ⟨ab, j, none⟩ = some u → w'.cell? ⟨ab, j, none⟩ = some u := fun j u hu => by rw [← hu]; exact World.cell?_of_block (w := w) (hF.block ab h2 (by simp))
    exact ⟨key _ _ q0, key _ _ q1, key _ _ q2, key _ _ q3, h2, (h.2.1 k hk).keep hF⟩
end Go.Proofs.Ytdaoaddpbibnmaa
