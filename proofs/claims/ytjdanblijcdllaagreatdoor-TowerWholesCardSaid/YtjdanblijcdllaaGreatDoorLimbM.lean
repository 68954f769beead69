/- Limbs in memory: a slice that reads as limbs, a slice of the call's own. No walk. -/
import Derived.Test.YtjdanblijcdllaaGreatDoorLimbR
import Derived.Test.YtjdanblijcdllaaGreatDoorOwn
import Derived.Test.YtjdanblijcdllaaGreatDoorArgs
set_option linter.all false
namespace Go.Proofs.YtjdanblijcdllaaGreatDoor
open Go.ChangeShapes Go.WideShapes Go.RowKit
def lc (L : List Nat) : List Value := L.map fun (z : Nat) => .int .u32 (z : Int)
theorem len_lc (L : List Nat) : (lc L).length = L.length := by simp [lc]
theorem lc_get (L : List Nat) (i : Nat) (hi : i < L.length) : (lc L)[i]? = some (.int .u32 ((L[i]?.getD 0 : Nat) : Int)) := by
  simp [lc, hi]
theorem lc_one (L : List Nat) : ∀ u ∈ lc L, u.oneCell' = true := by
  intro u hu
  obtain ⟨z, _, rfl⟩ := List.mem_map.1 hu
  rfl
theorem lc_set (L : List Nat) (i v : Nat) : (lc L).set i (.int .u32 (v : Int)) = lc (L.set i v) := by simp [lc, List.map_set]
theorem lc_append (L M : List Nat) : lc (L ++ M) = lc L ++ lc M := by simp [lc]
theorem lc_take (L : List Nat) (k : Nat) : lc (L.take k) = (lc L).take k := by simp [lc, List.map_take]
/-- A slice that reads as limbs. -/
structure In (w : World) (a : Option Addr) (cap : Nat) (L : List Nat) : Prop where
  rd : L = [] ∨ ∃ b o, a = some ⟨b, o, none⟩ ∧ b < w.heap.size ∧ ∀ i, i < L.length → w.cell? ⟨b, o + i, none⟩ = some (.int .u32 ((L[i]?.getD 0 : Nat) : Int))
  lim : Lim L
  le : L.length ≤ cap
  cm : cap ≤ maxLen
  sm : L.length ≤ 100000
variable {w w' : World} {a : Option Addr} {cap : Nat} {L : List Nat} {B : Nat}
theorem cell_fr {S : List Nat} (hF : Fr S w w') {b o : Nat} (hb : b < w.heap.size) (hn : b ∉ S) : w'.cell? ⟨b, o, none⟩ = w.cell? ⟨b, o, none⟩ :=
  World.cell?_of_block (w := w) (hF.block b hb hn)
theorem In.fr {S : List Nat} (h : In w a cap L) (hF : Fr S w w') (hS : ∀ x, x ∈ S → w.heap.size ≤ x) : In w' a cap L := by
  refine ⟨?_, h.lim, h.le, h.cm, h.sm⟩
  rcases h.rd with h1 | ⟨b, o, h1, h2, h3⟩
  · exact .inl h1
  · exact .inr ⟨b, o, h1, Nat.lt_of_lt_of_le h2 hF.size, fun i hi => by
      rw [cell_fr hF h2 (fun hm => by have := hS b hm; omega)]; exact h3 i hi⟩
theorem In.keep (h : In w a cap L) (hF : Fr [] w w') : In w' a cap L := h.fr hF (by simp)
theorem In.take (h : In w a cap L) (k : Nat) : In w a cap (L.take k) := by
  refine ⟨?_, lim_take h.lim k, by have := h.le; simp; omega, h.cm, by have := h.sm; simp; omega⟩
  rcases h.rd with h1 | ⟨b, o, h1, h2, h3⟩
  · left; rw [h1]; simp
  · exact .inr ⟨b, o, h1, h2, fun i hi => by
      rw [List.length_take] at hi
      rw [h3 i (by omega), List.getElem?_take_of_lt (by omega)]⟩
/-- The slice's address and cell i. -/
theorem In.at (h : In w a cap L) {i : Nat} (hi : i < L.length) : ∃ b o, a = some ⟨b, o, none⟩ ∧ b < w.heap.size ∧ w.cell? ⟨b, o + i, none⟩ = some (.int .u32 ((L[i]?.getD 0 : Nat) : Int)) := by
  rcases h.rd with rfl | ⟨b, o, h1, h2, h3⟩
  · simp at hi
  · exact ⟨b, o, h1, h2, h3 i hi⟩
theorem In.cell {b o : Nat} (h : In w (some ⟨b, o, none⟩) cap L) {i : Nat} (hi : i < L.length) : w.cell? ⟨b, o + i, none⟩ = some (.int .u32 ((L[i]?.getD 0 : Nat) : Int)) := by
  obtain ⟨b', o', h1, _, h3⟩ := h.at hi
  simp only [Option.some.injEq, Addr.mk.injEq] at h1
  obtain ⟨rfl, rfl, _⟩ := h1
  exact h3
theorem In.lt {b o : Nat} (h : In w (some ⟨b, o, none⟩) cap L) {i : Nat} (hi : i < L.length) : b < w.heap.size := by
  obtain ⟨b', o', h1, h2, _⟩ := h.at hi
  simp only [Option.some.injEq, Addr.mk.injEq] at h1
  obtain ⟨rfl, rfl, _⟩ := h1
  exact h2
/-- A slice of the call's own. -/
structure Nw (w : World) (B : Nat) (a : Option Addr) (cap : Nat) (L : List Nat) : Prop where
  own : w.ownsRow B 108 1 (.slice a L.length cap) L.length (lc L)
  lim : Lim L
  sm : L.length ≤ 100000
theorem Nw.le (h : Nw w B a cap L) : L.length ≤ cap ∧ cap ≤ maxLen := by
  rcases h.own.2 with ⟨h1, h2⟩ | ⟨g, cap', cur, hv, _, _, h1, h2, _⟩
  · simp only [Value.slice.injEq] at h1; obtain ⟨_, h3, h4⟩ := h1; rw [h3, h4]; exact ⟨Nat.le_refl _, Nat.zero_le _⟩
  · simp only [Value.slice.injEq, true_and] at hv; obtain ⟨_, rfl⟩ := hv; exact ⟨h1, h2⟩
theorem Nw.at (h : Nw w B a cap L) {i : Nat} (hi : i < L.length) : ∃ g, a = some ⟨g, 0, none⟩ ∧ B ≤ g ∧ g < w.heap.size := by
  rcases h.own.2 with ⟨_, h2⟩ | ⟨g, cap', cur, hv, hb, hh, h1, h2, _⟩
  · omega
  · simp only [Value.slice.injEq, true_and] at hv
    exact ⟨g, hv.1, hb, lt_of_block hh⟩
theorem Nw.cell {g : Nat} (h : Nw w B (some ⟨g, 0, none⟩) cap L) {i : Nat} (hi : i < L.length) : w.cell? ⟨g, i, none⟩ = some (.int .u32 ((L[i]?.getD 0 : Nat) : Int)) :=
  own_cell h.own (lc_get L i hi)
theorem Nw.free {g : Nat} (h : Nw w B (some ⟨g, 0, none⟩) cap L) (i : Nat) : w.frozen? ⟨g, i, none⟩ = false := own_free h.own i
theorem Nw.lt {g : Nat} (h : Nw w B (some ⟨g, 0, none⟩) cap L) : g < w.heap.size ∧ B ≤ g := ⟨own_lt h.own, own_base h.own⟩
theorem Nw.in (h : Nw w B a cap L) : In w a cap L := by
  refine ⟨?_, h.lim, h.le.1, h.le.2, h.sm⟩
  by_cases h0 : L = []
  · exact .inl h0
  · right
    have hl : 0 < L.length := List.length_pos_iff.2 h0
    obtain ⟨g, rfl, _, hg⟩ := h.at hl
    exact ⟨g, 0, rfl, hg, fun i hi => by rw [Nat.zero_add]; exact h.cell hi⟩
theorem Nw.fr {S : List Nat} (h : Nw w B a cap L) (hF : Fr S w w') (hS : ∀ x, (Value.slice a L.length cap).ownBlock = some x → x ∉ S) : Nw w' B a cap L :=
  ⟨own_fr h.own hF hS, h.lim, h.sm⟩
theorem Nw.keep (h : Nw w B a cap L) (hF : Fr [] w w') : Nw w' B a cap L := h.fr hF (by simp)
/-- What changed lies elsewhere. -/
theorem Nw.frg {g : Nat} {S : List Nat} (h : Nw w B (some ⟨g, 0, none⟩) cap L) (hF : Fr S w w') (hS : g ∉ S) : Nw w' B (some ⟨g, 0, none⟩) cap L :=
  h.fr hF (by intro x hx; simp only [Value.ownBlock, Option.some.injEq] at hx; rw [← hx]; exact hS)
theorem Nw.low {S : List Nat} (h : Nw w B a cap L) (hF : Fr S w w') (hS : ∀ x, x ∈ S → x < B) : Nw w' B a cap L :=
  h.fr hF fun x hx hm => by
    have := (h.own.lt x hx).1
    have := hS x hm
    omega
theorem Nw.base {B' : Nat} (h : Nw w B a cap L) (hB : B' ≤ B) : Nw w B' a cap L := by
  refine ⟨⟨h.own.1, ?_⟩, h.lim, h.sm⟩
  rcases h.own.2 with h1 | ⟨g, cap', cur, hv, hb, r⟩
  · exact .inl h1
  · exact .inr ⟨g, cap', cur, hv, Nat.le_trans hB hb, r⟩
theorem Nw.set {g : Nat} (h : Nw w B (some ⟨g, 0, none⟩) cap L) (i v : Nat) (hv : v < 4294967296) : Nw (w.setCell ⟨g, i, none⟩ (.int .u32 (v : Int))) B (some ⟨g, 0, none⟩) cap (L.set i v) := by
  have h1 := own_set h.own i (.int .u32 (v : Int))
  rw [lc_set] at h1
  refine ⟨by rw [List.length_set]; exact h1, lim_set h.lim i v hv, by rw [List.length_set]; exact h.sm⟩
theorem Nw.take {g : Nat} (h : Nw w B (some ⟨g, 0, none⟩) cap L) (k : Nat) (hk : k ≤ L.length) : Nw w B (some ⟨g, 0, none⟩) cap (L.take k) := by
  have h1 := own_take h.own k hk
  have e : (L.take k).length = k := by simp; omega
  rw [Nat.mul_one, ← lc_take] at h1
  exact ⟨by rw [e]; exact h1, lim_take h.lim k, by rw [e]; have := h.sm; omega⟩
theorem Nw.nil (w : World) (B : Nat) : Nw w B none 0 [] := ⟨World.ownsRow_nil w B _ _, lim_nil, by simp⟩
/-- A new block of limbs. -/
theorem Nw.new (w : World) (L : List Nat) (cap : Nat) (cur : Array Value) (hB : B ≤ w.heap.size) (hl : Lim L) (hs : L.length ≤ 100000) (h1 : L.length ≤ cap) (h2 : cap ≤ maxLen) (h3 : cur.size = cap) (h4 : cur.toList.take L.length = lc L) :
    Nw (w.alloc (.cells cur 108)) B (some ⟨w.heap.size, 0, none⟩) cap L :=
  ⟨own_mk (cur := cur) (by rw [blk_alloc, if_pos rfl]) hB h1 h2 (by rw [Nat.mul_one]; exact h3) (by rw [Nat.mul_one]; exact h4), hl, hs⟩
theorem Nw.of_own {n : Nat} (h : w.ownsRow B 108 1 (.slice a n cap) n (lc L)) (hl : Lim L) (hs : L.length ≤ 100000) : Nw w B a cap L := by
  have : L.length = n := by have := h.1; rw [len_lc] at this; omega
  subst this; exact ⟨h, hl, hs⟩
/-- Whatever value owns so many limbs is a slice. -/
theorem own_slice {n : Nat} {v : Value} {xs : List Value} (h : w.ownsRow B 108 1 v n xs) : ∃ a cap, v = .slice a n cap := by
  rcases h.2 with ⟨h1, h2⟩ | ⟨g, cap', cur, hv, _⟩
  · exact ⟨none, 0, by rw [h1, h2]⟩
  · exact ⟨_, _, hv⟩
/-- A function gives limbs in memory of its own. -/
def Gives (w : World) (L : List Nat) (e : Ending) (w' : World) : Prop := ∃ a cap, e = .returned (.slice a L.length cap) ∧ Nw w' w.heap.size a cap L ∧ Fr [] w w'
theorem gives_mk {L : List Nat} (h : Nw w' w.heap.size a cap L) (hF : Fr [] w w') : Gives w L (.returned (.slice a L.length cap)) w' := ⟨a, cap, rfl, h, hF⟩
theorem info_u32 : (Tryz.prog.info? 108).map (fun i => (i.zero, i.size, i.bytes)) = some (some (.int .u32 0), 1, 4) := by kernel_rfl
def nils (n : Nat) : List Nat := List.replicate n 0
theorem made_u32 (n : Nat) : madeCells #[.int .u32 0] n = (lc (nils n)).toArray := by
  apply Array.ext_getElem?
  intro i
  by_cases hi : i < n <;> simp [madeCells, lc, nils, hi, Nat.mod_one]
theorem run_u32s (w : World) (n c : Nat) (hnc : n ≤ c) (h : c ≤ 1000000) :
    (Instr.makeSlice 23 (.int .i64 (n : Int)) (.int .i64 (c : Int))).run Tryz.prog w = .ok (.slice (some ⟨w.heap.size, 0, none⟩) n c) (w.alloc (.cells (lc (nils c)).toArray 108)) := by
  obtain ⟨i0, hi, hz0, hz1, hz2⟩ := info_parts info_u32
  have := run_make (P := Tryz.prog) w 23 108 i0 (.int .u32 0) Tryz.underlying23 hi hz0 .i64 .i64 (n : Int) c (by omega) (by omega) (by rw [hz2]; omega) (by omega)
  rw [this, hz1]
  simp only [Int.toNat_natCast, Nat.mul_one]
  rw [show (Value.int IntKind.u32 0).cells = #[.int .u32 0] from rfl, made_u32]
theorem lim_nils (n : Nat) : Lim (nils n) := by intro z hz; rw [List.eq_of_mem_replicate hz]; decide
theorem len_nils (n : Nat) : (nils n).length = n := by simp [nils]
theorem val_nils (n : Nat) : val (nils n) = 0 := val_replicate n
theorem nils_get (n i : Nat) : (nils n)[i]?.getD 0 = 0 := by
  unfold nils
  rw [List.getElem?_replicate]; split <;> rfl
/-- So many noughts, with room for more. -/
theorem Nw.made (w : World) (n c : Nat) (hB : B ≤ w.heap.size) (hnc : n ≤ c) (h : c ≤ 100000) : Nw (w.alloc (.cells (lc (nils c)).toArray 108)) B (some ⟨w.heap.size, 0, none⟩) c (nils n) := by
  refine Nw.new w (nils n) c _ hB (lim_nils n) (by rw [len_nils]; omega) (by rw [len_nils]; exact hnc) (by unfold maxLen; omega) (by simp [len_lc, len_nils]) ?_
  rw [len_nils, ← lc_take]
  simp [nils, List.take_replicate, Nat.min_eq_left hnc]
end Go.Proofs.YtjdanblijcdllaaGreatDoor
