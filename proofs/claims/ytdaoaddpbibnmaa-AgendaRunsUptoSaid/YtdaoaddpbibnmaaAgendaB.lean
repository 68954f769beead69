/- The agenda: Push and Pop of its entries. -/
import Derived.Test.YtdaoaddpbibnmaaAgendaA
set_option linter.all false
namespace Go.Proofs.Ytdaoaddpbibnmaa
open Go.ChangeShapes Go.WideShapes Go.RowKit
variable {w : World} {B g cap pb : Nat} {l : List E3} {v : Value} {c : Array Value} {T : TypeId}
theorem info_entry : (Try.prog.info? 54).map (fun i => (i.zero, i.size, i.bytes)) = some (some (.agg #[.int .i64 0, .int .i64 0, .int .u64 0]), 3, 24) := by kernel_rfl
theorem assert_entry (w : World) (a b d : Int) : (Instr.typeAssert (.iface 54 (.agg #[.int .i64 a, .int .i64 b, .int .u64 d])) 20 54 true).run Try.prog w = .ok (.tuple #[.agg #[.int .i64 a, .int .i64 b, .int .u64 d], .bool true]) w := by kernel_rfl
theorem far_blk {w w2 w1 : World} {row : Option Nat} {pb : Nat} (hg : w2.grownBy w1 row) (hF : Fr [] w w2) (hl : pb < w.heap.size) (hne : row ≠ some pb) : w1.heap[pb]? = w.heap[pb]? :=
  (hg.block pb (Nat.lt_of_lt_of_le hl hF.size) (fun h => hne h.symm)).trans (hF.block pb hl (by simp))
theorem push_ne {o : Option Nat} {g H pb : Nat} (h : o = some g ∨ g = H) (hne : o ≠ some pb) (hl : pb < H) : g ≠ pb := by
  rcases h with h | h
  · rintro rfl; exact hne h
  · omega
def Pushed (w : World) (B pb : Nat) (c : Array Value) (T : TypeId) (v : Value) (l : List E3) (x : E3) (e : Ending) (w' : World) : Prop :=
  e = .returned (.tuple #[]) ∧ ∃ g cap, EnAt w' B (.slice (some ⟨g, 0, none⟩) (l.length + 1) cap) (l ++ [x]) ∧ blk w' pb = some (.cells (c.setIfInBounds 0 (.slice (some ⟨g, 0, none⟩) (l.length + 1) cap)) T (0, 0)) ∧ (v.ownBlock = some g ∨ w.heap.size ≤ g) ∧ g ≠ pb ∧ Fr (pb :: v.ownBlock.toList) w w'
theorem pushed_mk {w w2 w1 : World} {B g cap pb : Nat} {l : List E3} {v : Value} {c : Array Value} {T : TypeId} {x : E3} (HP : blk w pb = some (.cells c T (0, 0))) (HF0 : Fr [] w w2)
    (OW : w1.ownsRow B 54 3 (.slice (some ⟨g, 0, none⟩) (l.length + 1) cap) (l.length + 1) (entCells l ++ [.int .i64 x.t, .int .i64 x.n, .int .u64 x.w])) (GR : w2.grownBy w1 v.ownBlock) (AT : v.ownBlock = some g ∨ g = w2.heap.size) (Q0 : w1.heap[pb]? = w.heap[pb]?) (hne : v.ownBlock ≠ some pb) (hpl : pb < w.heap.size) :
    Pushed w B pb c T v l x (.returned (.tuple #[])) (w1.setCell ⟨pb, 0, none⟩ (.slice (some ⟨g, 0, none⟩) (l.length + 1) cap)) := by
  have hs := HF0.size
  have hg : g ≠ pb := push_ne AT hne (by omega)
  refine ⟨rfl, g, cap, ?_, ?_, ?_, hg, ?_⟩
  · have := own_fr OW (show Fr [pb] _ (w1.setCell ⟨pb, 0, none⟩ (.slice (some ⟨g, 0, none⟩) (l.length + 1) cap)) from (Fr.refl _ _).setCell (by simp) _) (by simp [Value.ownBlock]; exact hg)
    unfold EnAt
    rw [show (l ++ [x]).length = l.length + 1 by simp, show entCells (l ++ [x]) = entCells l ++ [.int .i64 x.t, .int .i64 x.n, .int .u64 x.w] by simp [entCells]]
    exact this
  · rw [blk_set, if_pos rfl, show blk w1 pb = blk w pb from Q0, HP]; rfl
  · rcases AT with h | h
    · exact .inl h
    · right; omega
  · refine Fr.setCell ?_ (by simp) _
    exact (HF0.mono (by simp)).trans ((grown_fr GR).mono (T := pb :: v.ownBlock.toList) (by intro y hy; left; simp; right; simpa using hy)) (by intro y hy; exact .inl hy)
theorem epush_c (w : World) (hP : blk w pb = some (.cells c T (0, 0))) (hc : c[0]? = some v) (hE : EnAt w B v l) (hne : v.ownBlock ≠ some pb) (hB : B ≤ w.heap.size) (hn : l.length ≤ 1000000) (x : E3) :
    Calls Try.prog 63 #[.pointer (some ⟨pb, 0, none⟩), .iface 54 (.agg #[.int .i64 x.t, .int .i64 x.n, .int .u64 x.w])] w (Pushed w B pb c T v l x) := by
  obtain ⟨i0, hi, hz0, hz1, hz2⟩ := info_parts info_entry
  have hpc := cell_of hP hc
  have hpf := free_of hP (i := 0)
  have hpl := lt_size hP
  have HP := Lib.hid hP
  have HE : Hid (w.ownsRow B 54 3 v l.length (entCells l)) := Lib.hid hE
  have HI := Lib.hid hi
  have H0 := Lib.hid hz0
  have H1 := Lib.hid hz1
  have H2 := Lib.hid hz2
  clear hP hE hc hi hz0 hz1 hz2
  have TA := fun w1 => assert_entry w1 x.t x.n x.w
  go_enter Try.func63, Try.ntmps63
  go_wp2
  have HA := own_fr (w' := ((w.alloc (.cells #[.int .i64 x.t, .int .i64 x.n, .int .u64 x.w] 54)).alloc (.cells #[.int .i64 x.t, .int .i64 x.n, .int .u64 x.w] 54)).drew) HE.out ((((Fr.refl [] w).alloc _).alloc _).drew) (by simp)
  have HA := Lib.hid HA
  have HN : ((w.alloc (.cells #[.int .i64 x.t, .int .i64 x.n, .int .u64 x.w] 54)).alloc (.cells #[.int .i64 x.t, .int .i64 x.n, .int .u64 x.w] 54)).drew.heap[w.heap.size + 1]? = some (.cells #[.int .i64 x.t, .int .i64 x.n, .int .u64 x.w] 54 (0, 0)) := by
    have := blk_alloc (w.alloc (.cells #[.int .i64 x.t, .int .i64 x.n, .int .u64 x.w] 54)) (.cells #[.int .i64 x.t, .int .i64 x.n, .int .u64 x.w] 54) (w.heap.size + 1)
    rw [if_pos (by rw [size_alloc])] at this
    exact this
  have HN := Lib.hid HN
  have HF0 : Hid (Fr [] w ((w.alloc (.cells #[.int .i64 x.t, .int .i64 x.n, .int .u64 x.w] 54)).alloc (.cells #[.int .i64 x.t, .int .i64 x.n, .int .u64 x.w] 54)).drew) := Lib.hid ((((Fr.refl [] w).alloc _).alloc _).drew)
  go_region_law (refine step_append_lies _ rfl (.tmp 15) (.tmp 17) 48 rfl B 54 i0 _ 3 24 Try.underlying48 HI.out H0.out H1.out H2.out rfl (by decide) v l.length (entCells l) rfl HA.out ⟨w.heap.size + 1, 0, none⟩ 1 1 [.int .i64 x.t, .int .i64 x.n, .int .u64 x.w] rfl rfl (World.news_of_block HN.out) (by simp [Value.oneCell']) (by omega) (by unfold maxLen; omega) (by omega) (Nat.le_trans hB HF0.out.size) _ rfl ?_; intro g cap w1 hown1 hgrow1 hat hlt; have q0 := far_blk hgrow1 HF0.out hpl hne; have q1 : w1.cell? ⟨pb, 0, none⟩ = some v := (World.cell?_of_block (w := w) (a := ⟨pb, 0, none⟩) q0).trans hpc; have q2 : w1.frozen? ⟨pb, 0, none⟩ = false := (World.frozen?_of_block (w := w) (a := ⟨pb, 0, none⟩) q0).trans hpf; have OW := Lib.hid hown1; have GR := Lib.hid hgrow1; have AT := Lib.hid hat; have Q0 := Lib.hid q0; clear hown1 hgrow1 hat q0)
  all_goals
    go_wp2
    go_end0
    exact pushed_mk HP.out HF0.out OW.out GR.out AT.out Q0.out hne hpl
theorem entCells_take (l : List E3) (k : Nat) : (entCells l).take (k * 3) = entCells (l.take k) := by
  induction l generalizing k with
  | nil => simp [entCells]
  | cons x l ih =>
    cases k with
    | zero => simp [entCells]
    | succ k =>
      have e : entCells (x :: l) = .int .i64 x.t :: .int .i64 x.n :: .int .u64 x.w :: entCells l := rfl
      rw [e, show (k + 1) * 3 = k * 3 + 1 + 1 + 1 by omega]
      simp only [List.take_succ_cons, ih]
      rfl
theorem EnAt.take (h : EnAt w B (.slice (some ⟨g, 0, none⟩) l.length cap) l) (k : Nat) (hk : k ≤ l.length) : EnAt w B (.slice (some ⟨g, 0, none⟩) k cap) (l.take k) := by
  have := own_take h k hk
  rw [entCells_take] at this
  unfold EnAt
  rwa [show (l.take k).length = k by simp; omega]
def Popped (w : World) (B g cap pb : Nat) (c : Array Value) (T : TypeId) (l : List E3) (n : Nat) (e : Ending) (w' : World) : Prop :=
  e = .returned (.iface 54 (.agg #[.int .i64 (nth l n).t, .int .i64 (nth l n).n, .int .u64 (nth l n).w])) ∧ EnAt w' B (.slice (some ⟨g, 0, none⟩) n cap) (l.take n) ∧ blk w' pb = some (.cells (c.setIfInBounds 0 (.slice (some ⟨g, 0, none⟩) n cap)) T (0, 0)) ∧ Fr [pb] w w'
theorem epop_c (w : World) (n : Nat) (hl : l.length = n + 1) (hP : blk w pb = some (.cells c T (0, 0))) (hc : c[0]? = some (.slice (some ⟨g, 0, none⟩) (n + 1) cap)) (hE : EnAt w B (.slice (some ⟨g, 0, none⟩) (n + 1) cap) l) (hne : g ≠ pb) (hn : n ≤ 1000000) :
    Calls Try.prog 62 #[.pointer (some ⟨pb, 0, none⟩)] w (Popped w B g cap pb c T l n) := by
  rw [← hl] at hE
  obtain ⟨c0, c1, c2⟩ := hE.cells (i := n) (by omega)
  have hE2 := Lib.hid (hE.take n (by omega))
  have hcap := (own_cap hE).1
  rw [hl] at hcap
  have hcap' : n ≤ cap := by omega
  have hpc := cell_of hP hc
  have hpf := free_of hP (i := 0)
  have hpl := lt_size hP
  have HP := Lib.hid hP
  have hgl := own_lt hE
  obtain ⟨x, hx⟩ : ∃ x, x = nth l n := ⟨_, rfl⟩
  have D : Hid (∀ w', EnAt w' B (.slice (some ⟨g, 0, none⟩) n cap) (l.take n) → blk w' pb = some (.cells (c.setIfInBounds 0 (.slice (some ⟨g, 0, none⟩) n cap)) T (0, 0)) → Fr [pb] w w' → Popped w B g cap pb c T l n (.returned (.iface 54 (.agg #[.int .i64 x.t, .int .i64 x.n, .int .u64 x.w]))) w') := Lib.hid (fun w' h1 h2 h3 => ⟨by rw [hx], h1, h2, h3⟩)
  rw [← hx] at c0 c1 c2
  clear hx hP hc hl hE
  go_enter Try.func62, Try.ntmps62
  go_wp2
  go_ret
  refine D.out _ ?_ ?_ ?_
  · exact own_fr hE2.out (((Fr.refl [pb] w).setCell (by simp) _).alloc _) (by simp [Value.ownBlock]; exact hne)
  · rw [blk_alloc, if_neg (by simp; omega), blk_set, if_pos rfl, HP.out]; rfl
  · exact ((Fr.refl [pb] w).setCell (by simp) _).alloc _
end Go.Proofs.Ytdaoaddpbibnmaa
