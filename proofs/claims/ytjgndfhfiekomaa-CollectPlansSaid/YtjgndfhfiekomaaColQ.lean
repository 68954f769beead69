/- Collecting: what Run does, for whatever it chooses. -/
import Derived.Test.YtjgndfhfiekomaaColV
import Derived.Carry
set_option linter.all false
namespace Go.Proofs.Ytjgndfhfiekomaa
open Go.ChangeShapes Go.WideShapes Go.RowKit Go.Maps
variable {w w' : World} {hb b wb lb : Nat} {A : Ar} {m : Nat}
/-- What Run leaves: P of a choice, of the tracer at the end, of the roots. -/
def RunDone (hb b wb lb : Nat) (m : Nat) (rs : List Rw) (P : (Int → Int) → Tr → List (List Int) → Prop) (w : World) (e : Ending) (w' : World) : Prop :=
  ∃ (cl : Int → Int) (T : Tr) (ls' : List (List Int)), P cl T ls' ∧
    e = .returned (.agg #[.int .i64 T.live, .int .i64 T.moved, .int .i64 (emptyIn T.A.sweep.lines m)]) ∧ HeAt w' hb b wb lb T.A.sweep ∧ RowsIn w' rs ls' ∧ Fr (b :: wb :: lb :: rs.map Rw.g) w w'
/-- The list of rows as an argument. -/
structure RowsArg (w : World) (hb b wb lb : Nat) (rv : Value) (rs : List Rw) : Prop where
  v : ∃ va cap, rv = .slice va rs.length cap
  c : ∀ (i : Nat) (r : Rw), rs[i]? = some r → ∃ rb o cap, rv = .slice (some ⟨rb, o, none⟩) rs.length cap ∧ w.cell? ⟨rb, o + i, none⟩ = some r.v ∧ rb ∉ [hb, b, wb, lb] ∧ rb ∉ rs.map Rw.g
  g : ∀ r, r ∈ rs → r.g < w.heap.size ∧ r.g ∉ [hb, b, wb, lb]
  ap : RowsAp rs
  n : rs.length ≤ 1000000
  l : ∀ r, r ∈ rs → r.l.length ≤ 1000000
def NoMore (A : Ar) (m : Nat) (rs : List (List Int)) (p0 p1 : Int) (P : (Int → Int) → Tr → List (List Int) → Prop) : Prop := ∀ (cl : Int → Int) (least : Int), 0 ≤ least ∧ least ≤ 4096 → (p0 ≤ 0 ∨ p1 ≤ 0 → cl = fun _ => 0) → ∃ T ls', Runs cl m (startT A m least) rs T ls' ∧ P cl T ls'
theorem TrAt.begin {W : World} {tb sb mb hb b wb lb B n : Nat} {cl : Int → Int} {least : Int} (hH : HeAt W hb b wb lb A) (ok : A.Ok m) (wd : A.Wd)
    (ht : blk W tb = some (.cells #[.pointer (some ⟨hb, 0, none⟩), .map (some mb), .int .i64 least, .int .i64 0, .slice (some ⟨sb, 0, none⟩) (m * 256) (m * 256), .slice none 0 0, .int .i64 0, .int .i64 0, .int .i64 0] 135 (0, 0)))
    (hs : blk W sb = some (.cells (boolCells (falses (m * 256))) 4 (0, 0))) (hcl : ClAt W mb n cl) (hlo : b < B ∧ wb < B ∧ lb < B ∧ hb < B ∧ tb < B ∧ sb < B ∧ mb < B) (ap : [tb, sb, hb, b, wb, lb, mb].Nodup) (hl : 0 ≤ least ∧ least ≤ 4096) :
    TrAt W ⟨tb, mb, sb, hb, b, wb, lb, B⟩ m n cl (.slice none 0 0) (startT A m least) := by
  refine ⟨?_, hs, hH, hcl, ⟨rfl, .inl ⟨rfl, rfl⟩⟩, ok, wd, hlo, ap, by simp [startT, falses], by simp [startT], by simp only [startT]; omega, by simp [startT]⟩
  simp only [startT, len_falses]
  exact ht
set_option maxRecDepth 100000 in
set_option maxHeartbeats 8000000 in
theorem run_a (hH : HeAt w hb b wb lb A) (ok : A.Ok m) (wd : A.Wd) (rv : Value) (rs : List Rw) (ls : List (List Int)) (hA : RowsArg w hb b wb lb rv rs) (hR : RowsIn w rs ls) (p0 p1 : Int) (h0 : p0 ≤ 0) {P : (Int → Int) → Tr → List (List Int) → Prop} (hN : NoMore A m ls p0 p1 P) :
    Calls Try.prog 36 #[.pointer (some ⟨hb, 0, none⟩), rv, .agg #[.int .i64 p0, .int .i64 p1]] w (RunDone hb b wb lb m rs P w) := by
  obtain ⟨va0, cap0, hrv⟩ := hA.v
  subst hrv
  have HH := Lib.hid hH
  have OK := Lib.hid ok
  have WD := Lib.hid wd
  have HA := Lib.hid hA
  have HR := Lib.hid hR
  have HN := Lib.hid hN
  have m1 := ok.m1
  have m2 := ok.m2
  have hrn := hA.n
  have RB : ∀ w : World, (Instr.makeSlice 27 (.int .i64 ((m : Int) * 256)) (.int .i64 ((m : Int) * 256))).run Try.prog w = .ok (.slice (some ⟨w.heap.size, 0, none⟩) (m * 256) (m * 256)) (w.alloc (.cells (boolCells (falses (m * 256))) 4)) :=
    fun w => by have := run_bools w (m * 256) (by omega); rw [← this]; simp
  have hmm := @run_makeMap Try.prog
  clear hH ok wd hA hR hN
  go_enter Try.func36, Try.ntmps36
  go_wp2_with fail
  have F2 : Hid (Fr [] w ((w.alloc (.cells #[.int .i64 p0, .int .i64 p1] 72)).alloc (.cells #[.int .i64 0, .int .i64 0, .int .i64 0] 69))) := Lib.hid (((Fr.refl _ _).alloc _).alloc _)
  refine (oarena_c _ (HH.out.keep F2.out)).mono ?_
  rintro e w' ⟨rfl, rfl⟩
  have F3 : Hid (Fr [] w (((w.alloc (.cells #[.int .i64 p0, .int .i64 p1] 72)).alloc (.cells #[.int .i64 0, .int .i64 0, .int .i64 0] 69)).alloc (.map #[] 0))) := Lib.hid (F2.out.alloc _)
  go_wp2_with fail
  refine (blocks_c _ (HH.out.keep F3.out).ar OK.out).mono ?_
  rintro e w' ⟨rfl, rfl⟩
  have F5 : Hid (Fr [] w (((((w.alloc (.cells #[.int .i64 p0, .int .i64 p1] 72)).alloc (.cells #[.int .i64 0, .int .i64 0, .int .i64 0] 69)).alloc (.map #[] 0)).alloc (.cells (boolCells (falses (m * 256))) 4)).alloc (.cells #[.pointer (some ⟨hb, 0, none⟩), .map (some (w.heap.size + 1 + 1)), .int .i64 0, .int .i64 0, .slice (some ⟨w.heap.size + 1 + 1 + 1, 0, none⟩) (m * 256) (m * 256), .slice none 0 0, .int .i64 0, .int .i64 0, .int .i64 0] 135))) := Lib.hid ((F3.out.alloc _).alloc _)
  have B5 : Hid (blk (((((w.alloc (.cells #[.int .i64 p0, .int .i64 p1] 72)).alloc (.cells #[.int .i64 0, .int .i64 0, .int .i64 0] 69)).alloc (.map #[] 0)).alloc (.cells (boolCells (falses (m * 256))) 4)).alloc (.cells #[.pointer (some ⟨hb, 0, none⟩), .map (some (w.heap.size + 1 + 1)), .int .i64 0, .int .i64 0, .slice (some ⟨w.heap.size + 1 + 1 + 1, 0, none⟩) (m * 256) (m * 256), .slice none 0 0, .int .i64 0, .int .i64 0, .int .i64 0] 135)) (w.heap.size + 1 + 1 + 1 + 1) = some (.cells #[.pointer (some ⟨hb, 0, none⟩), .map (some (w.heap.size + 1 + 1)), .int .i64 0, .int .i64 0, .slice (some ⟨w.heap.size + 1 + 1 + 1, 0, none⟩) (m * 256) (m * 256), .slice none 0 0, .int .i64 0, .int .i64 0, .int .i64 0] 135 (0, 0)) ∧
      blk (((((w.alloc (.cells #[.int .i64 p0, .int .i64 p1] 72)).alloc (.cells #[.int .i64 0, .int .i64 0, .int .i64 0] 69)).alloc (.map #[] 0)).alloc (.cells (boolCells (falses (m * 256))) 4)).alloc (.cells #[.pointer (some ⟨hb, 0, none⟩), .map (some (w.heap.size + 1 + 1)), .int .i64 0, .int .i64 0, .slice (some ⟨w.heap.size + 1 + 1 + 1, 0, none⟩) (m * 256) (m * 256), .slice none 0 0, .int .i64 0, .int .i64 0, .int .i64 0] 135)) (w.heap.size + 1 + 1 + 1) = some (.cells (boolCells (falses (m * 256))) 4 (0, 0)) ∧ blk (((((w.alloc (.cells #[.int .i64 p0, .int .i64 p1] 72)).alloc (.cells #[.int .i64 0, .int .i64 0, .int .i64 0] 69)).alloc (.map #[] 0)).alloc (.cells (boolCells (falses (m * 256))) 4)).alloc (.cells #[.pointer (some ⟨hb, 0, none⟩), .map (some (w.heap.size + 1 + 1)), .int .i64 0, .int .i64 0, .slice (some ⟨w.heap.size + 1 + 1 + 1, 0, none⟩) (m * 256) (m * 256), .slice none 0 0, .int .i64 0, .int .i64 0, .int .i64 0] 135)) (w.heap.size + 1) = some (.cells #[.int .i64 0, .int .i64 0, .int .i64 0] 69 (0, 0)) ∧ ClAt (((((w.alloc (.cells #[.int .i64 p0, .int .i64 p1] 72)).alloc (.cells #[.int .i64 0, .int .i64 0, .int .i64 0] 69)).alloc (.map #[] 0)).alloc (.cells (boolCells (falses (m * 256))) 4)).alloc (.cells #[.pointer (some ⟨hb, 0, none⟩), .map (some (w.heap.size + 1 + 1)), .int .i64 0, .int .i64 0, .slice (some ⟨w.heap.size + 1 + 1 + 1, 0, none⟩) (m * 256) (m * 256), .slice none 0 0, .int .i64 0, .int .i64 0, .int .i64 0] 135)) (w.heap.size + 1 + 1) 0 (fun _ => 0) ∧ (((((w.alloc (.cells #[.int .i64 p0, .int .i64 p1] 72)).alloc (.cells #[.int .i64 0, .int .i64 0, .int .i64 0] 69)).alloc (.map #[] 0)).alloc (.cells (boolCells (falses (m * 256))) 4)).alloc (.cells #[.pointer (some ⟨hb, 0, none⟩), .map (some (w.heap.size + 1 + 1)), .int .i64 0, .int .i64 0, .slice (some ⟨w.heap.size + 1 + 1 + 1, 0, none⟩) (m * 256) (m * 256), .slice none 0 0, .int .i64 0, .int .i64 0, .int .i64 0] 135)).heap.size = w.heap.size + 5) := Lib.hid (by
    refine ⟨?_, ?_, ?_, ?_, ?_⟩
    · rw [blk_alloc, if_pos (by simp only [size_alloc])]
    · rw [blk_alloc, if_neg (by simp only [size_alloc]; omega), blk_alloc, if_pos (by simp only [size_alloc])]
    · rw [blk_alloc, if_neg (by simp only [size_alloc]; omega), blk_alloc, if_neg (by simp only [size_alloc]; omega), blk_alloc, if_neg (by simp only [size_alloc]; omega), blk_alloc, if_pos (by simp only [size_alloc])]
    · have := ClAt.made ((w.alloc (.cells #[.int .i64 p0, .int .i64 p1] 72)).alloc (.cells #[.int .i64 0, .int .i64 0, .int .i64 0] 69))
      rw [show ((w.alloc (.cells #[.int .i64 p0, .int .i64 p1] 72)).alloc (.cells #[.int .i64 0, .int .i64 0, .int .i64 0] 69)).heap.size = w.heap.size + 1 + 1 by simp only [size_alloc]] at this
      exact (this.fr ((Fr.refl [] _).alloc _) (by simp)).fr ((Fr.refl [] _).alloc _) (by simp)
    · simp only [size_alloc])
  have hd0 : decide (0 < p0) = false := by simp; omega
  go_wp2_with fail
  have LT : Hid (hb < w.heap.size ∧ b < w.heap.size ∧ wb < w.heap.size ∧ lb < w.heap.size) := Lib.hid ⟨lt_size HH.out.p, lt_size HH.out.ar.hb, lt_size HH.out.ar.hw, lt_size HH.out.ar.hl⟩
  have NE : Hid (b ≠ wb ∧ b ≠ lb ∧ wb ≠ lb ∧ hb ≠ b ∧ hb ≠ wb ∧ hb ≠ lb) := Lib.hid ⟨HH.out.ar.n1, HH.out.ar.n2, HH.out.ar.n3, HH.out.n1, HH.out.n2, HH.out.n3⟩
  have F6 := F5
  have B6 : Hid (blk (((((w.alloc (.cells #[.int .i64 p0, .int .i64 p1] 72)).alloc (.cells #[.int .i64 0, .int .i64 0, .int .i64 0] 69)).alloc (.map #[] 0)).alloc (.cells (boolCells (falses (m * 256))) 4)).alloc (.cells #[.pointer (some ⟨hb, 0, none⟩), .map (some (w.heap.size + 1 + 1)), .int .i64 0, .int .i64 0, .slice (some ⟨w.heap.size + 1 + 1 + 1, 0, none⟩) (m * 256) (m * 256), .slice none 0 0, .int .i64 0, .int .i64 0, .int .i64 0] 135)) (w.heap.size + 1 + 1 + 1 + 1) = some (.cells #[.pointer (some ⟨hb, 0, none⟩), .map (some (w.heap.size + 1 + 1)), .int .i64 0, .int .i64 0, .slice (some ⟨w.heap.size + 1 + 1 + 1, 0, none⟩) (m * 256) (m * 256), .slice none 0 0, .int .i64 0, .int .i64 0, .int .i64 0] 135 (0, 0)) ∧
      blk (((((w.alloc (.cells #[.int .i64 p0, .int .i64 p1] 72)).alloc (.cells #[.int .i64 0, .int .i64 0, .int .i64 0] 69)).alloc (.map #[] 0)).alloc (.cells (boolCells (falses (m * 256))) 4)).alloc (.cells #[.pointer (some ⟨hb, 0, none⟩), .map (some (w.heap.size + 1 + 1)), .int .i64 0, .int .i64 0, .slice (some ⟨w.heap.size + 1 + 1 + 1, 0, none⟩) (m * 256) (m * 256), .slice none 0 0, .int .i64 0, .int .i64 0, .int .i64 0] 135)) (w.heap.size + 1 + 1 + 1) = some (.cells (boolCells (falses (m * 256))) 4 (0, 0)) ∧ blk (((((w.alloc (.cells #[.int .i64 p0, .int .i64 p1] 72)).alloc (.cells #[.int .i64 0, .int .i64 0, .int .i64 0] 69)).alloc (.map #[] 0)).alloc (.cells (boolCells (falses (m * 256))) 4)).alloc (.cells #[.pointer (some ⟨hb, 0, none⟩), .map (some (w.heap.size + 1 + 1)), .int .i64 0, .int .i64 0, .slice (some ⟨w.heap.size + 1 + 1 + 1, 0, none⟩) (m * 256) (m * 256), .slice none 0 0, .int .i64 0, .int .i64 0, .int .i64 0] 135)) (w.heap.size + 1) = some (.cells #[.int .i64 0, .int .i64 0, .int .i64 0] 69 (0, 0)) ∧ ClAt (((((w.alloc (.cells #[.int .i64 p0, .int .i64 p1] 72)).alloc (.cells #[.int .i64 0, .int .i64 0, .int .i64 0] 69)).alloc (.map #[] 0)).alloc (.cells (boolCells (falses (m * 256))) 4)).alloc (.cells #[.pointer (some ⟨hb, 0, none⟩), .map (some (w.heap.size + 1 + 1)), .int .i64 0, .int .i64 0, .slice (some ⟨w.heap.size + 1 + 1 + 1, 0, none⟩) (m * 256) (m * 256), .slice none 0 0, .int .i64 0, .int .i64 0, .int .i64 0] 135)) (w.heap.size + 1 + 1) 0 (fun _ => 0) ∧ w.heap.size + 5 ≤ (((((w.alloc (.cells #[.int .i64 p0, .int .i64 p1] 72)).alloc (.cells #[.int .i64 0, .int .i64 0, .int .i64 0] 69)).alloc (.map #[] 0)).alloc (.cells (boolCells (falses (m * 256))) 4)).alloc (.cells #[.pointer (some ⟨hb, 0, none⟩), .map (some (w.heap.size + 1 + 1)), .int .i64 0, .int .i64 0, .slice (some ⟨w.heap.size + 1 + 1 + 1, 0, none⟩) (m * 256) (m * 256), .slice none 0 0, .int .i64 0, .int .i64 0, .int .i64 0] 135)).heap.size) := Lib.hid ⟨B5.out.1, B5.out.2.1, B5.out.2.2.1, B5.out.2.2.2.1, Nat.le_of_eq B5.out.2.2.2.2.symm⟩
  have LB : Hid ((0 : Int) ≤ 0 ∧ (0 : Int) ≤ 4096) := Lib.hid (by omega)
  have H0 : Hid (TrAt (((((w.alloc (.cells #[.int .i64 p0, .int .i64 p1] 72)).alloc (.cells #[.int .i64 0, .int .i64 0, .int .i64 0] 69)).alloc (.map #[] 0)).alloc (.cells (boolCells (falses (m * 256))) 4)).alloc (.cells #[.pointer (some ⟨hb, 0, none⟩), .map (some (w.heap.size + 1 + 1)), .int .i64 0, .int .i64 0, .slice (some ⟨w.heap.size + 1 + 1 + 1, 0, none⟩) (m * 256) (m * 256), .slice none 0 0, .int .i64 0, .int .i64 0, .int .i64 0] 135)) ⟨w.heap.size + 1 + 1 + 1 + 1, w.heap.size + 1 + 1, w.heap.size + 1 + 1 + 1, hb, b, wb, lb, (((((w.alloc (.cells #[.int .i64 p0, .int .i64 p1] 72)).alloc (.cells #[.int .i64 0, .int .i64 0, .int .i64 0] 69)).alloc (.map #[] 0)).alloc (.cells (boolCells (falses (m * 256))) 4)).alloc (.cells #[.pointer (some ⟨hb, 0, none⟩), .map (some (w.heap.size + 1 + 1)), .int .i64 0, .int .i64 0, .slice (some ⟨w.heap.size + 1 + 1 + 1, 0, none⟩) (m * 256) (m * 256), .slice none 0 0, .int .i64 0, .int .i64 0, .int .i64 0] 135)).heap.size⟩ m 0 (fun _ => 0) (.slice none 0 0) (startT A m 0)) := Lib.hid (by
    obtain ⟨l1, l2, l3, l4⟩ := LT.out
    obtain ⟨n1, n2, n3, n4, n5, n6⟩ := NE.out
    have hs := F6.out.size
    refine TrAt.begin (HH.out.keep F6.out) OK.out WD.out B6.out.1 B6.out.2.1 B6.out.2.2.2.1 ?_ ?_ ?_
    · have := B6.out.2.2.2.2; omega
    · simp only [List.nodup_cons, List.mem_cons, List.not_mem_nil, or_false, not_or, List.nodup_nil, not_false_eq_true, and_true]
      omega
    · exact LB.out)
  have R0 : Hid (RowsIn (((((w.alloc (.cells #[.int .i64 p0, .int .i64 p1] 72)).alloc (.cells #[.int .i64 0, .int .i64 0, .int .i64 0] 69)).alloc (.map #[] 0)).alloc (.cells (boolCells (falses (m * 256))) 4)).alloc (.cells #[.pointer (some ⟨hb, 0, none⟩), .map (some (w.heap.size + 1 + 1)), .int .i64 0, .int .i64 0, .slice (some ⟨w.heap.size + 1 + 1 + 1, 0, none⟩) (m * 256) (m * 256), .slice none 0 0, .int .i64 0, .int .i64 0, .int .i64 0] 135)) rs ls) := Lib.hid (HR.out.keep fun r hr o ho => F6.out.at ho (by simp))
  have X0 : Hid (FX ⟨w.heap.size + 1 + 1 + 1 + 1, w.heap.size + 1 + 1, w.heap.size + 1 + 1 + 1, hb, b, wb, lb, (((((w.alloc (.cells #[.int .i64 p0, .int .i64 p1] 72)).alloc (.cells #[.int .i64 0, .int .i64 0, .int .i64 0] 69)).alloc (.map #[] 0)).alloc (.cells (boolCells (falses (m * 256))) 4)).alloc (.cells #[.pointer (some ⟨hb, 0, none⟩), .map (some (w.heap.size + 1 + 1)), .int .i64 0, .int .i64 0, .slice (some ⟨w.heap.size + 1 + 1 + 1, 0, none⟩) (m * 256) (m * 256), .slice none 0 0, .int .i64 0, .int .i64 0, .int .i64 0] 135)).heap.size⟩ (rs.map Rw.g) (((((w.alloc (.cells #[.int .i64 p0, .int .i64 p1] 72)).alloc (.cells #[.int .i64 0, .int .i64 0, .int .i64 0] 69)).alloc (.map #[] 0)).alloc (.cells (boolCells (falses (m * 256))) 4)).alloc (.cells #[.pointer (some ⟨hb, 0, none⟩), .map (some (w.heap.size + 1 + 1)), .int .i64 0, .int .i64 0, .slice (some ⟨w.heap.size + 1 + 1 + 1, 0, none⟩) (m * 256) (m * 256), .slice none 0 0, .int .i64 0, .int .i64 0, .int .i64 0] 135)) (((((w.alloc (.cells #[.int .i64 p0, .int .i64 p1] 72)).alloc (.cells #[.int .i64 0, .int .i64 0, .int .i64 0] 69)).alloc (.map #[] 0)).alloc (.cells (boolCells (falses (m * 256))) 4)).alloc (.cells #[.pointer (some ⟨hb, 0, none⟩), .map (some (w.heap.size + 1 + 1)), .int .i64 0, .int .i64 0, .slice (some ⟨w.heap.size + 1 + 1 + 1, 0, none⟩) (m * 256) (m * 256), .slice none 0 0, .int .i64 0, .int .i64 0, .int .i64 0] 135))) := Lib.hid (FX.refl (Nat.le_refl _))
  have FAR : Hid (∀ r, r ∈ rs → (⟨w.heap.size + 1 + 1 + 1 + 1, w.heap.size + 1 + 1, w.heap.size + 1 + 1 + 1, hb, b, wb, lb, (((((w.alloc (.cells #[.int .i64 p0, .int .i64 p1] 72)).alloc (.cells #[.int .i64 0, .int .i64 0, .int .i64 0] 69)).alloc (.map #[] 0)).alloc (.cells (boolCells (falses (m * 256))) 4)).alloc (.cells #[.pointer (some ⟨hb, 0, none⟩), .map (some (w.heap.size + 1 + 1)), .int .i64 0, .int .i64 0, .slice (some ⟨w.heap.size + 1 + 1 + 1, 0, none⟩) (m * 256) (m * 256), .slice none 0 0, .int .i64 0, .int .i64 0, .int .i64 0] 135)).heap.size⟩ : Tk).far r.g) := Lib.hid (fun r hr => by
    obtain ⟨g1, g2⟩ := HA.out.g r hr
    have hs := F6.out.size
    refine ⟨by simp only; omega, ?_⟩
    simp only [List.mem_cons, List.not_mem_nil, or_false, not_or] at g2 ⊢
    obtain ⟨g3, g4, g5, g6⟩ := g2
    exact ⟨by omega, by omega, g3, g4, g5, g6, by omega⟩)
  have KA : Hid (∀ w' (i : Nat) (r : Rw), FX ⟨w.heap.size + 1 + 1 + 1 + 1, w.heap.size + 1 + 1, w.heap.size + 1 + 1 + 1, hb, b, wb, lb, (((((w.alloc (.cells #[.int .i64 p0, .int .i64 p1] 72)).alloc (.cells #[.int .i64 0, .int .i64 0, .int .i64 0] 69)).alloc (.map #[] 0)).alloc (.cells (boolCells (falses (m * 256))) 4)).alloc (.cells #[.pointer (some ⟨hb, 0, none⟩), .map (some (w.heap.size + 1 + 1)), .int .i64 0, .int .i64 0, .slice (some ⟨w.heap.size + 1 + 1 + 1, 0, none⟩) (m * 256) (m * 256), .slice none 0 0, .int .i64 0, .int .i64 0, .int .i64 0] 135)).heap.size⟩ (rs.map Rw.g) (((((w.alloc (.cells #[.int .i64 p0, .int .i64 p1] 72)).alloc (.cells #[.int .i64 0, .int .i64 0, .int .i64 0] 69)).alloc (.map #[] 0)).alloc (.cells (boolCells (falses (m * 256))) 4)).alloc (.cells #[.pointer (some ⟨hb, 0, none⟩), .map (some (w.heap.size + 1 + 1)), .int .i64 0, .int .i64 0, .slice (some ⟨w.heap.size + 1 + 1 + 1, 0, none⟩) (m * 256) (m * 256), .slice none 0 0, .int .i64 0, .int .i64 0, .int .i64 0] 135)) w' → rs[i]? = some r → ∃ rb o, va0 = some ⟨rb, o, none⟩ ∧ w'.cell? ⟨rb, o + i, none⟩ = some (.slice r.va r.l.length r.cap)) := Lib.hid (fun w' i r hF hr => by
    obtain ⟨rb, o, cap, h1, h2, h3, h4⟩ := HA.out.c i r hr
    simp only [Value.slice.injEq, true_and] at h1
    have hlt := (addr_none h2).2
    have hs := F6.out.size
    simp only [List.mem_cons, List.not_mem_nil, or_false, not_or] at h3
    refine ⟨rb, o, h1.1, cell_fx (cell_fr h2 F6.out (by simp)) hF (by simp only at hlt ⊢; omega) ?_ h4⟩
    simp only at hlt
    simp only [Tk.own, List.mem_cons, List.not_mem_nil, or_false, not_or]
    exact ⟨by omega, by omega, h3.2.1, h3.2.2.1, h3.2.2.2⟩)
  have RES : Hid (∀ w', FX ⟨w.heap.size + 1 + 1 + 1 + 1, w.heap.size + 1 + 1, w.heap.size + 1 + 1 + 1, hb, b, wb, lb, (((((w.alloc (.cells #[.int .i64 p0, .int .i64 p1] 72)).alloc (.cells #[.int .i64 0, .int .i64 0, .int .i64 0] 69)).alloc (.map #[] 0)).alloc (.cells (boolCells (falses (m * 256))) 4)).alloc (.cells #[.pointer (some ⟨hb, 0, none⟩), .map (some (w.heap.size + 1 + 1)), .int .i64 0, .int .i64 0, .slice (some ⟨w.heap.size + 1 + 1 + 1, 0, none⟩) (m * 256) (m * 256), .slice none 0 0, .int .i64 0, .int .i64 0, .int .i64 0] 135)).heap.size⟩ (rs.map Rw.g) (((((w.alloc (.cells #[.int .i64 p0, .int .i64 p1] 72)).alloc (.cells #[.int .i64 0, .int .i64 0, .int .i64 0] 69)).alloc (.map #[] 0)).alloc (.cells (boolCells (falses (m * 256))) 4)).alloc (.cells #[.pointer (some ⟨hb, 0, none⟩), .map (some (w.heap.size + 1 + 1)), .int .i64 0, .int .i64 0, .slice (some ⟨w.heap.size + 1 + 1 + 1, 0, none⟩) (m * 256) (m * 256), .slice none 0 0, .int .i64 0, .int .i64 0, .int .i64 0] 135)) w' → blk w' (w.heap.size + 1) = some (.cells #[.int .i64 0, .int .i64 0, .int .i64 0] 69 (0, 0))) := Lib.hid (fun w' hF => by
    have hs := F6.out.size
    have := B6.out.2.2.2.2
    obtain ⟨l1, l2, l3, l4⟩ := LT.out
    rw [hF.block _ (by simp only; omega) ?_ ?_]
    · exact B6.out.2.2.1
    · simp only [Tk.own, List.mem_cons, List.not_mem_nil, or_false, not_or]
      omega
    · intro hm
      obtain ⟨r, hr, he⟩ := List.mem_map.1 hm
      have := (HA.out.g r hr).1
      omega)
  have FIN : Hid (∀ w', FX ⟨w.heap.size + 1 + 1 + 1 + 1, w.heap.size + 1 + 1, w.heap.size + 1 + 1 + 1, hb, b, wb, lb, (((((w.alloc (.cells #[.int .i64 p0, .int .i64 p1] 72)).alloc (.cells #[.int .i64 0, .int .i64 0, .int .i64 0] 69)).alloc (.map #[] 0)).alloc (.cells (boolCells (falses (m * 256))) 4)).alloc (.cells #[.pointer (some ⟨hb, 0, none⟩), .map (some (w.heap.size + 1 + 1)), .int .i64 0, .int .i64 0, .slice (some ⟨w.heap.size + 1 + 1 + 1, 0, none⟩) (m * 256) (m * 256), .slice none 0 0, .int .i64 0, .int .i64 0, .int .i64 0] 135)).heap.size⟩ (rs.map Rw.g) (((((w.alloc (.cells #[.int .i64 p0, .int .i64 p1] 72)).alloc (.cells #[.int .i64 0, .int .i64 0, .int .i64 0] 69)).alloc (.map #[] 0)).alloc (.cells (boolCells (falses (m * 256))) 4)).alloc (.cells #[.pointer (some ⟨hb, 0, none⟩), .map (some (w.heap.size + 1 + 1)), .int .i64 0, .int .i64 0, .slice (some ⟨w.heap.size + 1 + 1 + 1, 0, none⟩) (m * 256) (m * 256), .slice none 0 0, .int .i64 0, .int .i64 0, .int .i64 0] 135)) w' → Fr (b :: wb :: lb :: rs.map Rw.g) w w' ∧ w.heap.size + 1 ∉ (b :: wb :: lb :: rs.map Rw.g) ∧ w.heap.size ≤ w.heap.size + 1) := Lib.hid (fun w' hF => ⟨hF.fin F6.out (by simp only; omega) (by simp only; omega) (by simp only; exact F6.out.size), by
    obtain ⟨l1, l2, l3, l4⟩ := LT.out
    simp only [List.mem_cons, not_or]
    refine ⟨by omega, by omega, by omega, fun hm => ?_⟩
    obtain ⟨r, hr, he⟩ := List.mem_map.1 hm
    have := (HA.out.g r hr).1
    omega, by omega⟩)
  have LO : Hid (w.heap.size ≤ w.heap.size + 1 + 1 + 1 + 1) := Lib.hid (by omega)
  have RKH : Hid (w.heap.size + 1 ≠ hb) := Lib.hid (by have := LT.out.1; omega)
  have RKB : Hid (w.heap.size + 1 < w.heap.size + 1 + 1 + 1 + 1) := Lib.hid (by omega)
  obtain ⟨TT, ls', hRU, hPT⟩ := HN.out (fun _ => 0) 0 LB.out (fun _ => rfl)
  have RU := Lib.hid hRU
  have PL := Lib.hid hPT
  have LSL : Hid (ls.length = rs.length) := Lib.hid HR.out.1
  have AP : Hid (RowsAp rs) := Lib.hid HA.out.ap
  have RL : Hid (∀ r, r ∈ rs → r.l.length ≤ 1000000) := Lib.hid HA.out.l
  clear hRU hPT HN HA HR HH OK WD F2 F3 F5 B5 F6 B6 LT NE LB RB hmm
  generalize (((((w.alloc (.cells #[.int .i64 p0, .int .i64 p1] 72)).alloc (.cells #[.int .i64 0, .int .i64 0, .int .i64 0] 69)).alloc (.map #[] 0)).alloc (.cells (boolCells (falses (m * 256))) 4)).alloc (.cells #[.pointer (some ⟨hb, 0, none⟩), .map (some (w.heap.size + 1 + 1)), .int .i64 0, .int .i64 0, .slice (some ⟨w.heap.size + 1 + 1 + 1, 0, none⟩) (m * 256) (m * 256), .slice none 0 0, .int .i64 0, .int .i64 0, .int .i64 0] 135)) = W at *
  generalize w.heap.size + 1 + 1 + 1 + 1 = tb at *
  generalize w.heap.size + 1 + 1 + 1 = sb at *
  generalize w.heap.size + 1 + 1 = mb at *
  generalize w.heap.size + 1 = rk at *
  generalize W.heap.size = B at *
  obtain ⟨c, h1, h2, h3, h4, h5, h6, h7, h8⟩ : ∃ c : Tk, tb = c.tb ∧ mb = c.mb ∧ sb = c.sb ∧ hb = c.hb ∧ b = c.b ∧ wb = c.wb ∧ lb = c.lb ∧ B = c.B := ⟨⟨tb, mb, sb, hb, b, wb, lb, B⟩, rfl, rfl, rfl, rfl, rfl, rfl, rfl, rfl⟩
  subst h1 h2 h3 h4 h5 h6 h7 h8
  generalize startT A m 0 = T0 at *
  generalize hclg : ((fun _ => 0) : Int → Int) = cl at *
  clear hclg
  have Q0 : Hid (RQ c m 0 cl T0 ls rs W W 0) := Lib.hid (RQ.start H0.out R0.out X0.out)
  clear H0 R0 X0
  go_loopw [50, 10, 11, 12] (fun x _ _ _ wr => ∃ q : Nat, q ≤ rs.length ∧ x = .int .i64 (q : Int) ∧ Hid (RQ c m 0 cl T0 ls rs W wr q)) (fun x _ _ _ _ => rs.length - (intOf x).toNat)
  case atStart => exact ⟨0, by omega, rfl, Q0⟩
  case round =>
    obtain ⟨wo, rfl⟩ : ∃ wo : World, wo = wr := ⟨_, rfl⟩
    obtain ⟨q, hq, rfl, HQ⟩ := hrel
    clear Q0
    by_cases hlt : q < rs.length
    · obtain ⟨r, hr⟩ : ∃ r, rs[q]? = some r := ⟨rs[q], by simp [hlt]⟩
      obtain ⟨rb, ro, hva, kc⟩ := KA.out wo q r HQ.out.fx hr
      subst hva
      have QL := Lib.hid (show q < ls.length by rw [LSL.out]; exact hlt)
      have I0 := Lib.hid (HQ.out.inner QL.out)
      have hrl := RL.out r (List.mem_of_getElem? hr)
      have HL := Lib.hid (I0.out.len QL.out (Nat.zero_le _) hr)
      have HR := Lib.hid hr
      obtain ⟨L, hL⟩ : ∃ L, L = r.l.length := ⟨_, rfl⟩
      rw [← hL] at kc hrl HL
      clear hr hL HQ
      go_wp2_with fail
      go_loopw [56, 11, 12] (fun x _ _ wr => ∃ j : Nat, j ≤ L ∧ x = .int .i64 (j : Int) ∧ Hid (RI c m 0 cl T0 ls rs W wr q j)) (fun x _ _ _ => L - (intOf x).toNat)
      case atStart => exact ⟨0, by omega, rfl, I0⟩
      case round =>
        obtain ⟨wo2, rfl⟩ : ∃ wo2 : World, wo2 = wr := ⟨_, rfl⟩
        obtain ⟨j, hj, rfl, HI⟩ := hrel
        clear I0 kc
        by_cases hlt2 : j < L
        · have JL := Lib.hid (show j < (ls[q]?.getD []).length by rw [← HL.out]; exact hlt2)
          obtain ⟨kv, k1, k2⟩ := HI.out.word QL.out JL.out HR.out
          obtain ⟨hb1, hx0, hx1⟩ := RI.bd RU.out.bd QL.out JL.out
          obtain ⟨wv, htr⟩ := HI.out.tr
          have CF := Lib.hid (follow_c htr HI.out.fx.ge hb1 _ hx0 hx1)
          have ST := Lib.hid (fun e w' hd => HI.out.step (e := e) (w' := w') AP.out FAR.out QL.out JL.out HR.out hd)
          obtain ⟨x, hx⟩ : ∃ x, x = (ls[q]?.getD [])[j]?.getD 0 := ⟨_, rfl⟩
          rw [← hx] at k1 hx0 hx1 CF ST
          rcases hfo : followT cl m (TTr cl m T0 ls q j) x with ⟨T1, y⟩
          rw [hfo] at CF ST
          simp only [] at CF ST
          rw [kv]
          clear htr hb1 HI hx hfo
          go_wp2_with fail
          refine CF.out.mono ?_
          intro e w3 hd
          obtain ⟨ST1, f3, v3, k3⟩ := ST.out _ _ hd
          have he := hd.1
          subst he
          have ST1 := Lib.hid ST1
          simp only []
          clear hd CF ST k1 k2 kv
          go_wp2
          go_roundw
          case rel => exact ⟨j + 1, by omega, by go_num, ST1⟩
          case measure => simp [intOf]; omega
        · have Q1 := Lib.hid (HI.out.outer QL.out (by rw [← HL.out]; omega))
          have HJ := Lib.hid (show ¬ j < L from hlt2)
          clear HI
          go_wp2
          go_roundw
          case rel => exact ⟨q + 1, by omega, by go_num, Q1⟩
          case measure => simp [intOf]; omega
    · obtain ⟨g0, T1, wv1, hD⟩ := RQ.drain (by rw [show ls.length = q by rw [LSL.out]; omega]; exact HQ.out) RU.out
      have HD := Lib.hid hD
      clear hD HQ KA AP RL RU
      go_wp2_with fail
      go_loopg [13, 14] g0 (fun g _ _ wr => ∃ T wv, Hid (RD c m 0 cl TT ls' rs W wr g T wv))
      case atStart => exact ⟨T1, wv1, HD⟩
      case round =>
        obtain ⟨wd, rfl⟩ : ∃ wd : World, wd = wr := ⟨_, rfl⟩
        obtain ⟨T, wv, HD2⟩ := hrel
        clear HD
        have k5 := HD2.out.tr.c5
        have f5 := HD2.out.tr.ft
        by_cases hw : T.work = []
        · obtain ⟨a, cap, hwv, hcap⟩ := work_form HD2.out.tr
          rw [hwv, hw] at k5
          have hTT := HD2.out.done hw
          subst hTT
          have OKT := Lib.hid HD2.out.tr.ok
          have CS := Lib.hid (sweep_c wd HD2.out.tr.h.ar OKT.out)
          have apn := HD2.out.tr.ap
          simp only [List.nodup_cons, List.mem_cons, List.not_mem_nil, or_false, not_or] at apn
          have AFT : Hid (∀ w4, ArAt w4 c.b c.wb c.lb T.A.sweep → Fr [c.b, c.lb] wd w4 → (∃ cs : Array Value, blk w4 c.tb = some (.cells cs 135 (0, 0)) ∧ cs[6]? = some (.int .i64 T.live) ∧ cs[7]? = some (.int .i64 T.moved) ∧ cs[8]? = some (.int .i64 0)) ∧ HeAt w4 c.hb c.b c.wb c.lb T.A.sweep ∧ FX c (rs.map Rw.g) W w4 ∧ RowsIn w4 rs ls') := Lib.hid (fun w4 hA4 F4 => by
            have hFB : FB c wd w4 := FB.of F4 HD2.out.fx.ge (by simp [Tk.own])
            refine ⟨⟨_, F4.at HD2.out.tr.t (by simp only [List.mem_cons, List.not_mem_nil, or_false, not_or]; exact ⟨apn.1.2.2.1, apn.1.2.2.2.2.1⟩), rfl, rfl, rfl⟩, HD2.out.tr.h.arena F4 (by simp only [List.mem_cons, List.not_mem_nil, or_false, not_or]; exact ⟨apn.2.2.1.1, apn.2.2.1.2.2.1⟩) hA4, HD2.out.fx.fb hFB, HD2.out.rows.fb hFB FAR.out⟩)
          have hTB : Hid (c.tb < c.B) := Lib.hid HD2.out.tr.lo.2.2.2.2.1
          have APN : Hid (c.hb ≠ c.tb ∧ (c.b ≠ c.tb ∧ c.wb ≠ c.tb ∧ c.lb ≠ c.tb) ∧ rk ≠ c.hb ∧ True) := Lib.hid ⟨fun h => apn.1.2.1 h.symm, ⟨fun h => apn.1.2.2.1 h.symm, fun h => apn.1.2.2.2.1 h.symm, fun h => apn.1.2.2.2.2.1 h.symm⟩, RKH.out, trivial⟩
          clear hw hwv HD2 apn
          go_wp2_with fail
          refine CS.out.mono ?_
          rintro e w4 ⟨rfl, hA4, F4⟩
          obtain ⟨⟨cs, T4, cs6, cs7, cs8⟩, H4, X4, R4⟩ := AFT.out w4 hA4 F4
          have CE := Lib.hid (empty_c w4 hA4 OKT.out.sweep)
          have T4 := Lib.hid T4
          have H4 := Lib.hid H4
          have X4 := Lib.hid X4
          have R4 := Lib.hid R4
          have CSF := Lib.hid (And.intro cs6 (And.intro cs7 cs8))
          clear CS AFT hA4 F4 k5 f5 cs6 cs7 cs8
          go_wp2_with fail
          refine CE.out.mono ?_
          rintro e w5 ⟨rfl, F5⟩
          have T5 := F5.at T4.out (by simp)
          have k6 := cell_of T5 CSF.out.1
          have k7 := cell_of T5 CSF.out.2.1
          have k8 := cell_of T5 CSF.out.2.2
          have f6 : ∀ i, w5.frozen? ⟨c.tb, i, none⟩ = false := fun i => free_of T5
          have X5 := Lib.hid (X4.out.fb (FB.nil F5 X4.out.ge))
          have Z5 := RES.out w5 X5.out
          have z0 : w5.cell? ⟨rk, 0, none⟩ = some (.int .i64 0) := cell_of Z5 rfl
          have z1 : w5.cell? ⟨rk, 1, none⟩ = some (.int .i64 0) := cell_of Z5 rfl
          have z2 : w5.cell? ⟨rk, 2, none⟩ = some (.int .i64 0) := cell_of Z5 rfl
          have g6 : ∀ i, w5.frozen? ⟨rk, i, none⟩ = false := fun i => free_of Z5
          obtain ⟨FN1, FN2, FN3⟩ := FIN.out w5 X5.out
          have FN := Lib.hid (And.intro FN1 (And.intro FN2 FN3))
          have hne : rk ≠ c.tb := by have := RKB.out; omega
          have hne2 := Ne.symm hne
          have H5 := Lib.hid (H4.out.keep F5)
          have R5 : Hid (RowsIn w5 rs ls') := Lib.hid (R4.out.keep fun r hr o ho => F5.at ho (by simp))
          have Z5 := Lib.hid Z5
          clear T4 T5 CSF X4 X5 H4 R4 F5 CE RES FIN FN1 FN2 FN3 OKT
          go_wp2
          have B0 : blk ((((w5.setCell ⟨c.tb, 8, none⟩ (.int .i64 (emptyIn T.A.sweep.lines m : Nat))).setCell ⟨rk, 0, none⟩ (.int .i64 T.live)).setCell ⟨rk, 1, none⟩ (.int .i64 T.moved)).setCell ⟨rk, 2, none⟩ (.int .i64 (emptyIn T.A.sweep.lines m : Nat))) rk = some (.cells #[.int .i64 T.live, .int .i64 T.moved, .int .i64 (emptyIn T.A.sweep.lines m : Nat)] 69 (0, 0)) := by
            rw [blk_set, if_pos rfl, blk_set, if_pos rfl, blk_set, if_pos rfl, blk_set, if_neg hne, Z5.out]; rfl
          have FF : Fr [c.tb, rk] w5 ((((w5.setCell ⟨c.tb, 8, none⟩ (.int .i64 (emptyIn T.A.sweep.lines m : Nat))).setCell ⟨rk, 0, none⟩ (.int .i64 T.live)).setCell ⟨rk, 1, none⟩ (.int .i64 T.moved)).setCell ⟨rk, 2, none⟩ (.int .i64 (emptyIn T.A.sweep.lines m : Nat))) := ((((Fr.refl _ _).setCell (by simp) _).setCell (by simp) _).setCell (by simp) _).setCell (by simp) _
          have r0 := cell_of B0 (i := 0) rfl
          have r1 := cell_of B0 (i := 1) rfl
          have r2 := cell_of B0 (i := 2) rfl
          refine bodyPost_ret (v := .agg #[.int .i64 T.live, .int .i64 T.moved, .int .i64 (emptyIn T.A.sweep.lines m : Nat)]) (by simp [results, Try.results36, go_sem, r0, r1, r2]) rfl ⟨cl, T, ls', PL.out, rfl, ?_, ?_, ?_⟩
          · obtain ⟨a1, a2, a3⟩ := APN.out
            have hn := FN.out.2.1
            simp only [List.mem_cons, not_or] at hn
            exact H5.out.fr FF (by simp only [List.mem_cons, List.not_mem_nil, or_false, not_or]; exact ⟨a1, Ne.symm a3.1⟩) (by simp only [List.mem_cons, List.not_mem_nil, or_false, not_or]; exact ⟨a2.1, Ne.symm hn.1⟩) (by simp only [List.mem_cons, List.not_mem_nil, or_false, not_or]; exact ⟨a2.2.1, Ne.symm hn.2.1⟩) (by simp only [List.mem_cons, List.not_mem_nil, or_false, not_or]; exact ⟨a2.2.2, Ne.symm hn.2.2.1⟩)
          · refine R5.out.keep fun r hr o ho => FF.at ho ?_
            have hn := FN.out.2.1
            have hf := (FAR.out r hr).2
            simp only [List.mem_cons, not_or] at hn
            simp only [List.mem_cons, List.not_mem_nil, or_false, not_or] at hf ⊢
            exact ⟨hf.1, fun he => hn.2.2.2 (by rw [← he]; exact List.mem_map_of_mem hr)⟩
          · have hlo := LO.out
            have hlk := FN.out.2.2
            exact FN.out.1.trans FF (fun x hx => by
              simp only [List.mem_cons, List.not_mem_nil, or_false] at hx
              rcases hx with rfl | rfl
              · exact .inr hlo
              · exact .inr hlk)
        · obtain ⟨g', a, cap, k, x, hg, hkl, hkb, hwv, hkc, kx, hx0, hx1, HW⟩ := HD2.out.pop FAR.out hw
          rw [hwv] at k5
          obtain ⟨T2, t2, hB2, bd2, nx⟩ := HW wd (Fr.refl _ _)
          have CS := Lib.hid (scan_c t2 hB2 x hx0 hx1 bd2)
          have NX := Lib.hid nx
          clear hw hwv HD2 HW t2 hB2 bd2 nx
          go_wp2_with fail
          refine CS.out.mono ?_
          rintro e w2 ⟨rfl, h2, F2⟩
          obtain ⟨T3, wv3, HD3⟩ := NX.out w2 ⟨h2, F2⟩
          have HD3 := Lib.hid HD3
          clear h2 F2 NX CS k5 f5 kx
          go_wp2
          go_roundg g'
          case measure => omega
          case rel => exact ⟨T3, wv3, HD3⟩
set_option maxRecDepth 100000 in
set_option maxHeartbeats 8000000 in
theorem run_b (hH : HeAt w hb b wb lb A) (ok : A.Ok m) (wd : A.Wd) (rv : Value) (rs : List Rw) (ls : List (List Int)) (hA : RowsArg w hb b wb lb rv rs) (hR : RowsIn w rs ls) (p0 p1 : Int) (h0 : 0 < p0) (h1 : p1 ≤ 0) {P : (Int → Int) → Tr → List (List Int) → Prop} (hN : NoMore A m ls p0 p1 P) :
    Calls Try.prog 36 #[.pointer (some ⟨hb, 0, none⟩), rv, .agg #[.int .i64 p0, .int .i64 p1]] w (RunDone hb b wb lb m rs P w) := by
  obtain ⟨va0, cap0, hrv⟩ := hA.v
  subst hrv
  have HH := Lib.hid hH
  have OK := Lib.hid ok
  have WD := Lib.hid wd
  have HA := Lib.hid hA
  have HR := Lib.hid hR
  have HN := Lib.hid hN
  have m1 := ok.m1
  have m2 := ok.m2
  have hrn := hA.n
  have RB : ∀ w : World, (Instr.makeSlice 27 (.int .i64 ((m : Int) * 256)) (.int .i64 ((m : Int) * 256))).run Try.prog w = .ok (.slice (some ⟨w.heap.size, 0, none⟩) (m * 256) (m * 256)) (w.alloc (.cells (boolCells (falses (m * 256))) 4)) :=
    fun w => by have := run_bools w (m * 256) (by omega); rw [← this]; simp
  have hmm := @run_makeMap Try.prog
  clear hH ok wd hA hR hN
  go_enter Try.func36, Try.ntmps36
  go_wp2_with fail
  have F2 : Hid (Fr [] w ((w.alloc (.cells #[.int .i64 p0, .int .i64 p1] 72)).alloc (.cells #[.int .i64 0, .int .i64 0, .int .i64 0] 69))) := Lib.hid (((Fr.refl _ _).alloc _).alloc _)
  refine (oarena_c _ (HH.out.keep F2.out)).mono ?_
  rintro e w' ⟨rfl, rfl⟩
  have F3 : Hid (Fr [] w (((w.alloc (.cells #[.int .i64 p0, .int .i64 p1] 72)).alloc (.cells #[.int .i64 0, .int .i64 0, .int .i64 0] 69)).alloc (.map #[] 0))) := Lib.hid (F2.out.alloc _)
  go_wp2_with fail
  refine (blocks_c _ (HH.out.keep F3.out).ar OK.out).mono ?_
  rintro e w' ⟨rfl, rfl⟩
  have F5 : Hid (Fr [] w (((((w.alloc (.cells #[.int .i64 p0, .int .i64 p1] 72)).alloc (.cells #[.int .i64 0, .int .i64 0, .int .i64 0] 69)).alloc (.map #[] 0)).alloc (.cells (boolCells (falses (m * 256))) 4)).alloc (.cells #[.pointer (some ⟨hb, 0, none⟩), .map (some (w.heap.size + 1 + 1)), .int .i64 0, .int .i64 0, .slice (some ⟨w.heap.size + 1 + 1 + 1, 0, none⟩) (m * 256) (m * 256), .slice none 0 0, .int .i64 0, .int .i64 0, .int .i64 0] 135))) := Lib.hid ((F3.out.alloc _).alloc _)
  have B5 : Hid (blk (((((w.alloc (.cells #[.int .i64 p0, .int .i64 p1] 72)).alloc (.cells #[.int .i64 0, .int .i64 0, .int .i64 0] 69)).alloc (.map #[] 0)).alloc (.cells (boolCells (falses (m * 256))) 4)).alloc (.cells #[.pointer (some ⟨hb, 0, none⟩), .map (some (w.heap.size + 1 + 1)), .int .i64 0, .int .i64 0, .slice (some ⟨w.heap.size + 1 + 1 + 1, 0, none⟩) (m * 256) (m * 256), .slice none 0 0, .int .i64 0, .int .i64 0, .int .i64 0] 135)) (w.heap.size + 1 + 1 + 1 + 1) = some (.cells #[.pointer (some ⟨hb, 0, none⟩), .map (some (w.heap.size + 1 + 1)), .int .i64 0, .int .i64 0, .slice (some ⟨w.heap.size + 1 + 1 + 1, 0, none⟩) (m * 256) (m * 256), .slice none 0 0, .int .i64 0, .int .i64 0, .int .i64 0] 135 (0, 0)) ∧
      blk (((((w.alloc (.cells #[.int .i64 p0, .int .i64 p1] 72)).alloc (.cells #[.int .i64 0, .int .i64 0, .int .i64 0] 69)).alloc (.map #[] 0)).alloc (.cells (boolCells (falses (m * 256))) 4)).alloc (.cells #[.pointer (some ⟨hb, 0, none⟩), .map (some (w.heap.size + 1 + 1)), .int .i64 0, .int .i64 0, .slice (some ⟨w.heap.size + 1 + 1 + 1, 0, none⟩) (m * 256) (m * 256), .slice none 0 0, .int .i64 0, .int .i64 0, .int .i64 0] 135)) (w.heap.size + 1 + 1 + 1) = some (.cells (boolCells (falses (m * 256))) 4 (0, 0)) ∧ blk (((((w.alloc (.cells #[.int .i64 p0, .int .i64 p1] 72)).alloc (.cells #[.int .i64 0, .int .i64 0, .int .i64 0] 69)).alloc (.map #[] 0)).alloc (.cells (boolCells (falses (m * 256))) 4)).alloc (.cells #[.pointer (some ⟨hb, 0, none⟩), .map (some (w.heap.size + 1 + 1)), .int .i64 0, .int .i64 0, .slice (some ⟨w.heap.size + 1 + 1 + 1, 0, none⟩) (m * 256) (m * 256), .slice none 0 0, .int .i64 0, .int .i64 0, .int .i64 0] 135)) (w.heap.size + 1) = some (.cells #[.int .i64 0, .int .i64 0, .int .i64 0] 69 (0, 0)) ∧ ClAt (((((w.alloc (.cells #[.int .i64 p0, .int .i64 p1] 72)).alloc (.cells #[.int .i64 0, .int .i64 0, .int .i64 0] 69)).alloc (.map #[] 0)).alloc (.cells (boolCells (falses (m * 256))) 4)).alloc (.cells #[.pointer (some ⟨hb, 0, none⟩), .map (some (w.heap.size + 1 + 1)), .int .i64 0, .int .i64 0, .slice (some ⟨w.heap.size + 1 + 1 + 1, 0, none⟩) (m * 256) (m * 256), .slice none 0 0, .int .i64 0, .int .i64 0, .int .i64 0] 135)) (w.heap.size + 1 + 1) 0 (fun _ => 0) ∧ (((((w.alloc (.cells #[.int .i64 p0, .int .i64 p1] 72)).alloc (.cells #[.int .i64 0, .int .i64 0, .int .i64 0] 69)).alloc (.map #[] 0)).alloc (.cells (boolCells (falses (m * 256))) 4)).alloc (.cells #[.pointer (some ⟨hb, 0, none⟩), .map (some (w.heap.size + 1 + 1)), .int .i64 0, .int .i64 0, .slice (some ⟨w.heap.size + 1 + 1 + 1, 0, none⟩) (m * 256) (m * 256), .slice none 0 0, .int .i64 0, .int .i64 0, .int .i64 0] 135)).heap.size = w.heap.size + 5) := Lib.hid (by
    refine ⟨?_, ?_, ?_, ?_, ?_⟩
    · rw [blk_alloc, if_pos (by simp only [size_alloc])]
    · rw [blk_alloc, if_neg (by simp only [size_alloc]; omega), blk_alloc, if_pos (by simp only [size_alloc])]
    · rw [blk_alloc, if_neg (by simp only [size_alloc]; omega), blk_alloc, if_neg (by simp only [size_alloc]; omega), blk_alloc, if_neg (by simp only [size_alloc]; omega), blk_alloc, if_pos (by simp only [size_alloc])]
    · have := ClAt.made ((w.alloc (.cells #[.int .i64 p0, .int .i64 p1] 72)).alloc (.cells #[.int .i64 0, .int .i64 0, .int .i64 0] 69))
      rw [show ((w.alloc (.cells #[.int .i64 p0, .int .i64 p1] 72)).alloc (.cells #[.int .i64 0, .int .i64 0, .int .i64 0] 69)).heap.size = w.heap.size + 1 + 1 by simp only [size_alloc]] at this
      exact (this.fr ((Fr.refl [] _).alloc _) (by simp)).fr ((Fr.refl [] _).alloc _) (by simp)
    · simp only [size_alloc])
  have hd0 : decide (0 < p0) = true := by simp; omega
  have hd1 : decide (0 < p1) = false := by simp; omega
  go_wp2_with fail
  have LT : Hid (hb < w.heap.size ∧ b < w.heap.size ∧ wb < w.heap.size ∧ lb < w.heap.size) := Lib.hid ⟨lt_size HH.out.p, lt_size HH.out.ar.hb, lt_size HH.out.ar.hw, lt_size HH.out.ar.hl⟩
  have NE : Hid (b ≠ wb ∧ b ≠ lb ∧ wb ≠ lb ∧ hb ≠ b ∧ hb ≠ wb ∧ hb ≠ lb) := Lib.hid ⟨HH.out.ar.n1, HH.out.ar.n2, HH.out.ar.n3, HH.out.n1, HH.out.n2, HH.out.n3⟩
  have F6 := F5
  have B6 : Hid (blk (((((w.alloc (.cells #[.int .i64 p0, .int .i64 p1] 72)).alloc (.cells #[.int .i64 0, .int .i64 0, .int .i64 0] 69)).alloc (.map #[] 0)).alloc (.cells (boolCells (falses (m * 256))) 4)).alloc (.cells #[.pointer (some ⟨hb, 0, none⟩), .map (some (w.heap.size + 1 + 1)), .int .i64 0, .int .i64 0, .slice (some ⟨w.heap.size + 1 + 1 + 1, 0, none⟩) (m * 256) (m * 256), .slice none 0 0, .int .i64 0, .int .i64 0, .int .i64 0] 135)) (w.heap.size + 1 + 1 + 1 + 1) = some (.cells #[.pointer (some ⟨hb, 0, none⟩), .map (some (w.heap.size + 1 + 1)), .int .i64 0, .int .i64 0, .slice (some ⟨w.heap.size + 1 + 1 + 1, 0, none⟩) (m * 256) (m * 256), .slice none 0 0, .int .i64 0, .int .i64 0, .int .i64 0] 135 (0, 0)) ∧
      blk (((((w.alloc (.cells #[.int .i64 p0, .int .i64 p1] 72)).alloc (.cells #[.int .i64 0, .int .i64 0, .int .i64 0] 69)).alloc (.map #[] 0)).alloc (.cells (boolCells (falses (m * 256))) 4)).alloc (.cells #[.pointer (some ⟨hb, 0, none⟩), .map (some (w.heap.size + 1 + 1)), .int .i64 0, .int .i64 0, .slice (some ⟨w.heap.size + 1 + 1 + 1, 0, none⟩) (m * 256) (m * 256), .slice none 0 0, .int .i64 0, .int .i64 0, .int .i64 0] 135)) (w.heap.size + 1 + 1 + 1) = some (.cells (boolCells (falses (m * 256))) 4 (0, 0)) ∧ blk (((((w.alloc (.cells #[.int .i64 p0, .int .i64 p1] 72)).alloc (.cells #[.int .i64 0, .int .i64 0, .int .i64 0] 69)).alloc (.map #[] 0)).alloc (.cells (boolCells (falses (m * 256))) 4)).alloc (.cells #[.pointer (some ⟨hb, 0, none⟩), .map (some (w.heap.size + 1 + 1)), .int .i64 0, .int .i64 0, .slice (some ⟨w.heap.size + 1 + 1 + 1, 0, none⟩) (m * 256) (m * 256), .slice none 0 0, .int .i64 0, .int .i64 0, .int .i64 0] 135)) (w.heap.size + 1) = some (.cells #[.int .i64 0, .int .i64 0, .int .i64 0] 69 (0, 0)) ∧ ClAt (((((w.alloc (.cells #[.int .i64 p0, .int .i64 p1] 72)).alloc (.cells #[.int .i64 0, .int .i64 0, .int .i64 0] 69)).alloc (.map #[] 0)).alloc (.cells (boolCells (falses (m * 256))) 4)).alloc (.cells #[.pointer (some ⟨hb, 0, none⟩), .map (some (w.heap.size + 1 + 1)), .int .i64 0, .int .i64 0, .slice (some ⟨w.heap.size + 1 + 1 + 1, 0, none⟩) (m * 256) (m * 256), .slice none 0 0, .int .i64 0, .int .i64 0, .int .i64 0] 135)) (w.heap.size + 1 + 1) 0 (fun _ => 0) ∧ w.heap.size + 5 ≤ (((((w.alloc (.cells #[.int .i64 p0, .int .i64 p1] 72)).alloc (.cells #[.int .i64 0, .int .i64 0, .int .i64 0] 69)).alloc (.map #[] 0)).alloc (.cells (boolCells (falses (m * 256))) 4)).alloc (.cells #[.pointer (some ⟨hb, 0, none⟩), .map (some (w.heap.size + 1 + 1)), .int .i64 0, .int .i64 0, .slice (some ⟨w.heap.size + 1 + 1 + 1, 0, none⟩) (m * 256) (m * 256), .slice none 0 0, .int .i64 0, .int .i64 0, .int .i64 0] 135)).heap.size) := Lib.hid ⟨B5.out.1, B5.out.2.1, B5.out.2.2.1, B5.out.2.2.2.1, Nat.le_of_eq B5.out.2.2.2.2.symm⟩
  have LB : Hid ((0 : Int) ≤ 0 ∧ (0 : Int) ≤ 4096) := Lib.hid (by omega)
  have H0 : Hid (TrAt (((((w.alloc (.cells #[.int .i64 p0, .int .i64 p1] 72)).alloc (.cells #[.int .i64 0, .int .i64 0, .int .i64 0] 69)).alloc (.map #[] 0)).alloc (.cells (boolCells (falses (m * 256))) 4)).alloc (.cells #[.pointer (some ⟨hb, 0, none⟩), .map (some (w.heap.size + 1 + 1)), .int .i64 0, .int .i64 0, .slice (some ⟨w.heap.size + 1 + 1 + 1, 0, none⟩) (m * 256) (m * 256), .slice none 0 0, .int .i64 0, .int .i64 0, .int .i64 0] 135)) ⟨w.heap.size + 1 + 1 + 1 + 1, w.heap.size + 1 + 1, w.heap.size + 1 + 1 + 1, hb, b, wb, lb, (((((w.alloc (.cells #[.int .i64 p0, .int .i64 p1] 72)).alloc (.cells #[.int .i64 0, .int .i64 0, .int .i64 0] 69)).alloc (.map #[] 0)).alloc (.cells (boolCells (falses (m * 256))) 4)).alloc (.cells #[.pointer (some ⟨hb, 0, none⟩), .map (some (w.heap.size + 1 + 1)), .int .i64 0, .int .i64 0, .slice (some ⟨w.heap.size + 1 + 1 + 1, 0, none⟩) (m * 256) (m * 256), .slice none 0 0, .int .i64 0, .int .i64 0, .int .i64 0] 135)).heap.size⟩ m 0 (fun _ => 0) (.slice none 0 0) (startT A m 0)) := Lib.hid (by
    obtain ⟨l1, l2, l3, l4⟩ := LT.out
    obtain ⟨n1, n2, n3, n4, n5, n6⟩ := NE.out
    have hs := F6.out.size
    refine TrAt.begin (HH.out.keep F6.out) OK.out WD.out B6.out.1 B6.out.2.1 B6.out.2.2.2.1 ?_ ?_ ?_
    · have := B6.out.2.2.2.2; omega
    · simp only [List.nodup_cons, List.mem_cons, List.not_mem_nil, or_false, not_or, List.nodup_nil, not_false_eq_true, and_true]
      omega
    · exact LB.out)
  have R0 : Hid (RowsIn (((((w.alloc (.cells #[.int .i64 p0, .int .i64 p1] 72)).alloc (.cells #[.int .i64 0, .int .i64 0, .int .i64 0] 69)).alloc (.map #[] 0)).alloc (.cells (boolCells (falses (m * 256))) 4)).alloc (.cells #[.pointer (some ⟨hb, 0, none⟩), .map (some (w.heap.size + 1 + 1)), .int .i64 0, .int .i64 0, .slice (some ⟨w.heap.size + 1 + 1 + 1, 0, none⟩) (m * 256) (m * 256), .slice none 0 0, .int .i64 0, .int .i64 0, .int .i64 0] 135)) rs ls) := Lib.hid (HR.out.keep fun r hr o ho => F6.out.at ho (by simp))
  have X0 : Hid (FX ⟨w.heap.size + 1 + 1 + 1 + 1, w.heap.size + 1 + 1, w.heap.size + 1 + 1 + 1, hb, b, wb, lb, (((((w.alloc (.cells #[.int .i64 p0, .int .i64 p1] 72)).alloc (.cells #[.int .i64 0, .int .i64 0, .int .i64 0] 69)).alloc (.map #[] 0)).alloc (.cells (boolCells (falses (m * 256))) 4)).alloc (.cells #[.pointer (some ⟨hb, 0, none⟩), .map (some (w.heap.size + 1 + 1)), .int .i64 0, .int .i64 0, .slice (some ⟨w.heap.size + 1 + 1 + 1, 0, none⟩) (m * 256) (m * 256), .slice none 0 0, .int .i64 0, .int .i64 0, .int .i64 0] 135)).heap.size⟩ (rs.map Rw.g) (((((w.alloc (.cells #[.int .i64 p0, .int .i64 p1] 72)).alloc (.cells #[.int .i64 0, .int .i64 0, .int .i64 0] 69)).alloc (.map #[] 0)).alloc (.cells (boolCells (falses (m * 256))) 4)).alloc (.cells #[.pointer (some ⟨hb, 0, none⟩), .map (some (w.heap.size + 1 + 1)), .int .i64 0, .int .i64 0, .slice (some ⟨w.heap.size + 1 + 1 + 1, 0, none⟩) (m * 256) (m * 256), .slice none 0 0, .int .i64 0, .int .i64 0, .int .i64 0] 135)) (((((w.alloc (.cells #[.int .i64 p0, .int .i64 p1] 72)).alloc (.cells #[.int .i64 0, .int .i64 0, .int .i64 0] 69)).alloc (.map #[] 0)).alloc (.cells (boolCells (falses (m * 256))) 4)).alloc (.cells #[.pointer (some ⟨hb, 0, none⟩), .map (some (w.heap.size + 1 + 1)), .int .i64 0, .int .i64 0, .slice (some ⟨w.heap.size + 1 + 1 + 1, 0, none⟩) (m * 256) (m * 256), .slice none 0 0, .int .i64 0, .int .i64 0, .int .i64 0] 135))) := Lib.hid (FX.refl (Nat.le_refl _))
  have FAR : Hid (∀ r, r ∈ rs → (⟨w.heap.size + 1 + 1 + 1 + 1, w.heap.size + 1 + 1, w.heap.size + 1 + 1 + 1, hb, b, wb, lb, (((((w.alloc (.cells #[.int .i64 p0, .int .i64 p1] 72)).alloc (.cells #[.int .i64 0, .int .i64 0, .int .i64 0] 69)).alloc (.map #[] 0)).alloc (.cells (boolCells (falses (m * 256))) 4)).alloc (.cells #[.pointer (some ⟨hb, 0, none⟩), .map (some (w.heap.size + 1 + 1)), .int .i64 0, .int .i64 0, .slice (some ⟨w.heap.size + 1 + 1 + 1, 0, none⟩) (m * 256) (m * 256), .slice none 0 0, .int .i64 0, .int .i64 0, .int .i64 0] 135)).heap.size⟩ : Tk).far r.g) := Lib.hid (fun r hr => by
    obtain ⟨g1, g2⟩ := HA.out.g r hr
    have hs := F6.out.size
    refine ⟨by simp only; omega, ?_⟩
    simp only [List.mem_cons, List.not_mem_nil, or_false, not_or] at g2 ⊢
    obtain ⟨g3, g4, g5, g6⟩ := g2
    exact ⟨by omega, by omega, g3, g4, g5, g6, by omega⟩)
  have KA : Hid (∀ w' (i : Nat) (r : Rw), FX ⟨w.heap.size + 1 + 1 + 1 + 1, w.heap.size + 1 + 1, w.heap.size + 1 + 1 + 1, hb, b, wb, lb, (((((w.alloc (.cells #[.int .i64 p0, .int .i64 p1] 72)).alloc (.cells #[.int .i64 0, .int .i64 0, .int .i64 0] 69)).alloc (.map #[] 0)).alloc (.cells (boolCells (falses (m * 256))) 4)).alloc (.cells #[.pointer (some ⟨hb, 0, none⟩), .map (some (w.heap.size + 1 + 1)), .int .i64 0, .int .i64 0, .slice (some ⟨w.heap.size + 1 + 1 + 1, 0, none⟩) (m * 256) (m * 256), .slice none 0 0, .int .i64 0, .int .i64 0, .int .i64 0] 135)).heap.size⟩ (rs.map Rw.g) (((((w.alloc (.cells #[.int .i64 p0, .int .i64 p1] 72)).alloc (.cells #[.int .i64 0, .int .i64 0, .int .i64 0] 69)).alloc (.map #[] 0)).alloc (.cells (boolCells (falses (m * 256))) 4)).alloc (.cells #[.pointer (some ⟨hb, 0, none⟩), .map (some (w.heap.size + 1 + 1)), .int .i64 0, .int .i64 0, .slice (some ⟨w.heap.size + 1 + 1 + 1, 0, none⟩) (m * 256) (m * 256), .slice none 0 0, .int .i64 0, .int .i64 0, .int .i64 0] 135)) w' → rs[i]? = some r → ∃ rb o, va0 = some ⟨rb, o, none⟩ ∧ w'.cell? ⟨rb, o + i, none⟩ = some (.slice r.va r.l.length r.cap)) := Lib.hid (fun w' i r hF hr => by
    obtain ⟨rb, o, cap, h1, h2, h3, h4⟩ := HA.out.c i r hr
    simp only [Value.slice.injEq, true_and] at h1
    have hlt := (addr_none h2).2
    have hs := F6.out.size
    simp only [List.mem_cons, List.not_mem_nil, or_false, not_or] at h3
    refine ⟨rb, o, h1.1, cell_fx (cell_fr h2 F6.out (by simp)) hF (by simp only at hlt ⊢; omega) ?_ h4⟩
    simp only at hlt
    simp only [Tk.own, List.mem_cons, List.not_mem_nil, or_false, not_or]
    exact ⟨by omega, by omega, h3.2.1, h3.2.2.1, h3.2.2.2⟩)
  have RES : Hid (∀ w', FX ⟨w.heap.size + 1 + 1 + 1 + 1, w.heap.size + 1 + 1, w.heap.size + 1 + 1 + 1, hb, b, wb, lb, (((((w.alloc (.cells #[.int .i64 p0, .int .i64 p1] 72)).alloc (.cells #[.int .i64 0, .int .i64 0, .int .i64 0] 69)).alloc (.map #[] 0)).alloc (.cells (boolCells (falses (m * 256))) 4)).alloc (.cells #[.pointer (some ⟨hb, 0, none⟩), .map (some (w.heap.size + 1 + 1)), .int .i64 0, .int .i64 0, .slice (some ⟨w.heap.size + 1 + 1 + 1, 0, none⟩) (m * 256) (m * 256), .slice none 0 0, .int .i64 0, .int .i64 0, .int .i64 0] 135)).heap.size⟩ (rs.map Rw.g) (((((w.alloc (.cells #[.int .i64 p0, .int .i64 p1] 72)).alloc (.cells #[.int .i64 0, .int .i64 0, .int .i64 0] 69)).alloc (.map #[] 0)).alloc (.cells (boolCells (falses (m * 256))) 4)).alloc (.cells #[.pointer (some ⟨hb, 0, none⟩), .map (some (w.heap.size + 1 + 1)), .int .i64 0, .int .i64 0, .slice (some ⟨w.heap.size + 1 + 1 + 1, 0, none⟩) (m * 256) (m * 256), .slice none 0 0, .int .i64 0, .int .i64 0, .int .i64 0] 135)) w' → blk w' (w.heap.size + 1) = some (.cells #[.int .i64 0, .int .i64 0, .int .i64 0] 69 (0, 0))) := Lib.hid (fun w' hF => by
    have hs := F6.out.size
    have := B6.out.2.2.2.2
    obtain ⟨l1, l2, l3, l4⟩ := LT.out
    rw [hF.block _ (by simp only; omega) ?_ ?_]
    · exact B6.out.2.2.1
    · simp only [Tk.own, List.mem_cons, List.not_mem_nil, or_false, not_or]
      omega
    · intro hm
      obtain ⟨r, hr, he⟩ := List.mem_map.1 hm
      have := (HA.out.g r hr).1
      omega)
  have FIN : Hid (∀ w', FX ⟨w.heap.size + 1 + 1 + 1 + 1, w.heap.size + 1 + 1, w.heap.size + 1 + 1 + 1, hb, b, wb, lb, (((((w.alloc (.cells #[.int .i64 p0, .int .i64 p1] 72)).alloc (.cells #[.int .i64 0, .int .i64 0, .int .i64 0] 69)).alloc (.map #[] 0)).alloc (.cells (boolCells (falses (m * 256))) 4)).alloc (.cells #[.pointer (some ⟨hb, 0, none⟩), .map (some (w.heap.size + 1 + 1)), .int .i64 0, .int .i64 0, .slice (some ⟨w.heap.size + 1 + 1 + 1, 0, none⟩) (m * 256) (m * 256), .slice none 0 0, .int .i64 0, .int .i64 0, .int .i64 0] 135)).heap.size⟩ (rs.map Rw.g) (((((w.alloc (.cells #[.int .i64 p0, .int .i64 p1] 72)).alloc (.cells #[.int .i64 0, .int .i64 0, .int .i64 0] 69)).alloc (.map #[] 0)).alloc (.cells (boolCells (falses (m * 256))) 4)).alloc (.cells #[.pointer (some ⟨hb, 0, none⟩), .map (some (w.heap.size + 1 + 1)), .int .i64 0, .int .i64 0, .slice (some ⟨w.heap.size + 1 + 1 + 1, 0, none⟩) (m * 256) (m * 256), .slice none 0 0, .int .i64 0, .int .i64 0, .int .i64 0] 135)) w' → Fr (b :: wb :: lb :: rs.map Rw.g) w w' ∧ w.heap.size + 1 ∉ (b :: wb :: lb :: rs.map Rw.g) ∧ w.heap.size ≤ w.heap.size + 1) := Lib.hid (fun w' hF => ⟨hF.fin F6.out (by simp only; omega) (by simp only; omega) (by simp only; exact F6.out.size), by
    obtain ⟨l1, l2, l3, l4⟩ := LT.out
    simp only [List.mem_cons, not_or]
    refine ⟨by omega, by omega, by omega, fun hm => ?_⟩
    obtain ⟨r, hr, he⟩ := List.mem_map.1 hm
    have := (HA.out.g r hr).1
    omega, by omega⟩)
  have LO : Hid (w.heap.size ≤ w.heap.size + 1 + 1 + 1 + 1) := Lib.hid (by omega)
  have RKH : Hid (w.heap.size + 1 ≠ hb) := Lib.hid (by have := LT.out.1; omega)
  have RKB : Hid (w.heap.size + 1 < w.heap.size + 1 + 1 + 1 + 1) := Lib.hid (by omega)
  obtain ⟨TT, ls', hRU, hPT⟩ := HN.out (fun _ => 0) 0 LB.out (fun _ => rfl)
  have RU := Lib.hid hRU
  have PL := Lib.hid hPT
  have LSL : Hid (ls.length = rs.length) := Lib.hid HR.out.1
  have AP : Hid (RowsAp rs) := Lib.hid HA.out.ap
  have RL : Hid (∀ r, r ∈ rs → r.l.length ≤ 1000000) := Lib.hid HA.out.l
  clear hRU hPT HN HA HR HH OK WD F2 F3 F5 B5 F6 B6 LT NE LB RB hmm
  generalize (((((w.alloc (.cells #[.int .i64 p0, .int .i64 p1] 72)).alloc (.cells #[.int .i64 0, .int .i64 0, .int .i64 0] 69)).alloc (.map #[] 0)).alloc (.cells (boolCells (falses (m * 256))) 4)).alloc (.cells #[.pointer (some ⟨hb, 0, none⟩), .map (some (w.heap.size + 1 + 1)), .int .i64 0, .int .i64 0, .slice (some ⟨w.heap.size + 1 + 1 + 1, 0, none⟩) (m * 256) (m * 256), .slice none 0 0, .int .i64 0, .int .i64 0, .int .i64 0] 135)) = W at *
  generalize w.heap.size + 1 + 1 + 1 + 1 = tb at *
  generalize w.heap.size + 1 + 1 + 1 = sb at *
  generalize w.heap.size + 1 + 1 = mb at *
  generalize w.heap.size + 1 = rk at *
  generalize W.heap.size = B at *
  obtain ⟨c, h1, h2, h3, h4, h5, h6, h7, h8⟩ : ∃ c : Tk, tb = c.tb ∧ mb = c.mb ∧ sb = c.sb ∧ hb = c.hb ∧ b = c.b ∧ wb = c.wb ∧ lb = c.lb ∧ B = c.B := ⟨⟨tb, mb, sb, hb, b, wb, lb, B⟩, rfl, rfl, rfl, rfl, rfl, rfl, rfl, rfl⟩
  subst h1 h2 h3 h4 h5 h6 h7 h8
  generalize startT A m 0 = T0 at *
  generalize hclg : ((fun _ => 0) : Int → Int) = cl at *
  clear hclg
  have Q0 : Hid (RQ c m 0 cl T0 ls rs W W 0) := Lib.hid (RQ.start H0.out R0.out X0.out)
  clear H0 R0 X0
  go_loopw [50, 10, 11, 12] (fun x _ _ _ wr => ∃ q : Nat, q ≤ rs.length ∧ x = .int .i64 (q : Int) ∧ Hid (RQ c m 0 cl T0 ls rs W wr q)) (fun x _ _ _ _ => rs.length - (intOf x).toNat)
  case atStart => exact ⟨0, by omega, rfl, Q0⟩
  case round =>
    obtain ⟨wo, rfl⟩ : ∃ wo : World, wo = wr := ⟨_, rfl⟩
    obtain ⟨q, hq, rfl, HQ⟩ := hrel
    clear Q0
    by_cases hlt : q < rs.length
    · obtain ⟨r, hr⟩ : ∃ r, rs[q]? = some r := ⟨rs[q], by simp [hlt]⟩
      obtain ⟨rb, ro, hva, kc⟩ := KA.out wo q r HQ.out.fx hr
      subst hva
      have QL := Lib.hid (show q < ls.length by rw [LSL.out]; exact hlt)
      have I0 := Lib.hid (HQ.out.inner QL.out)
      have hrl := RL.out r (List.mem_of_getElem? hr)
      have HL := Lib.hid (I0.out.len QL.out (Nat.zero_le _) hr)
      have HR := Lib.hid hr
      obtain ⟨L, hL⟩ : ∃ L, L = r.l.length := ⟨_, rfl⟩
      rw [← hL] at kc hrl HL
      clear hr hL HQ
      go_wp2_with fail
      go_loopw [56, 11, 12] (fun x _ _ wr => ∃ j : Nat, j ≤ L ∧ x = .int .i64 (j : Int) ∧ Hid (RI c m 0 cl T0 ls rs W wr q j)) (fun x _ _ _ => L - (intOf x).toNat)
      case atStart => exact ⟨0, by omega, rfl, I0⟩
      case round =>
        obtain ⟨wo2, rfl⟩ : ∃ wo2 : World, wo2 = wr := ⟨_, rfl⟩
        obtain ⟨j, hj, rfl, HI⟩ := hrel
        clear I0 kc
        by_cases hlt2 : j < L
        · have JL := Lib.hid (show j < (ls[q]?.getD []).length by rw [← HL.out]; exact hlt2)
          obtain ⟨kv, k1, k2⟩ := HI.out.word QL.out JL.out HR.out
          obtain ⟨hb1, hx0, hx1⟩ := RI.bd RU.out.bd QL.out JL.out
          obtain ⟨wv, htr⟩ := HI.out.tr
          have CF := Lib.hid (follow_c htr HI.out.fx.ge hb1 _ hx0 hx1)
          have ST := Lib.hid (fun e w' hd => HI.out.step (e := e) (w' := w') AP.out FAR.out QL.out JL.out HR.out hd)
          obtain ⟨x, hx⟩ : ∃ x, x = (ls[q]?.getD [])[j]?.getD 0 := ⟨_, rfl⟩
          rw [← hx] at k1 hx0 hx1 CF ST
          rcases hfo : followT cl m (TTr cl m T0 ls q j) x with ⟨T1, y⟩
          rw [hfo] at CF ST
          simp only [] at CF ST
          rw [kv]
          clear htr hb1 HI hx hfo
          go_wp2_with fail
          refine CF.out.mono ?_
          intro e w3 hd
          obtain ⟨ST1, f3, v3, k3⟩ := ST.out _ _ hd
          have he := hd.1
          subst he
          have ST1 := Lib.hid ST1
          simp only []
          clear hd CF ST k1 k2 kv
          go_wp2
          go_roundw
          case rel => exact ⟨j + 1, by omega, by go_num, ST1⟩
          case measure => simp [intOf]; omega
        · have Q1 := Lib.hid (HI.out.outer QL.out (by rw [← HL.out]; omega))
          have HJ := Lib.hid (show ¬ j < L from hlt2)
          clear HI
          go_wp2
          go_roundw
          case rel => exact ⟨q + 1, by omega, by go_num, Q1⟩
          case measure => simp [intOf]; omega
    · obtain ⟨g0, T1, wv1, hD⟩ := RQ.drain (by rw [show ls.length = q by rw [LSL.out]; omega]; exact HQ.out) RU.out
      have HD := Lib.hid hD
      clear hD HQ KA AP RL RU
      go_wp2_with fail
      go_loopg [13, 14] g0 (fun g _ _ wr => ∃ T wv, Hid (RD c m 0 cl TT ls' rs W wr g T wv))
      case atStart => exact ⟨T1, wv1, HD⟩
      case round =>
        obtain ⟨wd, rfl⟩ : ∃ wd : World, wd = wr := ⟨_, rfl⟩
        obtain ⟨T, wv, HD2⟩ := hrel
        clear HD
        have k5 := HD2.out.tr.c5
        have f5 := HD2.out.tr.ft
        by_cases hw : T.work = []
        · obtain ⟨a, cap, hwv, hcap⟩ := work_form HD2.out.tr
          rw [hwv, hw] at k5
          have hTT := HD2.out.done hw
          subst hTT
          have OKT := Lib.hid HD2.out.tr.ok
          have CS := Lib.hid (sweep_c wd HD2.out.tr.h.ar OKT.out)
          have apn := HD2.out.tr.ap
          simp only [List.nodup_cons, List.mem_cons, List.not_mem_nil, or_false, not_or] at apn
          have AFT : Hid (∀ w4, ArAt w4 c.b c.wb c.lb T.A.sweep → Fr [c.b, c.lb] wd w4 → (∃ cs : Array Value, blk w4 c.tb = some (.cells cs 135 (0, 0)) ∧ cs[6]? = some (.int .i64 T.live) ∧ cs[7]? = some (.int .i64 T.moved) ∧ cs[8]? = some (.int .i64 0)) ∧ HeAt w4 c.hb c.b c.wb c.lb T.A.sweep ∧ FX c (rs.map Rw.g) W w4 ∧ RowsIn w4 rs ls') := Lib.hid (fun w4 hA4 F4 => by
            have hFB : FB c wd w4 := FB.of F4 HD2.out.fx.ge (by simp [Tk.own])
            refine ⟨⟨_, F4.at HD2.out.tr.t (by simp only [List.mem_cons, List.not_mem_nil, or_false, not_or]; exact ⟨apn.1.2.2.1, apn.1.2.2.2.2.1⟩), rfl, rfl, rfl⟩, HD2.out.tr.h.arena F4 (by simp only [List.mem_cons, List.not_mem_nil, or_false, not_or]; exact ⟨apn.2.2.1.1, apn.2.2.1.2.2.1⟩) hA4, HD2.out.fx.fb hFB, HD2.out.rows.fb hFB FAR.out⟩)
          have hTB : Hid (c.tb < c.B) := Lib.hid HD2.out.tr.lo.2.2.2.2.1
          have APN : Hid (c.hb ≠ c.tb ∧ (c.b ≠ c.tb ∧ c.wb ≠ c.tb ∧ c.lb ≠ c.tb) ∧ rk ≠ c.hb ∧ True) := Lib.hid ⟨fun h => apn.1.2.1 h.symm, ⟨fun h => apn.1.2.2.1 h.symm, fun h => apn.1.2.2.2.1 h.symm, fun h => apn.1.2.2.2.2.1 h.symm⟩, RKH.out, trivial⟩
          clear hw hwv HD2 apn
          go_wp2_with fail
          refine CS.out.mono ?_
          rintro e w4 ⟨rfl, hA4, F4⟩
          obtain ⟨⟨cs, T4, cs6, cs7, cs8⟩, H4, X4, R4⟩ := AFT.out w4 hA4 F4
          have CE := Lib.hid (empty_c w4 hA4 OKT.out.sweep)
          have T4 := Lib.hid T4
          have H4 := Lib.hid H4
          have X4 := Lib.hid X4
          have R4 := Lib.hid R4
          have CSF := Lib.hid (And.intro cs6 (And.intro cs7 cs8))
          clear CS AFT hA4 F4 k5 f5 cs6 cs7 cs8
          go_wp2_with fail
          refine CE.out.mono ?_
          rintro e w5 ⟨rfl, F5⟩
          have T5 := F5.at T4.out (by simp)
          have k6 := cell_of T5 CSF.out.1
          have k7 := cell_of T5 CSF.out.2.1
          have k8 := cell_of T5 CSF.out.2.2
          have f6 : ∀ i, w5.frozen? ⟨c.tb, i, none⟩ = false := fun i => free_of T5
          have X5 := Lib.hid (X4.out.fb (FB.nil F5 X4.out.ge))
          have Z5 := RES.out w5 X5.out
          have z0 : w5.cell? ⟨rk, 0, none⟩ = some (.int .i64 0) := cell_of Z5 rfl
          have z1 : w5.cell? ⟨rk, 1, none⟩ = some (.int .i64 0) := cell_of Z5 rfl
          have z2 : w5.cell? ⟨rk, 2, none⟩ = some (.int .i64 0) := cell_of Z5 rfl
          have g6 : ∀ i, w5.frozen? ⟨rk, i, none⟩ = false := fun i => free_of Z5
          obtain ⟨FN1, FN2, FN3⟩ := FIN.out w5 X5.out
          have FN := Lib.hid (And.intro FN1 (And.intro FN2 FN3))
          have hne : rk ≠ c.tb := by have := RKB.out; omega
          have hne2 := Ne.symm hne
          have H5 := Lib.hid (H4.out.keep F5)
          have R5 : Hid (RowsIn w5 rs ls') := Lib.hid (R4.out.keep fun r hr o ho => F5.at ho (by simp))
          have Z5 := Lib.hid Z5
          clear T4 T5 CSF X4 X5 H4 R4 F5 CE RES FIN FN1 FN2 FN3 OKT
          go_wp2
          have B0 : blk ((((w5.setCell ⟨c.tb, 8, none⟩ (.int .i64 (emptyIn T.A.sweep.lines m : Nat))).setCell ⟨rk, 0, none⟩ (.int .i64 T.live)).setCell ⟨rk, 1, none⟩ (.int .i64 T.moved)).setCell ⟨rk, 2, none⟩ (.int .i64 (emptyIn T.A.sweep.lines m : Nat))) rk = some (.cells #[.int .i64 T.live, .int .i64 T.moved, .int .i64 (emptyIn T.A.sweep.lines m : Nat)] 69 (0, 0)) := by
            rw [blk_set, if_pos rfl, blk_set, if_pos rfl, blk_set, if_pos rfl, blk_set, if_neg hne, Z5.out]; rfl
          have FF : Fr [c.tb, rk] w5 ((((w5.setCell ⟨c.tb, 8, none⟩ (.int .i64 (emptyIn T.A.sweep.lines m : Nat))).setCell ⟨rk, 0, none⟩ (.int .i64 T.live)).setCell ⟨rk, 1, none⟩ (.int .i64 T.moved)).setCell ⟨rk, 2, none⟩ (.int .i64 (emptyIn T.A.sweep.lines m : Nat))) := ((((Fr.refl _ _).setCell (by simp) _).setCell (by simp) _).setCell (by simp) _).setCell (by simp) _
          have r0 := cell_of B0 (i := 0) rfl
          have r1 := cell_of B0 (i := 1) rfl
          have r2 := cell_of B0 (i := 2) rfl
          refine bodyPost_ret (v := .agg #[.int .i64 T.live, .int .i64 T.moved, .int .i64 (emptyIn T.A.sweep.lines m : Nat)]) (by simp [results, Try.results36, go_sem, r0, r1, r2]) rfl ⟨cl, T, ls', PL.out, rfl, ?_, ?_, ?_⟩
          · obtain ⟨a1, a2, a3⟩ := APN.out
            have hn := FN.out.2.1
            simp only [List.mem_cons, not_or] at hn
            exact H5.out.fr FF (by simp only [List.mem_cons, List.not_mem_nil, or_false, not_or]; exact ⟨a1, Ne.symm a3.1⟩) (by simp only [List.mem_cons, List.not_mem_nil, or_false, not_or]; exact ⟨a2.1, Ne.symm hn.1⟩) (by simp only [List.mem_cons, List.not_mem_nil, or_false, not_or]; exact ⟨a2.2.1, Ne.symm hn.2.1⟩) (by simp only [List.mem_cons, List.not_mem_nil, or_false, not_or]; exact ⟨a2.2.2, Ne.symm hn.2.2.1⟩)
          · refine R5.out.keep fun r hr o ho => FF.at ho ?_
            have hn := FN.out.2.1
            have hf := (FAR.out r hr).2
            simp only [List.mem_cons, not_or] at hn
            simp only [List.mem_cons, List.not_mem_nil, or_false, not_or] at hf ⊢
            exact ⟨hf.1, fun he => hn.2.2.2 (by rw [← he]; exact List.mem_map_of_mem hr)⟩
          · have hlo := LO.out
            have hlk := FN.out.2.2
            exact FN.out.1.trans FF (fun x hx => by
              simp only [List.mem_cons, List.not_mem_nil, or_false] at hx
              rcases hx with rfl | rfl
              · exact .inr hlo
              · exact .inr hlk)
        · obtain ⟨g', a, cap, k, x, hg, hkl, hkb, hwv, hkc, kx, hx0, hx1, HW⟩ := HD2.out.pop FAR.out hw
          rw [hwv] at k5
          obtain ⟨T2, t2, hB2, bd2, nx⟩ := HW wd (Fr.refl _ _)
          have CS := Lib.hid (scan_c t2 hB2 x hx0 hx1 bd2)
          have NX := Lib.hid nx
          clear hw hwv HD2 HW t2 hB2 bd2 nx
          go_wp2_with fail
          refine CS.out.mono ?_
          rintro e w2 ⟨rfl, h2, F2⟩
          obtain ⟨T3, wv3, HD3⟩ := NX.out w2 ⟨h2, F2⟩
          have HD3 := Lib.hid HD3
          clear h2 F2 NX CS k5 f5 kx
          go_wp2
          go_roundg g'
          case measure => omega
          case rel => exact ⟨T3, wv3, HD3⟩
set_option maxRecDepth 100000 in
set_option maxHeartbeats 8000000 in
theorem run_c (hH : HeAt w hb b wb lb A) (ok : A.Ok m) (wd : A.Wd) (rv : Value) (rs : List Rw) (ls : List (List Int)) (hA : RowsArg w hb b wb lb rv rs) (hR : RowsIn w rs ls) (p0 p1 : Int) (h0 : 0 < p0) (h1 : 0 < p1) {P : (Int → Int) → Tr → List (List Int) → Prop} (hN : NoMore A m ls p0 p1 P) :
    Calls Try.prog 36 #[.pointer (some ⟨hb, 0, none⟩), rv, .agg #[.int .i64 p0, .int .i64 p1]] w (RunDone hb b wb lb m rs P w) := by
  obtain ⟨va0, cap0, hrv⟩ := hA.v
  subst hrv
  have HH := Lib.hid hH
  have OK := Lib.hid ok
  have WD := Lib.hid wd
  have HA := Lib.hid hA
  have HR := Lib.hid hR
  have HN := Lib.hid hN
  have m1 := ok.m1
  have m2 := ok.m2
  have hrn := hA.n
  have RB : ∀ w : World, (Instr.makeSlice 27 (.int .i64 ((m : Int) * 256)) (.int .i64 ((m : Int) * 256))).run Try.prog w = .ok (.slice (some ⟨w.heap.size, 0, none⟩) (m * 256) (m * 256)) (w.alloc (.cells (boolCells (falses (m * 256))) 4)) :=
    fun w => by have := run_bools w (m * 256) (by omega); rw [← this]; simp
  have hmm := @run_makeMap Try.prog
  clear hH ok wd hA hR hN
  go_enter Try.func36, Try.ntmps36
  go_wp2_with fail
  have F2 : Hid (Fr [] w ((w.alloc (.cells #[.int .i64 p0, .int .i64 p1] 72)).alloc (.cells #[.int .i64 0, .int .i64 0, .int .i64 0] 69))) := Lib.hid (((Fr.refl _ _).alloc _).alloc _)
  refine (oarena_c _ (HH.out.keep F2.out)).mono ?_
  rintro e w' ⟨rfl, rfl⟩
  have F3 : Hid (Fr [] w (((w.alloc (.cells #[.int .i64 p0, .int .i64 p1] 72)).alloc (.cells #[.int .i64 0, .int .i64 0, .int .i64 0] 69)).alloc (.map #[] 0))) := Lib.hid (F2.out.alloc _)
  go_wp2_with fail
  refine (blocks_c _ (HH.out.keep F3.out).ar OK.out).mono ?_
  rintro e w' ⟨rfl, rfl⟩
  have F5 : Hid (Fr [] w (((((w.alloc (.cells #[.int .i64 p0, .int .i64 p1] 72)).alloc (.cells #[.int .i64 0, .int .i64 0, .int .i64 0] 69)).alloc (.map #[] 0)).alloc (.cells (boolCells (falses (m * 256))) 4)).alloc (.cells #[.pointer (some ⟨hb, 0, none⟩), .map (some (w.heap.size + 1 + 1)), .int .i64 0, .int .i64 0, .slice (some ⟨w.heap.size + 1 + 1 + 1, 0, none⟩) (m * 256) (m * 256), .slice none 0 0, .int .i64 0, .int .i64 0, .int .i64 0] 135))) := Lib.hid ((F3.out.alloc _).alloc _)
  have B5 : Hid (blk (((((w.alloc (.cells #[.int .i64 p0, .int .i64 p1] 72)).alloc (.cells #[.int .i64 0, .int .i64 0, .int .i64 0] 69)).alloc (.map #[] 0)).alloc (.cells (boolCells (falses (m * 256))) 4)).alloc (.cells #[.pointer (some ⟨hb, 0, none⟩), .map (some (w.heap.size + 1 + 1)), .int .i64 0, .int .i64 0, .slice (some ⟨w.heap.size + 1 + 1 + 1, 0, none⟩) (m * 256) (m * 256), .slice none 0 0, .int .i64 0, .int .i64 0, .int .i64 0] 135)) (w.heap.size + 1 + 1 + 1 + 1) = some (.cells #[.pointer (some ⟨hb, 0, none⟩), .map (some (w.heap.size + 1 + 1)), .int .i64 0, .int .i64 0, .slice (some ⟨w.heap.size + 1 + 1 + 1, 0, none⟩) (m * 256) (m * 256), .slice none 0 0, .int .i64 0, .int .i64 0, .int .i64 0] 135 (0, 0)) ∧
      blk (((((w.alloc (.cells #[.int .i64 p0, .int .i64 p1] 72)).alloc (.cells #[.int .i64 0, .int .i64 0, .int .i64 0] 69)).alloc (.map #[] 0)).alloc (.cells (boolCells (falses (m * 256))) 4)).alloc (.cells #[.pointer (some ⟨hb, 0, none⟩), .map (some (w.heap.size + 1 + 1)), .int .i64 0, .int .i64 0, .slice (some ⟨w.heap.size + 1 + 1 + 1, 0, none⟩) (m * 256) (m * 256), .slice none 0 0, .int .i64 0, .int .i64 0, .int .i64 0] 135)) (w.heap.size + 1 + 1 + 1) = some (.cells (boolCells (falses (m * 256))) 4 (0, 0)) ∧ blk (((((w.alloc (.cells #[.int .i64 p0, .int .i64 p1] 72)).alloc (.cells #[.int .i64 0, .int .i64 0, .int .i64 0] 69)).alloc (.map #[] 0)).alloc (.cells (boolCells (falses (m * 256))) 4)).alloc (.cells #[.pointer (some ⟨hb, 0, none⟩), .map (some (w.heap.size + 1 + 1)), .int .i64 0, .int .i64 0, .slice (some ⟨w.heap.size + 1 + 1 + 1, 0, none⟩) (m * 256) (m * 256), .slice none 0 0, .int .i64 0, .int .i64 0, .int .i64 0] 135)) (w.heap.size + 1) = some (.cells #[.int .i64 0, .int .i64 0, .int .i64 0] 69 (0, 0)) ∧ ClAt (((((w.alloc (.cells #[.int .i64 p0, .int .i64 p1] 72)).alloc (.cells #[.int .i64 0, .int .i64 0, .int .i64 0] 69)).alloc (.map #[] 0)).alloc (.cells (boolCells (falses (m * 256))) 4)).alloc (.cells #[.pointer (some ⟨hb, 0, none⟩), .map (some (w.heap.size + 1 + 1)), .int .i64 0, .int .i64 0, .slice (some ⟨w.heap.size + 1 + 1 + 1, 0, none⟩) (m * 256) (m * 256), .slice none 0 0, .int .i64 0, .int .i64 0, .int .i64 0] 135)) (w.heap.size + 1 + 1) 0 (fun _ => 0) ∧ (((((w.alloc (.cells #[.int .i64 p0, .int .i64 p1] 72)).alloc (.cells #[.int .i64 0, .int .i64 0, .int .i64 0] 69)).alloc (.map #[] 0)).alloc (.cells (boolCells (falses (m * 256))) 4)).alloc (.cells #[.pointer (some ⟨hb, 0, none⟩), .map (some (w.heap.size + 1 + 1)), .int .i64 0, .int .i64 0, .slice (some ⟨w.heap.size + 1 + 1 + 1, 0, none⟩) (m * 256) (m * 256), .slice none 0 0, .int .i64 0, .int .i64 0, .int .i64 0] 135)).heap.size = w.heap.size + 5) := Lib.hid (by
    refine ⟨?_, ?_, ?_, ?_, ?_⟩
    · rw [blk_alloc, if_pos (by simp only [size_alloc])]
    · rw [blk_alloc, if_neg (by simp only [size_alloc]; omega), blk_alloc, if_pos (by simp only [size_alloc])]
    · rw [blk_alloc, if_neg (by simp only [size_alloc]; omega), blk_alloc, if_neg (by simp only [size_alloc]; omega), blk_alloc, if_neg (by simp only [size_alloc]; omega), blk_alloc, if_pos (by simp only [size_alloc])]
    · have := ClAt.made ((w.alloc (.cells #[.int .i64 p0, .int .i64 p1] 72)).alloc (.cells #[.int .i64 0, .int .i64 0, .int .i64 0] 69))
      rw [show ((w.alloc (.cells #[.int .i64 p0, .int .i64 p1] 72)).alloc (.cells #[.int .i64 0, .int .i64 0, .int .i64 0] 69)).heap.size = w.heap.size + 1 + 1 by simp only [size_alloc]] at this
      exact (this.fr ((Fr.refl [] _).alloc _) (by simp)).fr ((Fr.refl [] _).alloc _) (by simp)
    · simp only [size_alloc])
  have hd0 : decide (0 < p0) = true := by simp; omega
  have hd1 : decide (0 < p1) = true := by simp; omega
  have HP : Hid (0 < p0 ∧ 0 < p1) := Lib.hid ⟨h0, h1⟩
  go_wp2_with fail
  have CC := choose_c (((((w.alloc (.cells #[.int .i64 p0, .int .i64 p1] 72)).alloc (.cells #[.int .i64 0, .int .i64 0, .int .i64 0] 69)).alloc (.map #[] 0)).alloc (.cells (boolCells (falses (m * 256))) 4)).alloc (.cells #[.pointer (some ⟨hb, 0, none⟩), .map (some (w.heap.size + 1 + 1)), .int .i64 0, .int .i64 0, .slice (some ⟨w.heap.size + 1 + 1 + 1, 0, none⟩) (m * 256) (m * 256), .slice none 0 0, .int .i64 0, .int .i64 0, .int .i64 0] 135)) (w.heap.size + 1 + 1 + 1 + 1) (cell_of B5.out.1 rfl) (cell_of B5.out.1 rfl) (HH.out.keep F5.out) OK.out B5.out.2.2.2.1 p0
  refine CC.mono ?_
  clear CC
  rintro e w6 ⟨rfl, ⟨cl, nn, hcl⟩, F6⟩
  have LT : Hid (hb < w.heap.size ∧ b < w.heap.size ∧ wb < w.heap.size ∧ lb < w.heap.size) := Lib.hid ⟨lt_size HH.out.p, lt_size HH.out.ar.hb, lt_size HH.out.ar.hw, lt_size HH.out.ar.hl⟩
  have BQ : Hid (blk (((((w.alloc (.cells #[.int .i64 p0, .int .i64 p1] 72)).alloc (.cells #[.int .i64 0, .int .i64 0, .int .i64 0] 69)).alloc (.map #[] 0)).alloc (.cells (boolCells (falses (m * 256))) 4)).alloc (.cells #[.pointer (some ⟨hb, 0, none⟩), .map (some (w.heap.size + 1 + 1)), .int .i64 0, .int .i64 0, .slice (some ⟨w.heap.size + 1 + 1 + 1, 0, none⟩) (m * 256) (m * 256), .slice none 0 0, .int .i64 0, .int .i64 0, .int .i64 0] 135)) w.heap.size = some (.cells #[.int .i64 p0, .int .i64 p1] 72 (0, 0))) := Lib.hid (by
    iterate 4 rw [blk_alloc, if_neg (by simp only [size_alloc]; omega)]
    rw [blk_alloc, if_pos rfl])
  have HW6 : Hid (Fr [] w w6) := Lib.hid (F5.out.trans F6 (fun x hx => by simp only [List.mem_singleton] at hx; right; omega))
  have NN1 : ¬ w.heap.size + 1 + 1 = w.heap.size := by omega
  have B6a := F6.at B5.out.1 (by simp only [List.mem_singleton]; omega)
  have B6b := F6.at B5.out.2.1 (by simp only [List.mem_singleton]; omega)
  have B6c := F6.at B5.out.2.2.1 (by simp only [List.mem_singleton]; omega)
  have B6d := F6.at BQ.out (by simp only [List.mem_singleton]; omega)
  have kp := cell_of B6d (i := 1) rfl
  have kt := cell_of B6a (i := 2) rfl
  have ft : ∀ i, w6.frozen? ⟨w.heap.size + 1 + 1 + 1 + 1, i, none⟩ = false := fun i => free_of B6a
  have SZ : Hid (w.heap.size + 5 ≤ w6.heap.size) := Lib.hid (by have := F6.size; rw [B5.out.2.2.2.2] at this; exact this)
  have B6 := Lib.hid (And.intro B6a (And.intro B6b (And.intro B6c hcl)))
  have CE := Lib.hid (fun wz (hF : Fr [] w6 wz) => empty_c wz ((HH.out.keep HW6.out).keep hF).ar OK.out)
  have KC : Hid (∀ wz, Fr [] w6 wz → wz.cell? ⟨w.heap.size, 1, none⟩ = some (.int .i64 p1)) := Lib.hid (fun wz hF => cell_of (hF.at B6d (by simp)) rfl)
  have KT : Hid (∀ wz, Fr [] w6 wz → wz.cell? ⟨w.heap.size + 1 + 1 + 1 + 1, 2, none⟩ = some (.int .i64 0)) := Lib.hid (fun wz hF => cell_of (hF.at B6a (by simp)) rfl)
  have KF : Hid (∀ wz, Fr [] w6 wz → ∀ i, wz.frozen? ⟨w.heap.size + 1 + 1 + 1 + 1, i, none⟩ = false) := Lib.hid (fun wz hF i => free_of (hF.at B6a (by simp)))
  clear B6a B6b B6c B6d hcl F6 BQ
  go_wp2_with fail
  go_region_with (go_at_call 34; refine (CE.out _ (by repeat (first | exact Fr.refl _ _ | assumption | apply Fr.drew))).mono ?_; rintro e w7 ⟨rfl, F7⟩; have F8 : Fr [] w6 w7 := Fr.same (by repeat (first | exact Fr.refl _ _ | assumption | apply Fr.drew)) F7; have kp := KC.out _ F8; have kt := KT.out _ F8; have ft := KF.out _ F8)
  all_goals (
    clear KC KT KF CE kp kt ft F7
    have FW := Lib.hid F8
    clear F8
    obtain ⟨v4, hv4⟩ : ∃ v4, v4 = (if (emptyIn A.lines m : Int) < p1 then (emptyIn A.lines m : Int) else p1) := ⟨_, rfl⟩
    rw [← hv4]
    obtain ⟨le, hle⟩ : ∃ le, le = IntKind.i64.wrap ((emptyIn A.lines m : Int) - v4) := ⟨_, rfl⟩
    rw [← hle]
    have LB : Hid ((0 : Int) ≤ le ∧ (le : Int) ≤ 4096) := Lib.hid (by
      have := emptyIn_le A.lines m
      obtain ⟨h0, h1⟩ := HP.out
      have hb4 : 0 ≤ v4 ∧ v4 ≤ emptyIn A.lines m := by rw [hv4]; split <;> omega
      rw [hle, IntKind.wrap_i64]
      omega)
    clear hv4
    clear hle
    have F7 : Hid (Fr [] w (w7.setCell ⟨w.heap.size + 1 + 1 + 1 + 1, 2, none⟩ (.int .i64 le))) := Lib.hid ((HW6.out.same FW.out).setCell (.inr (by omega)) _)
    have B7 : Hid (blk (w7.setCell ⟨w.heap.size + 1 + 1 + 1 + 1, 2, none⟩ (.int .i64 le)) (w.heap.size + 1 + 1 + 1 + 1) = some (.cells #[.pointer (some ⟨hb, 0, none⟩), .map (some (w.heap.size + 1 + 1)), .int .i64 le, .int .i64 0, .slice (some ⟨w.heap.size + 1 + 1 + 1, 0, none⟩) (m * 256) (m * 256), .slice none 0 0, .int .i64 0, .int .i64 0, .int .i64 0] 135 (0, 0)) ∧
        blk (w7.setCell ⟨w.heap.size + 1 + 1 + 1 + 1, 2, none⟩ (.int .i64 le)) (w.heap.size + 1 + 1 + 1) = some (.cells (boolCells (falses (m * 256))) 4 (0, 0)) ∧ blk (w7.setCell ⟨w.heap.size + 1 + 1 + 1 + 1, 2, none⟩ (.int .i64 le)) (w.heap.size + 1) = some (.cells #[.int .i64 0, .int .i64 0, .int .i64 0] 69 (0, 0)) ∧ ClAt (w7.setCell ⟨w.heap.size + 1 + 1 + 1 + 1, 2, none⟩ (.int .i64 le)) (w.heap.size + 1 + 1) nn cl ∧ w.heap.size + 5 ≤ (w7.setCell ⟨w.heap.size + 1 + 1 + 1 + 1, 2, none⟩ (.int .i64 le)).heap.size) := Lib.hid (by
      obtain ⟨b1, b2, b3, b4⟩ := B6.out
      refine ⟨?_, ?_, ?_, ?_, ?_⟩
      · rw [blk_set, if_pos rfl, FW.out.at b1 (by simp)]; rfl
      · rw [blk_set, if_neg (by omega), FW.out.at b2 (by simp)]
      · rw [blk_set, if_neg (by omega), FW.out.at b3 (by simp)]
      · exact (b4.fr FW.out (by simp)).fr (S := [w.heap.size + 1 + 1 + 1 + 1]) ((Fr.refl _ _).setCell (by simp) _) (by simp only [List.mem_singleton]; omega)
      · rw [size_set]; have h1 := SZ.out; have h2 := FW.out.size; omega)
    have HPL : Hid (p0 ≤ 0 ∨ p1 ≤ 0 → cl = fun _ => 0) := Lib.hid (fun h => by obtain ⟨a, b⟩ := HP.out; omega)
    clear FW HW6 SZ B6 LT B5 F5
    generalize hw9 : w7.setCell ⟨w.heap.size + 1 + 1 + 1 + 1, 2, none⟩ (.int .i64 le) = w9 at *
    clear hw9
    go_wp2_with fail
    have LT : Hid (hb < w.heap.size ∧ b < w.heap.size ∧ wb < w.heap.size ∧ lb < w.heap.size) := Lib.hid ⟨lt_size HH.out.p, lt_size HH.out.ar.hb, lt_size HH.out.ar.hw, lt_size HH.out.ar.hl⟩
    have NE : Hid (b ≠ wb ∧ b ≠ lb ∧ wb ≠ lb ∧ hb ≠ b ∧ hb ≠ wb ∧ hb ≠ lb) := Lib.hid ⟨HH.out.ar.n1, HH.out.ar.n2, HH.out.ar.n3, HH.out.n1, HH.out.n2, HH.out.n3⟩
    have F6 := F7
    have B6 := B7
    have H0 : Hid (TrAt w9 ⟨w.heap.size + 1 + 1 + 1 + 1, w.heap.size + 1 + 1, w.heap.size + 1 + 1 + 1, hb, b, wb, lb, w9.heap.size⟩ m nn cl (.slice none 0 0) (startT A m le)) := Lib.hid (by
      obtain ⟨l1, l2, l3, l4⟩ := LT.out
      obtain ⟨n1, n2, n3, n4, n5, n6⟩ := NE.out
      have hs := F6.out.size
      refine TrAt.begin (HH.out.keep F6.out) OK.out WD.out B6.out.1 B6.out.2.1 B6.out.2.2.2.1 ?_ ?_ ?_
      · have := B6.out.2.2.2.2; omega
      · simp only [List.nodup_cons, List.mem_cons, List.not_mem_nil, or_false, not_or, List.nodup_nil, not_false_eq_true, and_true]
        omega
      · exact LB.out)
    have R0 : Hid (RowsIn w9 rs ls) := Lib.hid (HR.out.keep fun r hr o ho => F6.out.at ho (by simp))
    have X0 : Hid (FX ⟨w.heap.size + 1 + 1 + 1 + 1, w.heap.size + 1 + 1, w.heap.size + 1 + 1 + 1, hb, b, wb, lb, w9.heap.size⟩ (rs.map Rw.g) w9 w9) := Lib.hid (FX.refl (Nat.le_refl _))
    have FAR : Hid (∀ r, r ∈ rs → (⟨w.heap.size + 1 + 1 + 1 + 1, w.heap.size + 1 + 1, w.heap.size + 1 + 1 + 1, hb, b, wb, lb, w9.heap.size⟩ : Tk).far r.g) := Lib.hid (fun r hr => by
      obtain ⟨g1, g2⟩ := HA.out.g r hr
      have hs := F6.out.size
      refine ⟨by simp only; omega, ?_⟩
      simp only [List.mem_cons, List.not_mem_nil, or_false, not_or] at g2 ⊢
      obtain ⟨g3, g4, g5, g6⟩ := g2
      exact ⟨by omega, by omega, g3, g4, g5, g6, by omega⟩)
    have KA : Hid (∀ w' (i : Nat) (r : Rw), FX ⟨w.heap.size + 1 + 1 + 1 + 1, w.heap.size + 1 + 1, w.heap.size + 1 + 1 + 1, hb, b, wb, lb, w9.heap.size⟩ (rs.map Rw.g) w9 w' → rs[i]? = some r → ∃ rb o, va0 = some ⟨rb, o, none⟩ ∧ w'.cell? ⟨rb, o + i, none⟩ = some (.slice r.va r.l.length r.cap)) := Lib.hid (fun w' i r hF hr => by
      obtain ⟨rb, o, cap, h1, h2, h3, h4⟩ := HA.out.c i r hr
      simp only [Value.slice.injEq, true_and] at h1
      have hlt := (addr_none h2).2
      have hs := F6.out.size
      simp only [List.mem_cons, List.not_mem_nil, or_false, not_or] at h3
      refine ⟨rb, o, h1.1, cell_fx (cell_fr h2 F6.out (by simp)) hF (by simp only at hlt ⊢; omega) ?_ h4⟩
      simp only at hlt
      simp only [Tk.own, List.mem_cons, List.not_mem_nil, or_false, not_or]
      exact ⟨by omega, by omega, h3.2.1, h3.2.2.1, h3.2.2.2⟩)
    have RES : Hid (∀ w', FX ⟨w.heap.size + 1 + 1 + 1 + 1, w.heap.size + 1 + 1, w.heap.size + 1 + 1 + 1, hb, b, wb, lb, w9.heap.size⟩ (rs.map Rw.g) w9 w' → blk w' (w.heap.size + 1) = some (.cells #[.int .i64 0, .int .i64 0, .int .i64 0] 69 (0, 0))) := Lib.hid (fun w' hF => by
      have hs := F6.out.size
      have := B6.out.2.2.2.2
      obtain ⟨l1, l2, l3, l4⟩ := LT.out
      rw [hF.block _ (by simp only; omega) ?_ ?_]
      · exact B6.out.2.2.1
      · simp only [Tk.own, List.mem_cons, List.not_mem_nil, or_false, not_or]
        omega
      · intro hm
        obtain ⟨r, hr, he⟩ := List.mem_map.1 hm
        have := (HA.out.g r hr).1
        omega)
    have FIN : Hid (∀ w', FX ⟨w.heap.size + 1 + 1 + 1 + 1, w.heap.size + 1 + 1, w.heap.size + 1 + 1 + 1, hb, b, wb, lb, w9.heap.size⟩ (rs.map Rw.g) w9 w' → Fr (b :: wb :: lb :: rs.map Rw.g) w w' ∧ w.heap.size + 1 ∉ (b :: wb :: lb :: rs.map Rw.g) ∧ w.heap.size ≤ w.heap.size + 1) := Lib.hid (fun w' hF => ⟨hF.fin F6.out (by simp only; omega) (by simp only; omega) (by simp only; exact F6.out.size), by
      obtain ⟨l1, l2, l3, l4⟩ := LT.out
      simp only [List.mem_cons, not_or]
      refine ⟨by omega, by omega, by omega, fun hm => ?_⟩
      obtain ⟨r, hr, he⟩ := List.mem_map.1 hm
      have := (HA.out.g r hr).1
      omega, by omega⟩)
    have LO : Hid (w.heap.size ≤ w.heap.size + 1 + 1 + 1 + 1) := Lib.hid (by omega)
    have RKH : Hid (w.heap.size + 1 ≠ hb) := Lib.hid (by have := LT.out.1; omega)
    have RKB : Hid (w.heap.size + 1 < w.heap.size + 1 + 1 + 1 + 1) := Lib.hid (by omega)
    obtain ⟨TT, ls', hRU, hPT⟩ := HN.out cl le LB.out (HPL.out)
    have RU := Lib.hid hRU
    have PL := Lib.hid hPT
    have LSL : Hid (ls.length = rs.length) := Lib.hid HR.out.1
    have AP : Hid (RowsAp rs) := Lib.hid HA.out.ap
    have RL : Hid (∀ r, r ∈ rs → r.l.length ≤ 1000000) := Lib.hid HA.out.l
    clear hRU hPT HN HA HR HH OK WD F2 F3 F7 B7 HPL HP F6 B6 LT NE LB RB hmm
    generalize w9 = W at *
    generalize w.heap.size + 1 + 1 + 1 + 1 = tb at *
    generalize w.heap.size + 1 + 1 + 1 = sb at *
    generalize w.heap.size + 1 + 1 = mb at *
    generalize w.heap.size + 1 = rk at *
    generalize W.heap.size = B at *
    obtain ⟨c, h1, h2, h3, h4, h5, h6, h7, h8⟩ : ∃ c : Tk, tb = c.tb ∧ mb = c.mb ∧ sb = c.sb ∧ hb = c.hb ∧ b = c.b ∧ wb = c.wb ∧ lb = c.lb ∧ B = c.B := ⟨⟨tb, mb, sb, hb, b, wb, lb, B⟩, rfl, rfl, rfl, rfl, rfl, rfl, rfl, rfl⟩
    subst h1 h2 h3 h4 h5 h6 h7 h8
    generalize startT A m le = T0 at *
    have Q0 : Hid (RQ c m nn cl T0 ls rs W W 0) := Lib.hid (RQ.start H0.out R0.out X0.out)
    clear H0 R0 X0
    go_loopw [50, 10, 11, 12] (fun x _ _ _ wr => ∃ q : Nat, q ≤ rs.length ∧ x = .int .i64 (q : Int) ∧ Hid (RQ c m nn cl T0 ls rs W wr q)) (fun x _ _ _ _ => rs.length - (intOf x).toNat)
    case atStart => exact ⟨0, by omega, rfl, Q0⟩
    case round =>
      obtain ⟨wo, rfl⟩ : ∃ wo : World, wo = wr := ⟨_, rfl⟩
      obtain ⟨q, hq, rfl, HQ⟩ := hrel
      clear Q0
      by_cases hlt : q < rs.length
      · obtain ⟨r, hr⟩ : ∃ r, rs[q]? = some r := ⟨rs[q], by simp [hlt]⟩
        obtain ⟨rb, ro, hva, kc⟩ := KA.out wo q r HQ.out.fx hr
        subst hva
        have QL := Lib.hid (show q < ls.length by rw [LSL.out]; exact hlt)
        have I0 := Lib.hid (HQ.out.inner QL.out)
        have hrl := RL.out r (List.mem_of_getElem? hr)
        have HL := Lib.hid (I0.out.len QL.out (Nat.zero_le _) hr)
        have HR := Lib.hid hr
        obtain ⟨L, hL⟩ : ∃ L, L = r.l.length := ⟨_, rfl⟩
        rw [← hL] at kc hrl HL
        clear hr hL HQ
        go_wp2_with fail
        go_loopw [56, 11, 12] (fun x _ _ wr => ∃ j : Nat, j ≤ L ∧ x = .int .i64 (j : Int) ∧ Hid (RI c m nn cl T0 ls rs W wr q j)) (fun x _ _ _ => L - (intOf x).toNat)
        case atStart => exact ⟨0, by omega, rfl, I0⟩
        case round =>
          obtain ⟨wo2, rfl⟩ : ∃ wo2 : World, wo2 = wr := ⟨_, rfl⟩
          obtain ⟨j, hj, rfl, HI⟩ := hrel
          clear I0 kc
          by_cases hlt2 : j < L
          · have JL := Lib.hid (show j < (ls[q]?.getD []).length by rw [← HL.out]; exact hlt2)
            obtain ⟨kv, k1, k2⟩ := HI.out.word QL.out JL.out HR.out
            obtain ⟨hb1, hx0, hx1⟩ := RI.bd RU.out.bd QL.out JL.out
            obtain ⟨wv, htr⟩ := HI.out.tr
            have CF := Lib.hid (follow_c htr HI.out.fx.ge hb1 _ hx0 hx1)
            have ST := Lib.hid (fun e w' hd => HI.out.step (e := e) (w' := w') AP.out FAR.out QL.out JL.out HR.out hd)
            obtain ⟨x, hx⟩ : ∃ x, x = (ls[q]?.getD [])[j]?.getD 0 := ⟨_, rfl⟩
            rw [← hx] at k1 hx0 hx1 CF ST
            rcases hfo : followT cl m (TTr cl m T0 ls q j) x with ⟨T1, y⟩
            rw [hfo] at CF ST
            simp only [] at CF ST
            rw [kv]
            clear htr hb1 HI hx hfo
            go_wp2_with fail
            refine CF.out.mono ?_
            intro e w3 hd
            obtain ⟨ST1, f3, v3, k3⟩ := ST.out _ _ hd
            have he := hd.1
            subst he
            have ST1 := Lib.hid ST1
            simp only []
            clear hd CF ST k1 k2 kv
            go_wp2
            go_roundw
            case rel => exact ⟨j + 1, by omega, by go_num, ST1⟩
            case measure => simp [intOf]; omega
          · have Q1 := Lib.hid (HI.out.outer QL.out (by rw [← HL.out]; omega))
            have HJ := Lib.hid (show ¬ j < L from hlt2)
            clear HI
            go_wp2
            go_roundw
            case rel => exact ⟨q + 1, by omega, by go_num, Q1⟩
            case measure => simp [intOf]; omega
      · obtain ⟨g0, T1, wv1, hD⟩ := RQ.drain (by rw [show ls.length = q by rw [LSL.out]; omega]; exact HQ.out) RU.out
        have HD := Lib.hid hD
        clear hD HQ KA AP RL RU
        go_wp2_with fail
        go_loopg [13, 14] g0 (fun g _ _ wr => ∃ T wv, Hid (RD c m nn cl TT ls' rs W wr g T wv))
        case atStart => exact ⟨T1, wv1, HD⟩
        case round =>
          obtain ⟨wd, rfl⟩ : ∃ wd : World, wd = wr := ⟨_, rfl⟩
          obtain ⟨T, wv, HD2⟩ := hrel
          clear HD
          have k5 := HD2.out.tr.c5
          have f5 := HD2.out.tr.ft
          by_cases hw : T.work = []
          · obtain ⟨a, cap, hwv, hcap⟩ := work_form HD2.out.tr
            rw [hwv, hw] at k5
            have hTT := HD2.out.done hw
            subst hTT
            have OKT := Lib.hid HD2.out.tr.ok
            have CS := Lib.hid (sweep_c wd HD2.out.tr.h.ar OKT.out)
            have apn := HD2.out.tr.ap
            simp only [List.nodup_cons, List.mem_cons, List.not_mem_nil, or_false, not_or] at apn
            have AFT : Hid (∀ w4, ArAt w4 c.b c.wb c.lb T.A.sweep → Fr [c.b, c.lb] wd w4 → (∃ cs : Array Value, blk w4 c.tb = some (.cells cs 135 (0, 0)) ∧ cs[6]? = some (.int .i64 T.live) ∧ cs[7]? = some (.int .i64 T.moved) ∧ cs[8]? = some (.int .i64 0)) ∧ HeAt w4 c.hb c.b c.wb c.lb T.A.sweep ∧ FX c (rs.map Rw.g) W w4 ∧ RowsIn w4 rs ls') := Lib.hid (fun w4 hA4 F4 => by
              have hFB : FB c wd w4 := FB.of F4 HD2.out.fx.ge (by simp [Tk.own])
              refine ⟨⟨_, F4.at HD2.out.tr.t (by simp only [List.mem_cons, List.not_mem_nil, or_false, not_or]; exact ⟨apn.1.2.2.1, apn.1.2.2.2.2.1⟩), rfl, rfl, rfl⟩, HD2.out.tr.h.arena F4 (by simp only [List.mem_cons, List.not_mem_nil, or_false, not_or]; exact ⟨apn.2.2.1.1, apn.2.2.1.2.2.1⟩) hA4, HD2.out.fx.fb hFB, HD2.out.rows.fb hFB FAR.out⟩)
            have hTB : Hid (c.tb < c.B) := Lib.hid HD2.out.tr.lo.2.2.2.2.1
            have APN : Hid (c.hb ≠ c.tb ∧ (c.b ≠ c.tb ∧ c.wb ≠ c.tb ∧ c.lb ≠ c.tb) ∧ rk ≠ c.hb ∧ True) := Lib.hid ⟨fun h => apn.1.2.1 h.symm, ⟨fun h => apn.1.2.2.1 h.symm, fun h => apn.1.2.2.2.1 h.symm, fun h => apn.1.2.2.2.2.1 h.symm⟩, RKH.out, trivial⟩
            clear hw hwv HD2 apn
            go_wp2_with fail
            refine CS.out.mono ?_
            rintro e w4 ⟨rfl, hA4, F4⟩
            obtain ⟨⟨cs, T4, cs6, cs7, cs8⟩, H4, X4, R4⟩ := AFT.out w4 hA4 F4
            have CE := Lib.hid (empty_c w4 hA4 OKT.out.sweep)
            have T4 := Lib.hid T4
            have H4 := Lib.hid H4
            have X4 := Lib.hid X4
            have R4 := Lib.hid R4
            have CSF := Lib.hid (And.intro cs6 (And.intro cs7 cs8))
            clear CS AFT hA4 F4 k5 f5 cs6 cs7 cs8
            go_wp2_with fail
            refine CE.out.mono ?_
            rintro e w5 ⟨rfl, F5⟩
            have T5 := F5.at T4.out (by simp)
            have k6 := cell_of T5 CSF.out.1
            have k7 := cell_of T5 CSF.out.2.1
            have k8 := cell_of T5 CSF.out.2.2
            have f6 : ∀ i, w5.frozen? ⟨c.tb, i, none⟩ = false := fun i => free_of T5
            have X5 := Lib.hid (X4.out.fb (FB.nil F5 X4.out.ge))
            have Z5 := RES.out w5 X5.out
            have z0 : w5.cell? ⟨rk, 0, none⟩ = some (.int .i64 0) := cell_of Z5 rfl
            have z1 : w5.cell? ⟨rk, 1, none⟩ = some (.int .i64 0) := cell_of Z5 rfl
            have z2 : w5.cell? ⟨rk, 2, none⟩ = some (.int .i64 0) := cell_of Z5 rfl
            have g6 : ∀ i, w5.frozen? ⟨rk, i, none⟩ = false := fun i => free_of Z5
            obtain ⟨FN1, FN2, FN3⟩ := FIN.out w5 X5.out
            have FN := Lib.hid (And.intro FN1 (And.intro FN2 FN3))
            have hne : rk ≠ c.tb := by have := RKB.out; omega
            have hne2 := Ne.symm hne
            have H5 := Lib.hid (H4.out.keep F5)
            have R5 : Hid (RowsIn w5 rs ls') := Lib.hid (R4.out.keep fun r hr o ho => F5.at ho (by simp))
            have Z5 := Lib.hid Z5
            clear T4 T5 CSF X4 X5 H4 R4 F5 CE RES FIN FN1 FN2 FN3 OKT
            go_wp2
            have B0 : blk ((((w5.setCell ⟨c.tb, 8, none⟩ (.int .i64 (emptyIn T.A.sweep.lines m : Nat))).setCell ⟨rk, 0, none⟩ (.int .i64 T.live)).setCell ⟨rk, 1, none⟩ (.int .i64 T.moved)).setCell ⟨rk, 2, none⟩ (.int .i64 (emptyIn T.A.sweep.lines m : Nat))) rk = some (.cells #[.int .i64 T.live, .int .i64 T.moved, .int .i64 (emptyIn T.A.sweep.lines m : Nat)] 69 (0, 0)) := by
              rw [blk_set, if_pos rfl, blk_set, if_pos rfl, blk_set, if_pos rfl, blk_set, if_neg hne, Z5.out]; rfl
            have FF : Fr [c.tb, rk] w5 ((((w5.setCell ⟨c.tb, 8, none⟩ (.int .i64 (emptyIn T.A.sweep.lines m : Nat))).setCell ⟨rk, 0, none⟩ (.int .i64 T.live)).setCell ⟨rk, 1, none⟩ (.int .i64 T.moved)).setCell ⟨rk, 2, none⟩ (.int .i64 (emptyIn T.A.sweep.lines m : Nat))) := ((((Fr.refl _ _).setCell (by simp) _).setCell (by simp) _).setCell (by simp) _).setCell (by simp) _
            have r0 := cell_of B0 (i := 0) rfl
            have r1 := cell_of B0 (i := 1) rfl
            have r2 := cell_of B0 (i := 2) rfl
            refine bodyPost_ret (v := .agg #[.int .i64 T.live, .int .i64 T.moved, .int .i64 (emptyIn T.A.sweep.lines m : Nat)]) (by simp [results, Try.results36, go_sem, r0, r1, r2]) rfl ⟨cl, T, ls', PL.out, rfl, ?_, ?_, ?_⟩
            · obtain ⟨a1, a2, a3⟩ := APN.out
              have hn := FN.out.2.1
              simp only [List.mem_cons, not_or] at hn
              exact H5.out.fr FF (by simp only [List.mem_cons, List.not_mem_nil, or_false, not_or]; exact ⟨a1, Ne.symm a3.1⟩) (by simp only [List.mem_cons, List.not_mem_nil, or_false, not_or]; exact ⟨a2.1, Ne.symm hn.1⟩) (by simp only [List.mem_cons, List.not_mem_nil, or_false, not_or]; exact ⟨a2.2.1, Ne.symm hn.2.1⟩) (by simp only [List.mem_cons, List.not_mem_nil, or_false, not_or]; exact ⟨a2.2.2, Ne.symm hn.2.2.1⟩)
            · refine R5.out.keep fun r hr o ho => FF.at ho ?_
              have hn := FN.out.2.1
              have hf := (FAR.out r hr).2
              simp only [List.mem_cons, not_or] at hn
              simp only [List.mem_cons, List.not_mem_nil, or_false, not_or] at hf ⊢
              exact ⟨hf.1, fun he => hn.2.2.2 (by rw [← he]; exact List.mem_map_of_mem hr)⟩
            · have hlo := LO.out
              have hlk := FN.out.2.2
              exact FN.out.1.trans FF (fun x hx => by
                simp only [List.mem_cons, List.not_mem_nil, or_false] at hx
                rcases hx with rfl | rfl
                · exact .inr hlo
                · exact .inr hlk)
          · obtain ⟨g', a, cap, k, x, hg, hkl, hkb, hwv, hkc, kx, hx0, hx1, HW⟩ := HD2.out.pop FAR.out hw
            rw [hwv] at k5
            obtain ⟨T2, t2, hB2, bd2, nx⟩ := HW wd (Fr.refl _ _)
            have CS := Lib.hid (scan_c t2 hB2 x hx0 hx1 bd2)
            have NX := Lib.hid nx
            clear hw hwv HD2 HW t2 hB2 bd2 nx
            go_wp2_with fail
            refine CS.out.mono ?_
            rintro e w2 ⟨rfl, h2, F2⟩
            obtain ⟨T3, wv3, HD3⟩ := NX.out w2 ⟨h2, F2⟩
            have HD3 := Lib.hid HD3
            clear h2 F2 NX CS k5 f5 kx
            go_wp2
            go_roundg g'
            case measure => omega
            case rel => exact ⟨T3, wv3, HD3⟩)
theorem run_c2 (hH : HeAt w hb b wb lb A) (ok : A.Ok m) (wd : A.Wd) (rv : Value) (rs : List Rw) (ls : List (List Int)) (hA : RowsArg w hb b wb lb rv rs) (hR : RowsIn w rs ls) (p0 p1 : Int) {P : (Int → Int) → Tr → List (List Int) → Prop} (hN : NoMore A m ls p0 p1 P) :
    Calls Try.prog 36 #[.pointer (some ⟨hb, 0, none⟩), rv, .agg #[.int .i64 p0, .int .i64 p1]] w (RunDone hb b wb lb m rs P w) := by
  by_cases h0 : p0 ≤ 0
  · exact run_a hH ok wd rv rs ls hA hR p0 p1 h0 hN
  · by_cases h1 : p1 ≤ 0
    · exact run_b hH ok wd rv rs ls hA hR p0 p1 (by omega) h1 hN
    · exact run_c hH ok wd rv rs ls hA hR p0 p1 (by omega) (by omega) hN
end Go.Proofs.Ytjgndfhfiekomaa
