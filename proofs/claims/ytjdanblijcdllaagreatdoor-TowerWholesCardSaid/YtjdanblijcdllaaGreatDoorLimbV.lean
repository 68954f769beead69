/- Limbs: what Text calls: Itoa, Repeat, Backward. -/
import Derived.Test.YtjdanblijcdllaaGreatDoorLimbU
import Derived.Test.YtjdanblijcdllaaGreatDoorShelf
import Derived.Lib.AppendIntMem
import Derived.RangeFuncNested
import Derived.RangeFuncBound
import Derived.RangeFuncCalls
import Derived.RangeFuncLeaves
import Derived.RangeFuncBox
import Derived.Shelf.Abstract
import Derived.Shelf.RegionOpen
import Derived.OwnWalkIn
import Derived.TacticsInMore
import Derived.LoopNIn
import Derived.LoopIn
set_option linter.all false
namespace Go.Proofs.YtjdanblijcdllaaGreatDoor
open Go.ChangeShapes Go.WideShapes Go.RowKit Go.Shelf
variable {w w' w2 wr : World} {a b : Option Addr} {cap cap2 : Nat} {L M : List Nat} {B : Nat}
theorem fr_of_below (h : Below w.heap.size w w') : Fr [] w w' := ⟨h.os, h.tape, h.output, h.size, fun k hk _ => h.block k hk⟩
theorem heap_fr {S : List Nat} (h : Fr S w w') {k : Nat} {o : Obj} (hk : w.heap[k]? = some o) (hn : k ∉ S) : w'.heap[k]? = some o := h.at hk hn
/-- The table of the powers of ten holds its numbers. -/
def Tab (w : World) : Prop := Lib.TabIs Tryz.prog w "internal/strconv.uint64pow10" .u64 Lib.pow10Tab
theorem Tab.fr (h : Tab w) (hF : Fr [] w w') : Tab w' := by
  unfold Tab Lib.TabIs World.var? at *
  cases hg : (Tryz.prog).globalNamed "internal/strconv.uint64pow10" with
  | none => rw [hg] at h; simp at h
  | some g =>
    rw [hg] at h
    simp only [Option.bind_some] at h ⊢
    cases hb : w.heap[g]? with
    | none => rw [hb] at h; simp at h
    | some o => rw [heap_fr hF hb (by simp)]; rw [hb] at h; exact h
theorem itoa_c (w : World) (h : Tab w) (p : Nat) (hp : p < 1000000000) : Calls Tryz.prog 82 #[.int .i64 (p : Int)] w fun e w' => e = .returned (.string ⟨(Lib.decDigits p).toArray⟩) ∧ Fr [] w w' := by
  refine (Tryz.strconv_Itoa (p : Int) (by omega) (by omega) w h).mono ?_
  rintro e w' ⟨rfl, k, os, rfl⟩
  refine ⟨by rw [Lib.itoa_nonneg], fr_of_below (Lib.below_grow _ _ (Nat.le_refl _) k os)⟩
theorem repeatL_zeros (c : Nat) : Lib.repeatL [48] c = List.replicate c 48 := by
  induction c with
  | zero => rfl
  | succ c ih => rw [Lib.repeatL, ih, List.replicate_succ]; rfl
theorem repeat_c (w : World) (c : Nat) (hc : c ≤ 100) : Calls Tryz.prog 181 #[.string ⟨#[48]⟩, .int .i64 (c : Int)] w fun e w' => e = .returned (.string ⟨(List.replicate c 48).toArray⟩) ∧ Fr [] w w' := by
  refine (Tryz.strings_Repeat ⟨#[48]⟩ c w (by omega) (by simp [ByteArray.size]; omega)).mono ?_
  rintro e w' ⟨rfl, hB⟩
  refine ⟨?_, fr_of_below hB⟩
  rw [show (ByteArray.mk #[48]).data.toList = [48] from rfl, repeatL_zeros]
/-- An index and a part. -/
abbrev Pr := { x : Nat × Nat // x.2 < 1000000000 ∧ x.1 < 100000 }
def pr0 : Pr := ⟨(0, 0), by decide, by decide⟩
/-- What has come from behind. -/
def came (f : Nat → Pr) (K : Nat) : Nat → List Pr
  | 0 => []
  | j + 1 => came f K j ++ [f (K - 1 - j)]
theorem came_len (f : Nat → Pr) (K j : Nat) : (came f K j).length = j := by
  induction j with
  | zero => rfl
  | succ j ih => simp [came, ih]
def outP (K : Nat) (l : List Pr) : List UInt8 := l.flatMap fun x => if x.1.1 + 1 < K then padD 9 x.1.2 else Lib.decDigits x.1.2
theorem outP_snoc (K : Nat) (l : List Pr) (x : Pr) : outP K (l ++ [x]) = outP K l ++ (if x.1.1 + 1 < K then padD 9 x.1.2 else Lib.decDigits x.1.2) := by simp [outP]
theorem padD_len (k r : Nat) : (padD k r).length = k := by
  induction k generalizing r with
  | zero => rfl
  | succ k ih => simp [padD, ih]
theorem outP_len (K : Nat) (l : List Pr) : (outP K l).length ≤ 9 * l.length := by
  induction l with
  | nil => simp [outP]
  | cons x l ih =>
    have e : outP K (x :: l) = (if x.1.1 + 1 < K then padD 9 x.1.2 else Lib.decDigits x.1.2) ++ outP K l := by simp [outP]
    rw [e, List.length_append, List.length_cons]
    have : (if x.1.1 + 1 < K then padD 9 x.1.2 else Lib.decDigits x.1.2).length ≤ 9 := by
      split
      · rw [padD_len]; exact Nat.le_refl _
      · exact dec_len (by decide) x.2.1
    omega
def prs (O : List Nat) (i : Nat) : Pr := if h : O[i]?.getD 0 < 1000000000 ∧ i < 100000 then ⟨(i, O[i]?.getD 0), h⟩ else pr0
theorem prs_at {O : List Nat} (hO : ∀ p, p ∈ O → p < 1000000000) (hl : O.length ≤ 100000) {i : Nat} (hi : i < O.length) : (prs O i).1 = (i, O[i]?.getD 0) := by
  unfold prs
  rw [dif_pos]
  refine ⟨?_, by omega⟩
  rw [List.getElem?_eq_getElem hi]
  exact hO _ (List.getElem_mem hi)
theorem outP_came {O : List Nat} (hO : ∀ p, p ∈ O → p < 1000000000) (hl : O.length ≤ 100000) (j : Nat) (hj : j ≤ O.length) : outP O.length (came (prs O) O.length j) = outOf (O.drop (O.length - j)) := by
  induction j with
  | zero => simp [came, outP, outOf]
  | succ j ih =>
    have hi : O.length - 1 - j < O.length := by omega
    rw [came, outP_snoc, ih (by omega), prs_at hO hl hi]
    have e : O.drop (O.length - (j + 1)) = O[O.length - 1 - j]?.getD 0 :: O.drop (O.length - j) := by
      rw [show O.length - (j + 1) = O.length - 1 - j by omega, List.drop_eq_getElem_cons hi, List.getElem?_eq_getElem hi, show O.length - 1 - j + 1 = O.length - j by omega]; rfl
    rw [e, outOf]
    congr 1
    simp only
    by_cases h0 : j = 0
    · rw [if_neg (by omega), if_pos (by rw [List.drop_eq_nil_iff]; omega)]
    · rw [if_pos (by omega), if_neg (by rw [List.drop_eq_nil_iff]; omega)]
/-- Of the blocks below n₁ but BO none has changed. -/
def KeepO (BO n₁ : Nat) (W W' : World) : Prop := ∀ k, k < n₁ → k ≠ BO → W'.heap[k]? = W.heap[k]?
theorem KeepO.refl (BO n₁ : Nat) (W : World) : KeepO BO n₁ W W := fun _ _ _ => rfl
theorem KeepO.trans {BO n₁ : Nat} {A B C : World} (h : KeepO BO n₁ A B) (k : KeepO BO n₁ B C) : KeepO BO n₁ A C := fun i h1 h2 => (k i h1 h2).trans (h i h1 h2)
theorem KeepO.cell {BO n₁ : Nat} {W W' : World} (h : KeepO BO n₁ W W') {g j : Nat} (hg : g < n₁) (hn : g ≠ BO) : W'.cell? ⟨g, j, none⟩ = W.cell? ⟨g, j, none⟩ := World.cell?_of_block (w := W) (h g hg hn)
attribute [local go_sem] Oper.semAt_some
set_option maxRecDepth 100000 in
set_option maxHeartbeats 2000000 in
/-- slices.Backward's closure, for every loop body that keeps what lay. -/
theorem backward1_in (F : Fence) (n : Nat) (hfn : F.fn 211) (hro : F.round = none) (hn : 1 ≤ n) (l Bs BO n₁ g K cap : Nat) (f : Nat → Pr) (hf : ∀ j, j < K → (f j).1.1 = j) (hK : K ≤ 100000) (hBs1 : Bs < n₁) (hBs2 : Bs ≠ BO) (hg1 : g < n₁) (hg2 : g ≠ BO) (J Jx : List Pr → World → Prop)
    (hY : ∀ pre (x : Pr) W, J pre W → pre.length < K → YieldAt F (n - 1) Tryz.prog l #[.int .i64 (x.1.1 : Int), .int .u32 (x.1.2 : Int)] W fun e W' =>
      (e = .returned (.bool true) ∧ J (pre ++ [x]) W' ∧ KeepO BO n₁ W W') ∨ (e = .returned (.bool false) ∧ Jx (pre ++ [x]) W'))
    (W : World) (hBs : W.cell? ⟨Bs, 0, none⟩ = some (.slice (some ⟨g, 0, none⟩) K cap)) (hc : ∀ j, j < K → W.cell? ⟨g, j, none⟩ = some (.int .u32 ((f j).1.2 : Int))) (h0 : J [] W) :
    CallsIn F n Tryz.prog 211 #[.func (.yield l) #[] #[], .pointer (some ⟨Bs, 0, none⟩)] W fun e W' => (∃ v, e = .returned v) ∧
      ((∃ ys, ys = came f K K ∧ J ys W') ∨ (∃ pre, True ∧ Jx pre W')) := by
  refine callsIn_of_wp Tryz.func211 rfl hfn ?_ hro
  simp only [Tryz.ntmps211, List.size_toArray, List.length_cons, List.length_nil, Nat.reduceAdd, Nat.reduceSub, Array.replicate_succ, Array.replicate_zero, List.push_toArray, List.append_toArray, List.nil_append, List.cons_append]
  gi_wp2
  gi_loopw [3] (fun i wr => ∃ j k : Nat, j + k = K ∧ i = .int .i64 ((k : Int) - 1) ∧ J (came f K j) wr ∧ KeepO BO n₁ W wr)
    (fun i _ => (intOf i + 1).toNat)
  case atStart => exact ⟨0, K, by omega, rfl, h0, KeepO.refl _ _ _⟩
  case round =>
    obtain ⟨j, k, hjk, rfl, hJs, hnx⟩ := hrel
    cases k with
    | zero =>
      rw [show (((0 : Nat) : Int) - 1) = -1 from rfl]
      obtain rfl : j = K := by omega
      gi_wp2
      go_end0
      exact ⟨⟨_, rfl⟩, .inl ⟨_, rfl, hJs⟩⟩
    | succ i =>
      rw [show (((i + 1 : Nat) : Int) - 1) = (i : Int) from by omega]
      have hlt : i < K := by omega
      have hcx := (hnx.cell hg1 hg2).trans (hc i hlt)
      have hbx := (hnx.cell hBs1 hBs2).trans hBs
      have hfi := hf i hlt
      obtain ⟨fn, tmps, assign, body, hy, hR⟩ := hY _ (f i) wr hJs (by rw [came_len]; omega)
      rw [hfi] at hy
      gi_wp2
      refine hR.mono ?_
      rintro e W3 (⟨rfl, hJ3, hk3⟩ | ⟨rfl, hJx3⟩)
      · gi_wp2
        go_roundw
        case rel => exact ⟨j + 1, i, by omega, rfl, by rw [came, show K - 1 - j = i by omega]; exact hJ3, hnx.trans hk3⟩
        case measure => simp [intOf]
      · gi_wp2
        refine bodyPost_ret (results_none rfl _ _ _) rfl ?_
        exact ⟨⟨_, rfl⟩, .inr ⟨_, trivial, hJx3⟩⟩
set_option maxHeartbeats 1000000 in
/-- slices.Backward: the slice is boxed. -/
theorem backward_c (w : World) (a : Option Addr) (len cap : Nat) : Calls Tryz.prog 180 #[.slice a len cap] w fun e w' => e = .returned (.func (.func 211) #[] #[.pointer (some ⟨w.heap.size, 0, none⟩)]) ∧ w' = w.alloc (.cells #[.slice a len cap] 23) := by
  go_enter Tryz.func180, Tryz.ntmps180
  go_wp2
  go_ret
  exact ⟨rfl, rfl⟩
end Go.Proofs.YtjdanblijcdllaaGreatDoor
