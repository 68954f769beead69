/- The arena: claims, counts, free lines, the search for a hole and for an empty block. -/
import Derived.Test.YtjgndfhfiekomaaArenaB
set_option linter.all false
namespace Go.Proofs.Ytjgndfhfiekomaa
open Go.ChangeShapes Go.WideShapes Go.RowKit
variable {w : World} {b wb lb : Nat} {A : Ar}
/-- The lines from f to k are taken. -/
def claimed (l : List (Bool × Bool)) (f k : Nat) : List (Bool × Bool) := l.mapIdx fun i x => if f ≤ i ∧ i < k then (true, x.2) else x
theorem claimed_self (l : List (Bool × Bool)) (f : Nat) : claimed l f f = l := by
  apply List.ext_getElem?
  intro i
  simp only [claimed, List.getElem?_mapIdx]
  cases l[i]? with
  | none => rfl
  | some x => simp; omega
theorem len_claimed (l : List (Bool × Bool)) (f k : Nat) : (claimed l f k).length = l.length := by simp [claimed]
theorem claimed_get (l : List (Bool × Bool)) (f k i : Nat) : (claimed l f k)[i]? = (l[i]?).map fun x => if f ≤ i ∧ i < k then (true, x.2) else x := by
  simp only [claimed, List.getElem?_mapIdx]
theorem lineCells_set (l : List (Bool × Bool)) (k : Nat) (v : Bool) (hk : k < l.length) : (lineCells l).setIfInBounds (k * 2) (.bool v) = lineCells (l.set k (v, (l[k]?.getD (true, true)).2)) := by
  apply Array.ext_getElem?
  intro i
  rw [Array.getElem?_setIfInBounds, lineCells_get, lineCells_get]
  have hs : (lineCells l).size = l.length * 2 := by
    simp [lineCells, List.length_flatMap, List.map_const', List.sum_replicate_nat]
  by_cases h : k * 2 = i
  · subst h
    have e : k * 2 / 2 = k := by omega
    rw [if_pos rfl, if_pos (by rw [hs]; omega), e]
    simp [hk]
  · rw [if_neg h]
    by_cases h2 : i / 2 = k
    · have hm : i % 2 = 1 := by omega
      simp [h2, hk, hm]
    · rw [List.getElem?_set_ne (by omega)]
theorem claimed_step (l : List (Bool × Bool)) (f k : Nat) (h : f ≤ k) (hk : k < l.length) : (claimed l f k).set k (true, ((claimed l f k)[k]?.getD (true, true)).2) = claimed l f (k + 1) := by
  apply List.ext_getElem?
  intro i
  rw [claimed_get, claimed_get]
  by_cases hi : i = k
  · subst hi
    rw [List.getElem?_set_self (by rw [len_claimed]; exact hk)]
    simp [hk, h]
  · rw [List.getElem?_set_ne (by omega), claimed_get]
    congr 1
    funext x
    have : (f ≤ i ∧ i < k) ↔ (f ≤ i ∧ i < k + 1) := by omega
    simp only [this]
def Ar.claim (A : Ar) (f k : Nat) : Ar := { A with lines := claimed A.lines f k }
theorem ArAt.claimStep {f k : Nat} (hA : ArAt w b wb lb (A.claim f k)) (h : f ≤ k) (hk : k < A.lines.length) : ArAt (w.setCell ⟨lb, k * 2, none⟩ (.bool true)) b wb lb (A.claim f (k + 1)) := by
  obtain ⟨hb, hw, hl, n1, n2, n3⟩ := hA
  refine ⟨?_, ?_, ?_, n1, n2, n3⟩
  · rw [blk_set, if_neg n2, hb]; simp [Ar.cells, Ar.claim, len_claimed]
  · rw [blk_set, if_neg n3, hw]; rfl
  · rw [blk_set, if_pos rfl, hl]
    simp only [Option.map_some, setObj, Ar.claim]
    rw [lineCells_set _ _ _ (by rw [len_claimed]; exact hk), claimed_step _ _ _ h hk]
theorem claim_c (w : World) {m : Nat} (hA : ArAt w b wb lb A) (ok : A.Ok m) (f t : Nat) (hft : f ≤ t) (ht : t ≤ m * 16) :
    Calls Try.prog 122 #[.pointer (some ⟨b, 0, none⟩), .int .i64 (f : Int), .int .i64 (t : Int)] w fun e w' => e = .returned (.agg #[.int .i64 ((f : Int) * 16), .int .i64 ((t : Int) * 16)]) ∧ ArAt w' b wb lb (A.claim f t) ∧ Fr [lb] w w' := by
  have h1 := ok.m1
  have h2 := ok.m2
  have hll := Lib.hid ok.ll
  have hlt := lt_size hA.hl
  have hbt := lt_size hA.hb
  have hwt := lt_size hA.hw
  have AT0 := Lib.hid hA
  clear hA ok
  go_enter Try.func122, Try.ntmps122
  go_wp2
  go_loopw [7] (fun x wr => ∃ k : Nat, f ≤ k ∧ k ≤ t ∧ x = .int .i64 k ∧ Hid (ArAt wr b wb lb (A.claim f k)) ∧ Hid (blk wr w.heap.size = some (.cells #[.int .i64 0, .int .i64 0] 167 (0, 0))) ∧ Fr [lb] w wr) (fun x _ => t - (intOf x).toNat)
  case atStart =>
    refine ⟨f, by omega, by omega, rfl, ?_, ?_, (Fr.refl _ _).alloc _⟩
    · refine Lib.hid ?_
      have e : A.claim f f = A := by simp [Ar.claim, claimed_self]
      rw [e]; exact AT0.out.fr ((Fr.refl [] _).alloc _) (by simp) (by simp) (by simp)
    · exact Lib.hid (by simp [blk_alloc])
  case round =>
    obtain ⟨k, hk1, hk2, rfl, hA, hB, hF⟩ := hrel
    have c1 := hA.out.c1
    rw [show (A.claim f k).lines.length = m * 16 from by simp [Ar.claim, len_claimed, hll.out]] at c1
    by_cases hlt : k < t
    · have hm : k < A.lines.length := by rw [hll.out]; omega
      have hc := hA.out.taken (i := k) (by simp [Ar.claim, len_claimed]; exact hm)
      have hfl := hA.out.fl (k * 2)
      clear hm
      go_wp2
      go_roundw
      case rel =>
        refine ⟨k + 1, by omega, by omega, by go_num, Lib.hid (hA.out.claimStep hk1 (by rw [hll.out]; omega)), Lib.hid ?_, hF.setCell (by simp) _⟩
        rw [blk_set, if_neg (by omega)]; exact hB.out
      case measure => simp [intOf]; omega
    · have hkt : k = t := by omega
      subst hkt
      have r0 := cell_of hB.out (i := 0) rfl
      have r1 := cell_of hB.out (i := 1) rfl
      have f0 := free_of hB.out (i := 0)
      have f1 := free_of hB.out (i := 1)
      go_wp2
      refine bodyPost_ret (v := .agg #[.int .i64 ((f : Int) * 16), .int .i64 ((k : Int) * 16)]) (by simp [results, Try.results122, go_sem, r0, r1]) rfl ⟨rfl, ?_, ?_⟩
      · exact hA.out.fr (((Fr.refl [w.heap.size] wr).setCell (by simp) _).setCell (by simp) _) (by simp; omega) (by simp; omega) (by simp; omega)
      · exact (hF.setCell (by simp) _).setCell (by simp) _
end Go.Proofs.Ytjgndfhfiekomaa
