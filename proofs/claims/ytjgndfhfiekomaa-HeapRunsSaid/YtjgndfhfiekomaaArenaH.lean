/- The arena: Sweep, Empty. -/
import Derived.Test.YtjgndfhfiekomaaArenaG
set_option linter.all false
namespace Go.Proofs.Ytjgndfhfiekomaa
open Go.ChangeShapes Go.WideShapes Go.RowKit
variable {w : World} {b wb lb : Nat} {A : Ar}
/-- The lines ahead of k are swept. -/
def swept (l : List (Bool × Bool)) (k : Nat) : List (Bool × Bool) := l.mapIdx fun i x => if i < k then (x.2, false) else x
theorem swept_zero (l : List (Bool × Bool)) : swept l 0 = l := by
  apply List.ext_getElem?
  intro i
  simp only [swept, List.getElem?_mapIdx]
  cases l[i]? with
  | none => rfl
  | some x => simp
theorem len_swept (l : List (Bool × Bool)) (k : Nat) : (swept l k).length = l.length := by simp [swept]
theorem swept_get (l : List (Bool × Bool)) (k i : Nat) : (swept l k)[i]? = (l[i]?).map fun x => if i < k then (x.2, false) else x := by
  simp only [swept, List.getElem?_mapIdx]
theorem swept_all (l : List (Bool × Bool)) (k : Nat) (h : l.length ≤ k) : swept l k = l.map fun x => (x.2, false) := by
  apply List.ext_getElem?
  intro i
  rw [swept_get, List.getElem?_map]
  by_cases hi : i < l.length
  · simp [hi, show i < k from by omega]
  · simp [hi]
theorem lineCells_set3 (l : List (Bool × Bool)) (k : Nat) (u v : Bool) (hk : k < l.length) : ((lineCells l).setIfInBounds (k * 2) (.bool u)).setIfInBounds (k * 2 + 1) (.bool v) = lineCells (l.set k (u, v)) := by
  rw [lineCells_set _ _ _ hk, lineCells_set2 _ _ _ (by simpa using hk)]
  simp [hk]
theorem swept_step (l : List (Bool × Bool)) (k : Nat) (hk : k < l.length) : (swept l k).set k (mk' (swept l k) k, false) = swept l (k + 1) := by
  apply List.ext_getElem?
  intro i
  rw [swept_get]
  by_cases hi : i = k
  · subst hi
    rw [List.getElem?_set_self (by rw [len_swept]; exact hk)]
    simp [hk, mk', swept_get]
  · rw [List.getElem?_set_ne (by omega), swept_get]
    congr 1
    funext x
    have : (i < k) ↔ (i < k + 1) := by omega
    simp only [this]
def Ar.swp (A : Ar) (k : Nat) : Ar := { A with lines := swept A.lines k }
theorem ArAt.swpStep {k : Nat} (hA : ArAt w b wb lb (A.swp k)) (hk : k < A.lines.length) : ArAt ((w.setCell ⟨lb, k * 2, none⟩ (.bool (mk' (A.swp k).lines k))).setCell ⟨lb, k * 2 + 1, none⟩ (.bool false)) b wb lb (A.swp (k + 1)) := by
  obtain ⟨hb, hw, hl, n1, n2, n3⟩ := hA
  refine ⟨?_, ?_, ?_, n1, n2, n3⟩
  · rw [blk_set, if_neg n2, blk_set, if_neg n2, hb]; simp [Ar.cells, Ar.swp, len_swept]
  · rw [blk_set, if_neg n3, blk_set, if_neg n3, hw]; rfl
  · rw [blk_set, if_pos rfl, blk_set, if_pos rfl, hl]
    simp only [Option.map_some, setObj, Ar.swp]
    rw [lineCells_set3 _ _ _ _ (by rw [len_swept]; exact hk), swept_step _ _ hk]
def Ar.sweep (A : Ar) : Ar := ⟨A.words, A.lines.map fun x => (x.2, false), 0, 0, 0, 0, 0, 0, 0⟩
theorem ArAt.fin {n : Nat} (hA : ArAt w b wb lb (A.swp n)) (hn : A.lines.length ≤ n) :
    ArAt (((((((w.setCell ⟨b, 2, none⟩ (.int .i64 0)).setCell ⟨b, 3, none⟩ (.int .i64 0)).setCell ⟨b, 4, none⟩ (.int .i64 0)).setCell ⟨b, 5, none⟩ (.int .i64 0)).setCell ⟨b, 6, none⟩ (.int .i64 0)).setCell ⟨b, 7, none⟩ (.int .i64 0)).setCell ⟨b, 8, none⟩ (.int .i64 0)) b wb lb A.sweep := by
  have e : A.sweep.lines = (A.swp n).lines := by simp [Ar.sweep, Ar.swp, swept_all _ _ hn]
  refine ((((((hA.field { A.swp n with sf := 0 } 2 _ rfl rfl rfl).field { A.swp n with sf := 0, st := 0 } 3 _ rfl rfl rfl).field { A.swp n with sf := 0, st := 0, gf := 0 } 4 _ rfl rfl rfl).field { A.swp n with sf := 0, st := 0, gf := 0, gt := 0 } 5 _ rfl rfl rfl).field { A.swp n with sf := 0, st := 0, gf := 0, gt := 0, cf := 0 } 6 _ rfl rfl rfl).field { A.swp n with sf := 0, st := 0, gf := 0, gt := 0, cf := 0, ct := 0 } 7 _ rfl rfl rfl).field A.sweep 8 _ ?_ rfl e
  simp [Ar.cells, Ar.sweep, Ar.swp, len_swept]
theorem sweep_c (w : World) {m : Nat} (hA : ArAt w b wb lb A) (ok : A.Ok m) :
    Calls Try.prog 90 #[.pointer (some ⟨b, 0, none⟩)] w fun e w' => e = .returned (.tuple #[]) ∧ ArAt w' b wb lb A.sweep ∧ Fr [b, lb] w w' := by
  have m1 := ok.m1
  have m2 := ok.m2
  have c1 := hA.c1
  have hll := Lib.hid ok.ll
  have hlt := lt_size hA.hl
  have hbt := lt_size hA.hb
  have hwt := lt_size hA.hw
  rw [ok.ll] at c1
  have n1 := hA.n2
  have AT0 := Lib.hid hA
  clear ok hA
  go_enter Try.func90, Try.ntmps90
  go_wp2
  go_loopw [9] (fun x wr => ∃ k : Nat, k ≤ m * 16 ∧ x = .int .i64 k ∧ Hid (ArAt wr b wb lb (A.swp k)) ∧ Fr [b, lb] w wr) (fun x _ => m * 16 - (intOf x).toNat)
  case atStart =>
    refine ⟨0, by omega, rfl, Lib.hid ?_, Fr.refl _ _⟩
    rw [show A.swp 0 = A by simp [Ar.swp, swept_zero]]
    exact AT0.out
  case round =>
    obtain ⟨k, hk, rfl, hA, hF⟩ := hrel
    by_cases hlt : k < m * 16
    · have c1 := hA.out.c1
      rw [show (A.swp k).lines.length = m * 16 from by simp [Ar.swp, len_swept, hll.out]] at c1
      have hm : k < (A.swp k).lines.length := by simp [Ar.swp, len_swept, hll.out]; omega
      have hc0 := hA.out.taken hm
      have hc1 := hA.out.marked hm
      have hf0 := hA.out.fl (k * 2)
      have hf1 := hA.out.fl (k * 2 + 1)
      have hsz := hF.size
      have q1 : lb < wr.heap.size := by omega
      have q2 : b < wr.heap.size := by omega
      obtain ⟨z, hz⟩ : ∃ z, z = mk' (A.swp k).lines k := ⟨_, rfl⟩
      have HZ := Lib.hid hz
      rw [← hz] at hc1
      clear hm hz
      go_wp2
      go_region
      go_wp2
      go_roundw
      case rel =>
        refine ⟨k + 1, by omega, by go_num, Lib.hid ?_, (((hF.setCell (by simp) _).setCell (by simp) _).alloc _).drew⟩
        have S1 := hA.out.swpStep (by rw [hll.out]; exact hlt)
        rw [← HZ.out] at S1
        exact ArAt.fr S1 ((Fr.refl [] _).alloc _).drew (by simp) (by simp) (by simp)
      case measure => simp [intOf]; omega
    · have hkn : k = m * 16 := by omega
      subst hkn
      have k2 := hA.out.c2
      have k3 := hA.out.c3
      have k4 := hA.out.c4
      have k5 := hA.out.c5
      have k6 := hA.out.c6
      have k7 := hA.out.c7
      have k8 := hA.out.c8
      have kf := hA.out.fb
      have FIN := Lib.hid (hA.out.fin (by rw [hll.out]; exact Nat.le_refl _))
      go_wp2
      go_end0
      refine ⟨rfl, FIN.out, ?_⟩
      exact ((((((hF.setCell (by simp) _).setCell (by simp) _).setCell (by simp) _).setCell (by simp) _).setCell (by simp) _).setCell (by simp) _).setCell (by simp) _
/-- How many of the blocks ahead of k are empty. -/
def emptyIn (l : List (Bool × Bool)) : Nat → Nat
  | 0 => 0
  | k + 1 => emptyIn l k + if freeOf l k = 16 then 1 else 0
theorem emptyIn_le (l : List (Bool × Bool)) (k : Nat) : emptyIn l k ≤ k := by
  induction k with
  | zero => simp [emptyIn]
  | succ k ih => simp only [emptyIn]; split <;> omega
theorem empty_c (w : World) {m : Nat} (hA : ArAt w b wb lb A) (ok : A.Ok m) :
    Calls Try.prog 34 #[.pointer (some ⟨b, 0, none⟩)] w fun e w' => e = .returned (.int .i64 (emptyIn A.lines m)) ∧ Fr [] w w' := by
  have m1 := ok.m1
  have m2 := ok.m2
  have CB := Lib.hid (blocks_c w hA ok)
  have CF := Lib.hid (fun w' (hF : Fr [] w w') q hq => free_yes w' (ArAt.fr hA hF (by simp) (by simp) (by simp)) ok q hq)
  clear ok hA
  go_enter Try.func34, Try.ntmps34
  go_wp2_with (go_at_call 84; refine CB.out.mono ?_; rintro e w' ⟨rfl, rfl⟩)
  go_loopw [3, 7] (fun c x wr => ∃ k : Nat, k ≤ m ∧ x = .int .i64 k ∧ c = .int .i64 (emptyIn A.lines k) ∧ Fr [] w wr) (fun _ x _ => m - (intOf x).toNat)
  case atStart => exact ⟨0, by omega, rfl, rfl, Fr.refl _ _⟩
  case round =>
    obtain ⟨k, hk, rfl, rfl, hF⟩ := hrel
    have hle := emptyIn_le A.lines k
    by_cases hlt : k < m
    · have CQ := Lib.hid (CF.out wr hF k hlt)
      have he : emptyIn A.lines (k + 1) = emptyIn A.lines k + if freeOf A.lines k = 16 then 1 else 0 := rfl
      by_cases h16 : freeOf A.lines k = 16
      · rw [if_pos h16] at he
        rw [h16] at CQ
        have HE := Lib.hid he
        clear he h16
        go_wp2_with (go_at_call 85; refine CQ.out.mono ?_; rintro e w' ⟨rfl, hF2⟩)
        go_roundw
        case rel => exact ⟨k + 1, by omega, by go_num, by rw [HE.out]; go_num, hF.same hF2⟩
        case measure => simp [intOf]; omega
      · rw [if_neg h16] at he
        have hb : ((freeOf A.lines k : Int) == 16) = false := by simp; omega
        have HE := Lib.hid he
        clear he h16
        go_wp2_with (go_at_call 85; refine CQ.out.mono ?_; rintro e w' ⟨rfl, hF2⟩)
        go_roundw
        case rel => exact ⟨k + 1, by omega, by go_num, by rw [HE.out]; rfl, hF.same hF2⟩
        case measure => simp [intOf]; omega
    · have hkm : k = m := by omega
      subst hkm
      go_wp2
      go_ret
      exact ⟨rfl, hF⟩
end Go.Proofs.Ytjgndfhfiekomaa
