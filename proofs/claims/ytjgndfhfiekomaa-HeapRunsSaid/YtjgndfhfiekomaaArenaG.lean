/- The arena: Mark, Sweep, Empty. -/
import Derived.Test.YtjgndfhfiekomaaArenaF
set_option linter.all false
namespace Go.Proofs.Ytjgndfhfiekomaa
open Go.ChangeShapes Go.WideShapes Go.RowKit
variable {w : World} {b wb lb : Nat} {A : Ar}
/-- The lines from f to k are marked. -/
def markedL (l : List (Bool × Bool)) (f k : Nat) : List (Bool × Bool) := l.mapIdx fun i x => if f ≤ i ∧ i < k then (x.1, true) else x
theorem markedL_self (l : List (Bool × Bool)) (f : Nat) : markedL l f f = l := by
  apply List.ext_getElem?
  intro i
  simp only [markedL, List.getElem?_mapIdx]
  cases l[i]? with
  | none => rfl
  | some x => simp; omega
theorem len_markedL (l : List (Bool × Bool)) (f k : Nat) : (markedL l f k).length = l.length := by simp [markedL]
theorem markedL_get (l : List (Bool × Bool)) (f k i : Nat) : (markedL l f k)[i]? = (l[i]?).map fun x => if f ≤ i ∧ i < k then (x.1, true) else x := by
  simp only [markedL, List.getElem?_mapIdx]
theorem size_lineCells (l : List (Bool × Bool)) : (lineCells l).size = l.length * 2 := by
  simp [lineCells, List.length_flatMap, List.map_const', List.sum_replicate_nat]
theorem lineCells_set2 (l : List (Bool × Bool)) (k : Nat) (v : Bool) (hk : k < l.length) : (lineCells l).setIfInBounds (k * 2 + 1) (.bool v) = lineCells (l.set k ((l[k]?.getD (true, true)).1, v)) := by
  apply Array.ext_getElem?
  intro i
  rw [Array.getElem?_setIfInBounds, lineCells_get, lineCells_get, size_lineCells]
  by_cases h : k * 2 + 1 = i
  · subst h
    have e : (k * 2 + 1) / 2 = k := by omega
    rw [if_pos rfl, if_pos (by omega), e]
    simp [hk]
  · rw [if_neg h]
    by_cases h2 : i / 2 = k
    · have hm : i % 2 = 0 := by omega
      simp [h2, hk, hm]
    · rw [List.getElem?_set_ne (by omega)]
theorem markedL_step (l : List (Bool × Bool)) (f k : Nat) (h : f ≤ k) (hk : k < l.length) : (markedL l f k).set k (((markedL l f k)[k]?.getD (true, true)).1, true) = markedL l f (k + 1) := by
  apply List.ext_getElem?
  intro i
  rw [markedL_get, markedL_get]
  by_cases hi : i = k
  · subst hi
    rw [List.getElem?_set_self (by rw [len_markedL]; exact hk)]
    simp [hk, h]
  · rw [List.getElem?_set_ne (by omega), markedL_get]
    congr 1
    funext x
    have : (f ≤ i ∧ i < k) ↔ (f ≤ i ∧ i < k + 1) := by omega
    simp only [this]
def Ar.markL (A : Ar) (f k : Nat) : Ar := { A with lines := markedL A.lines f k }
theorem ArAt.markStep {f k : Nat} (hA : ArAt w b wb lb (A.markL f k)) (h : f ≤ k) (hk : k < A.lines.length) : ArAt (w.setCell ⟨lb, k * 2 + 1, none⟩ (.bool true)) b wb lb (A.markL f (k + 1)) := by
  obtain ⟨hb, hw, hl, n1, n2, n3⟩ := hA
  refine ⟨?_, ?_, ?_, n1, n2, n3⟩
  · rw [blk_set, if_neg n2, hb]; simp [Ar.cells, Ar.markL, len_markedL]
  · rw [blk_set, if_neg n3, hw]; rfl
  · rw [blk_set, if_pos rfl, hl]
    simp only [Option.map_some, setObj, Ar.markL]
    rw [lineCells_set2 _ _ _ (by rw [len_markedL]; exact hk), markedL_step _ _ _ h hk]
/-- The last word of some that begin at a place and of the m blocks' (none: there is none). -/
def lastOf (m : Nat) (at_ n : Int) : Int := if at_ < 0 ∨ n - 1 < (m : Int) * 256 - 1 - at_ then min ((m : Int) * 256 - 1) (at_ + n - 1) else (m : Int) * 256 - 1
def Ar.mark (A : Ar) (m : Nat) (at_ n : Int) : Ar :=
  if n < 1 ∨ (m : Int) * 256 - 1 < at_ ∨ lastOf m at_ n < max at_ 0 then A else A.markL ((max at_ 0).toNat / 16) ((lastOf m at_ n).toNat / 16 + 1)
def MarkDone (b wb lb : Nat) (w : World) (A' : Ar) (e : Ending) (w' : World) : Prop := e = .returned (.tuple #[]) ∧ ArAt w' b wb lb A' ∧ Fr [lb] w w'
theorem mark_nil (w : World) {m : Nat} (hA : ArAt w b wb lb A) (ok : A.Ok m) (at_ n : Int) (ba : -9223372036854775808 ≤ at_ ∧ at_ ≤ 9223372036854775807) (bn : -9223372036854775808 ≤ n ∧ n ≤ 9223372036854775807)
    (h : n < 1 ∨ (m : Int) * 256 - 1 < at_ ∨ lastOf m at_ n < max at_ 0) :
    Calls Try.prog 136 #[.pointer (some ⟨b, 0, none⟩), .int .i64 at_, .int .i64 n] w (MarkDone b wb lb w A) := by
  have m1 := ok.m1
  have m2 := ok.m2
  have c0 := hA.c0
  rw [ok.wl] at c0
  have D := Lib.hid (show MarkDone b wb lb w A (.returned (.tuple #[])) w.drew from ⟨rfl, ArAt.fr hA (Fr.refl [] w).drew (by simp) (by simp) (by simp), (Fr.refl _ _).drew⟩)
  clear ok hA
  by_cases h1 : n < 1
  · clear h
    by_cases hs : at_ < 0
    · go_enter Try.func136, Try.ntmps136
      go_wp2
      go_region
      all_goals
        go_wp2
        go_end0
        exact D.out
    · have hs' : 0 ≤ at_ := by omega
      go_enter Try.func136, Try.ntmps136
      go_wp2
      go_region
      all_goals
        go_wp2
        go_end0
        exact D.out
  by_cases h2 : (m : Int) * 256 - 1 < at_
  · clear h
    have hs : ¬ at_ < 0 := by omega
    · go_enter Try.func136, Try.ntmps136
      go_wp2
      go_region
      all_goals
        go_wp2
        go_end0
        exact D.out
  have h3 : at_ + n - 1 < 0 := by unfold lastOf at h; split at h <;> omega
  clear h
  have h4 : at_ < 0 := by omega
  go_enter Try.func136, Try.ntmps136
  go_wp2
  go_region
  all_goals
    go_wp2
    go_end0
    exact D.out
theorem mark_a (w : World) {m : Nat} (hA : ArAt w b wb lb A) (ok : A.Ok m) (at_ n : Int) (f k1 : Nat) (h0 : 1 ≤ n) (bn : n ≤ 9223372036854775807) (ha : -9223372036854775808 ≤ at_ ∧ at_ < 0) (hl : at_ + n - 1 < (m : Int) * 256 - 1) (hf : f = 0) (hk : (k1 : Int) = (at_ + n - 1) / 16) (hp : 0 ≤ at_ + n - 1) :
    Calls Try.prog 136 #[.pointer (some ⟨b, 0, none⟩), .int .i64 at_, .int .i64 n] w (MarkDone b wb lb w (A.markL f (k1 + 1))) := by
  have HFf := Lib.hid hf
  have g1 : (k1 : Int) * 16 ≤ at_ + n - 1 := by omega
  have g2 : at_ + n - 1 < (k1 : Int) * 16 + 16 := by omega
  have g3 : f ≤ k1 + 1 := by omega
  have hs : at_ < 0 := by omega
  have m1 := ok.m1
  have m2 := ok.m2
  have c0 := hA.c0
  have hll := Lib.hid ok.ll
  rw [ok.wl] at c0
  have AT0 := Lib.hid hA
  obtain ⟨ha1, ha2⟩ := ha
  clear ok hA hf hk
  go_enter Try.func136, Try.ntmps136
  go_wp2
  go_region
  all_goals go_wp2
  go_loopw [8] (fun x wr => ∃ k : Nat, f ≤ k ∧ k ≤ k1 + 1 ∧ x = .int .i64 k ∧ Hid (ArAt wr b wb lb (A.markL f k)) ∧ Fr [lb] w wr) (fun x _ => k1 + 1 - (intOf x).toNat)
  case atStart =>
    refine ⟨f, by omega, by omega, by rw [HFf.out]; rfl, Lib.hid ?_, (Fr.refl _ _).drew⟩
    rw [show A.markL f f = A by simp [Ar.markL, markedL_self]]
    exact ArAt.fr AT0.out (Fr.refl [] w).drew (by simp) (by simp) (by simp)
  case round =>
    obtain ⟨k, hk1, hk2, rfl, hA, hF⟩ := hrel
    have c1 := hA.out.c1
    rw [show (A.markL f k).lines.length = m * 16 from by simp [Ar.markL, len_markedL, hll.out]] at c1
    by_cases hlt : k ≤ k1
    · have hm : k < A.lines.length := by rw [hll.out]; omega
      have hc := hA.out.marked (i := k) (by simp [Ar.markL, len_markedL]; exact hm)
      have hfl := hA.out.fl (k * 2 + 1)
      have ht : (k : Int) ≤ (at_ + n - 1) / 16 := by omega
      clear hm
      go_wp2
      go_roundw
      case rel => exact ⟨k + 1, by omega, by omega, by go_num, Lib.hid (hA.out.markStep hk1 (by rw [hll.out]; omega)), hF.setCell (by simp) _⟩
      case measure => simp [intOf]; omega
    · have ht : (at_ + n - 1) / 16 < (k : Int) := by omega
      have hkt : k = k1 + 1 := by omega
      subst hkt
      go_wp2
      go_end0
      exact ⟨rfl, hA.out, hF⟩
theorem mark_b (w : World) {m : Nat} (hA : ArAt w b wb lb A) (ok : A.Ok m) (at_ n : Int) (f k1 : Nat) (h0 : 1 ≤ n) (bn : n ≤ 9223372036854775807) (ha : -9223372036854775808 ≤ at_ ∧ at_ < 0) (hl : (m : Int) * 256 - 1 ≤ at_ + n - 1) (hf : f = 0) (hk : (k1 : Int) = ((m : Int) * 256 - 1) / 16) :
    Calls Try.prog 136 #[.pointer (some ⟨b, 0, none⟩), .int .i64 at_, .int .i64 n] w (MarkDone b wb lb w (A.markL f (k1 + 1))) := by
  have HFf := Lib.hid hf
  have g1 : (k1 : Int) * 16 ≤ (m : Int) * 256 - 1 := by omega
  have g2 : (m : Int) * 256 - 1 < (k1 : Int) * 16 + 16 := by omega
  have g3 : f ≤ k1 + 1 := by omega
  have hs : at_ < 0 := by omega
  have m1 := ok.m1
  have m2 := ok.m2
  have c0 := hA.c0
  have hll := Lib.hid ok.ll
  rw [ok.wl] at c0
  have AT0 := Lib.hid hA
  obtain ⟨ha1, ha2⟩ := ha
  clear ok hA hf hk
  go_enter Try.func136, Try.ntmps136
  go_wp2
  go_region
  all_goals go_wp2
  go_loopw [8] (fun x wr => ∃ k : Nat, f ≤ k ∧ k ≤ k1 + 1 ∧ x = .int .i64 k ∧ Hid (ArAt wr b wb lb (A.markL f k)) ∧ Fr [lb] w wr) (fun x _ => k1 + 1 - (intOf x).toNat)
  case atStart =>
    refine ⟨f, by omega, by omega, by rw [HFf.out]; rfl, Lib.hid ?_, (Fr.refl _ _).drew⟩
    rw [show A.markL f f = A by simp [Ar.markL, markedL_self]]
    exact ArAt.fr AT0.out (Fr.refl [] w).drew (by simp) (by simp) (by simp)
  case round =>
    obtain ⟨k, hk1, hk2, rfl, hA, hF⟩ := hrel
    have c1 := hA.out.c1
    rw [show (A.markL f k).lines.length = m * 16 from by simp [Ar.markL, len_markedL, hll.out]] at c1
    by_cases hlt : k ≤ k1
    · have hm : k < A.lines.length := by rw [hll.out]; omega
      have hc := hA.out.marked (i := k) (by simp [Ar.markL, len_markedL]; exact hm)
      have hfl := hA.out.fl (k * 2 + 1)
      have ht : (k : Int) ≤ ((m : Int) * 256 - 1) / 16 := by omega
      clear hm
      go_wp2
      go_roundw
      case rel => exact ⟨k + 1, by omega, by omega, by go_num, Lib.hid (hA.out.markStep hk1 (by rw [hll.out]; omega)), hF.setCell (by simp) _⟩
      case measure => simp [intOf]; omega
    · have ht : ((m : Int) * 256 - 1) / 16 < (k : Int) := by omega
      have hkt : k = k1 + 1 := by omega
      subst hkt
      go_wp2
      go_end0
      exact ⟨rfl, hA.out, hF⟩
theorem mark_c_ (w : World) {m : Nat} (hA : ArAt w b wb lb A) (ok : A.Ok m) (at_ n : Int) (f k1 : Nat) (h0 : 1 ≤ n) (bn : n ≤ 9223372036854775807) (ha : 0 ≤ at_ ∧ at_ ≤ (m : Int) * 256 - 1) (hl : n - 1 < (m : Int) * 256 - 1 - at_) (hf : (f : Int) = at_ / 16) (hk : (k1 : Int) = (at_ + n - 1) / 16) :
    Calls Try.prog 136 #[.pointer (some ⟨b, 0, none⟩), .int .i64 at_, .int .i64 n] w (MarkDone b wb lb w (A.markL f (k1 + 1))) := by
  have HFf := Lib.hid hf
  have g1 : (k1 : Int) * 16 ≤ at_ + n - 1 := by omega
  have g2 : at_ + n - 1 < (k1 : Int) * 16 + 16 := by omega
  have g3 : f ≤ k1 + 1 := by omega
  have hs : ¬ at_ < 0 := by omega
  have m1 := ok.m1
  have m2 := ok.m2
  have c0 := hA.c0
  have hll := Lib.hid ok.ll
  rw [ok.wl] at c0
  have AT0 := Lib.hid hA
  obtain ⟨ha1, ha2⟩ := ha
  clear ok hA hf hk
  go_enter Try.func136, Try.ntmps136
  go_wp2
  go_region
  all_goals go_wp2
  go_loopw [8] (fun x wr => ∃ k : Nat, f ≤ k ∧ k ≤ k1 + 1 ∧ x = .int .i64 k ∧ Hid (ArAt wr b wb lb (A.markL f k)) ∧ Fr [lb] w wr) (fun x _ => k1 + 1 - (intOf x).toNat)
  case atStart =>
    refine ⟨f, by omega, by omega, by rw [HFf.out], Lib.hid ?_, (Fr.refl _ _).drew⟩
    rw [show A.markL f f = A by simp [Ar.markL, markedL_self]]
    exact ArAt.fr AT0.out (Fr.refl [] w).drew (by simp) (by simp) (by simp)
  case round =>
    obtain ⟨k, hk1, hk2, rfl, hA, hF⟩ := hrel
    have c1 := hA.out.c1
    rw [show (A.markL f k).lines.length = m * 16 from by simp [Ar.markL, len_markedL, hll.out]] at c1
    by_cases hlt : k ≤ k1
    · have hm : k < A.lines.length := by rw [hll.out]; omega
      have hc := hA.out.marked (i := k) (by simp [Ar.markL, len_markedL]; exact hm)
      have hfl := hA.out.fl (k * 2 + 1)
      have ht : (k : Int) ≤ (at_ + n - 1) / 16 := by omega
      clear hm
      go_wp2
      go_roundw
      case rel => exact ⟨k + 1, by omega, by omega, by go_num, Lib.hid (hA.out.markStep hk1 (by rw [hll.out]; omega)), hF.setCell (by simp) _⟩
      case measure => simp [intOf]; omega
    · have ht : (at_ + n - 1) / 16 < (k : Int) := by omega
      have hkt : k = k1 + 1 := by omega
      subst hkt
      go_wp2
      go_end0
      exact ⟨rfl, hA.out, hF⟩
theorem mark_d (w : World) {m : Nat} (hA : ArAt w b wb lb A) (ok : A.Ok m) (at_ n : Int) (f k1 : Nat) (h0 : 1 ≤ n) (bn : n ≤ 9223372036854775807) (ha : 0 ≤ at_ ∧ at_ ≤ (m : Int) * 256 - 1) (hl : (m : Int) * 256 - 1 - at_ ≤ n - 1) (hf : (f : Int) = at_ / 16) (hk : (k1 : Int) = ((m : Int) * 256 - 1) / 16) :
    Calls Try.prog 136 #[.pointer (some ⟨b, 0, none⟩), .int .i64 at_, .int .i64 n] w (MarkDone b wb lb w (A.markL f (k1 + 1))) := by
  have HFf := Lib.hid hf
  have g1 : (k1 : Int) * 16 ≤ (m : Int) * 256 - 1 := by omega
  have g2 : (m : Int) * 256 - 1 < (k1 : Int) * 16 + 16 := by omega
  have g3 : f ≤ k1 + 1 := by omega
  have hs : ¬ at_ < 0 := by omega
  have m1 := ok.m1
  have m2 := ok.m2
  have c0 := hA.c0
  have hll := Lib.hid ok.ll
  rw [ok.wl] at c0
  have AT0 := Lib.hid hA
  obtain ⟨ha1, ha2⟩ := ha
  clear ok hA hf hk
  go_enter Try.func136, Try.ntmps136
  go_wp2
  go_region
  all_goals go_wp2
  go_loopw [8] (fun x wr => ∃ k : Nat, f ≤ k ∧ k ≤ k1 + 1 ∧ x = .int .i64 k ∧ Hid (ArAt wr b wb lb (A.markL f k)) ∧ Fr [lb] w wr) (fun x _ => k1 + 1 - (intOf x).toNat)
  case atStart =>
    refine ⟨f, by omega, by omega, by rw [HFf.out], Lib.hid ?_, (Fr.refl _ _).drew⟩
    rw [show A.markL f f = A by simp [Ar.markL, markedL_self]]
    exact ArAt.fr AT0.out (Fr.refl [] w).drew (by simp) (by simp) (by simp)
  case round =>
    obtain ⟨k, hk1, hk2, rfl, hA, hF⟩ := hrel
    have c1 := hA.out.c1
    rw [show (A.markL f k).lines.length = m * 16 from by simp [Ar.markL, len_markedL, hll.out]] at c1
    by_cases hlt : k ≤ k1
    · have hm : k < A.lines.length := by rw [hll.out]; omega
      have hc := hA.out.marked (i := k) (by simp [Ar.markL, len_markedL]; exact hm)
      have hfl := hA.out.fl (k * 2 + 1)
      have ht : (k : Int) ≤ ((m : Int) * 256 - 1) / 16 := by omega
      clear hm
      go_wp2
      go_roundw
      case rel => exact ⟨k + 1, by omega, by omega, by go_num, Lib.hid (hA.out.markStep hk1 (by rw [hll.out]; omega)), hF.setCell (by simp) _⟩
      case measure => simp [intOf]; omega
    · have ht : ((m : Int) * 256 - 1) / 16 < (k : Int) := by omega
      have hkt : k = k1 + 1 := by omega
      subst hkt
      go_wp2
      go_end0
      exact ⟨rfl, hA.out, hF⟩
theorem mark_c (w : World) {m : Nat} (hA : ArAt w b wb lb A) (ok : A.Ok m) (at_ n : Int) (ba : -9223372036854775808 ≤ at_ ∧ at_ ≤ 9223372036854775807) (bn : -9223372036854775808 ≤ n ∧ n ≤ 9223372036854775807) :
    Calls Try.prog 136 #[.pointer (some ⟨b, 0, none⟩), .int .i64 at_, .int .i64 n] w (MarkDone b wb lb w (A.mark m at_ n)) := by
  have m1 := ok.m1
  have m2 := ok.m2
  unfold Ar.mark
  by_cases h : n < 1 ∨ (m : Int) * 256 - 1 < at_ ∨ lastOf m at_ n < max at_ 0
  · rw [if_pos h]; exact mark_nil w hA ok at_ n ba bn h
  · rw [if_neg h]
    unfold lastOf at h ⊢
    by_cases h1 : at_ < 0
    · rw [if_pos (.inl h1)] at h ⊢
      by_cases h2 : at_ + n - 1 < (m : Int) * 256 - 1
      · exact mark_a w hA ok at_ n _ _ (by omega) (by omega) (by omega) h2 (by omega) (by omega) (by omega)
      · exact mark_b w hA ok at_ n _ _ (by omega) (by omega) (by omega) (by omega) (by omega) (by omega)
    · by_cases h2 : n - 1 < (m : Int) * 256 - 1 - at_
      · rw [if_pos (.inr h2)] at h ⊢
        exact mark_c_ w hA ok at_ n _ _ (by omega) (by omega) (by omega) h2 (by omega) (by omega)
      · rw [if_neg (by omega)] at h ⊢
        exact mark_d w hA ok at_ n _ _ (by omega) (by omega) (by omega) (by omega) (by omega) (by omega)
end Go.Proofs.Ytjgndfhfiekomaa
