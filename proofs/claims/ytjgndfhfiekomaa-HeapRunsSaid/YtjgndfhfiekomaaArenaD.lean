/- The arena: counts, free lines. -/
import Derived.Test.YtjgndfhfiekomaaArenaC
set_option linter.all false
namespace Go.Proofs.Ytjgndfhfiekomaa
open Go.ChangeShapes Go.WideShapes Go.RowKit
variable {w : World} {b wb lb : Nat} {A : Ar}
theorem free1_c (w : World) (x y : Bool) : Calls Try.prog 131 #[.agg #[.bool x, .bool y]] w fun e w' => e = .returned (.bool !x) ∧ w' = w.alloc (.cells #[.bool x, .bool y] 181) := by
  go_enter Try.func131, Try.ntmps131
  go_wp2
  go_ret
  exact ⟨rfl, rfl⟩
/-- How many of so many lines from one on are free. -/
def freeIn (l : List (Bool × Bool)) (o n : Nat) : Nat := ((l.drop o).take n).countP fun x => !x.1
theorem freeIn_zero (l : List (Bool × Bool)) (o : Nat) : freeIn l o 0 = 0 := by simp [freeIn]
theorem freeIn_step (l : List (Bool × Bool)) (o k : Nat) (h : o + k < l.length) : freeIn l o (k + 1) = freeIn l o k + if tk l (o + k) = true then 0 else 1 := by
  unfold freeIn
  have : (l.drop o)[k]? = some l[o + k] := by rw [List.getElem?_drop]; simp [h]
  rw [List.take_add_one, this]
  simp only [Option.toList_some, List.countP_append, List.countP_singleton, tk, List.getElem?_eq_getElem h, Option.getD_some]
  cases l[o + k].1 <;> rfl
theorem freeIn_le (l : List (Bool × Bool)) (o k : Nat) : freeIn l o k ≤ k := by
  unfold freeIn
  have h1 := List.countP_le_length (p := fun x : Bool × Bool => !x.1) (l := (l.drop o).take k)
  have h2 : ((l.drop o).take k).length ≤ k := List.length_take_le _ _
  omega
theorem count_c (w : World) {m : Nat} (hA : ArAt w b wb lb A) (ok : A.Ok m) (o n cap : Nat) (hn : o + n ≤ m * 16) :
    Calls Try.prog 130 #[.slice (some ⟨lb, o * 2, none⟩) n cap, .func (.func 131) #[] #[]] w fun e w' => e = .returned (.int .i64 (freeIn A.lines o n)) ∧ Fr [] w w' := by
  have h1 := ok.m1
  have h2 := ok.m2
  have hll := Lib.hid ok.ll
  have AT := Lib.hid hA
  have FZ := Lib.hid (freeIn_zero A.lines o)
  clear hA ok
  go_enter Try.func130, Try.ntmps130
  go_wp2
  go_loopw [5, 10] (fun c x wr => ∃ k : Nat, k ≤ n ∧ x = .int .i64 k ∧ c = .int .i64 (freeIn A.lines o k) ∧ Fr [] w wr) (fun _ x _ => n - (intOf x).toNat)
  case atStart => exact ⟨0, by omega, rfl, by rw [FZ.out]; rfl, Fr.refl _ _⟩
  case round =>
    obtain ⟨k, hk, rfl, rfl, hF⟩ := hrel
    have hA := AT.out.fr hF (by simp) (by simp) (by simp)
    have hle := freeIn_le A.lines o k
    by_cases hlt : k < n
    · have c0 := hA.taken (i := o + k) (by rw [hll.out]; omega)
      have c1 := hA.marked (i := o + k) (by rw [hll.out]; omega)
      have hs := Lib.hid (freeIn_step A.lines o k (by rw [hll.out]; omega))
      rw [show (o + k) * 2 = o * 2 + k * 2 from by omega] at c0 c1
      clear hA
      cases ht : tk A.lines (o + k) with
      | false =>
        rw [ht] at c0 hs
        clear ht
        go_wp2_with (go_at_call 131; refine (free1_c _ _ _).mono ?_; rintro e w' ⟨rfl, rfl⟩)
        go_roundw
        case rel => exact ⟨k + 1, by omega, by go_num, by rw [hs.out]; go_num, (hF.alloc _).alloc _⟩
        case measure => simp [intOf]; omega
      | true =>
        rw [ht] at c0 hs
        clear ht
        go_wp2_with (go_at_call 131; refine (free1_c _ _ _).mono ?_; rintro e w' ⟨rfl, rfl⟩)
        go_roundw
        case rel => exact ⟨k + 1, by omega, by go_num, by rw [hs.out]; go_num, (hF.alloc _).alloc _⟩
        case measure => simp [intOf]; omega
    · have hkn : k = n := by omega
      subst hkn
      clear hA
      go_wp2
      go_ret
      exact ⟨rfl, hF⟩
/-- How many lines of a block are free. -/
def freeOf (l : List (Bool × Bool)) (q : Nat) : Nat := freeIn l (q * 16) 16
theorem free_yes (w : World) {m : Nat} (hA : ArAt w b wb lb A) (ok : A.Ok m) (q : Nat) (hq : q < m) :
    Calls Try.prog 85 #[.pointer (some ⟨b, 0, none⟩), .int .i64 (q : Int)] w fun e w' => e = .returned (.int .i64 (freeOf A.lines q)) ∧ Fr [] w w' := by
  have h1 := ok.m1
  have h2 := ok.m2
  have c1 := hA.c1
  rw [ok.ll] at c1
  have CB := Lib.hid (blocks_c w hA ok)
  have CC := Lib.hid (count_c w hA ok (q * 16) ((q + 1) * 16 - q * 16) (m * 16 - q * 16) (by omega))
  have E16 : Hid ((q + 1) * 16 - q * 16 = 16) := Lib.hid (by omega)
  clear hA ok
  go_enter Try.func85, Try.ntmps85
  go_wp2_with (first | (go_at_call 84; refine CB.out.mono ?_; rintro e w' ⟨rfl, rfl⟩) | (go_at_call 130; refine CC.out.mono ?_; rintro e w' ⟨rfl, hF⟩))
  go_ret
  exact ⟨ret_int (by rw [E16.out]; rfl), hF⟩
theorem free_no (w : World) {m : Nat} (hA : ArAt w b wb lb A) (ok : A.Ok m) (q : Int) (hq : q < 0 ∨ (m : Int) ≤ q) :
    Calls Try.prog 85 #[.pointer (some ⟨b, 0, none⟩), .int .i64 q] w fun e w' => e = .returned (.int .i64 0) ∧ w = w' := by
  have h1 := ok.m1
  have h2 := ok.m2
  have CB := Lib.hid (blocks_c w hA ok)
  clear hA ok
  by_cases hn : q < 0
  · go_enter Try.func85, Try.ntmps85
    go_wp2_with (go_at_call 84; refine CB.out.mono ?_; rintro e w' ⟨rfl, rfl⟩)
    go_ret
    exact ⟨rfl, rfl⟩
  · have hm : (m : Int) ≤ q := by omega
    clear hq
    go_enter Try.func85, Try.ntmps85
    go_wp2_with (go_at_call 84; refine CB.out.mono ?_; rintro e w' ⟨rfl, rfl⟩)
    go_ret
    exact ⟨rfl, rfl⟩
end Go.Proofs.Ytjgndfhfiekomaa
