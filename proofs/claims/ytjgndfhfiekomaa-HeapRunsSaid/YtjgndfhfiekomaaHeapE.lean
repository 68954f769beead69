/- The heap: Moved, Move. -/
import Derived.Test.YtjgndfhfiekomaaHeapD
set_option linter.all false
namespace Go.Proofs.Ytjgndfhfiekomaa
open Go.ChangeShapes Go.WideShapes Go.RowKit
variable {w : World} {hb b wb lb : Nat} {A : Ar} {m : Nat}
/-- Where it stands now. -/
def movedF (A : Ar) (m : Nat) (x : Int) : Option Int :=
  if x % 8 = 1 ∧ x / 8 < (m : Int) * 256 ∧ A.wd (x / 8).toNat % 8 = 7 then some (mkW 1 (A.wd (x / 8).toNat / 8)) else none
set_option maxHeartbeats 2000000 in
theorem omoved_c (w : World) (hH : HeAt w hb b wb lb A) (ok : A.Ok m) (wd : A.Wd) (x : Int) (h0 : 0 ≤ x) (h1 : x < 18446744073709551616) :
    Calls Try.prog 27 #[.pointer (some ⟨hb, 0, none⟩), .int .u64 x] w fun e w' => e = .returned (wordVal (movedF A m x)) ∧ Fr [] w w' := by
  have hwd := wd.at (x / 8).toNat
  by_cases hx : x % 8 = 1
  · have c0 := hH.cell
    have V1 := Lib.hid (val1 x hx)
    have HD := Lib.hid (hH.keep (Fr.refl [] w).drew)
    have OK := Lib.hid ok
    have hbb : (x % 8 != 1) = false := by simpa using hx
    by_cases ha : x / 8 < (m : Int) * 256
    · have GY := get_yes w.drew HD.out.ar OK.out (x / 8).toNat (by omega)
      rw [show (((x / 8).toNat : Nat) : Int) = x / 8 by omega] at GY
      have GY := Lib.hid GY
      by_cases h7 : A.wd (x / 8).toNat % 8 = 7
      · have HM : Hid (movedF A m x = some (mkW 1 (A.wd (x / 8).toNat / 8))) := Lib.hid (by unfold movedF; rw [if_pos ⟨hx, ha, h7⟩])
        rw [HM.out]
        simp only [wordVal]
        change Hid (Calls _ _ _ _ fun e w' => e = .returned (.tuple #[.int .u64 (A.wd (x / 8).toNat), .int .i64 0]) ∧ w.drew = w') at GY
        obtain ⟨y, hy⟩ : ∃ y, y = A.wd (x / 8).toNat := ⟨_, rfl⟩
        rw [← hy] at GY h7 hwd ⊢
        have h7b : (y % 8 != 7) = false := by simpa using h7
        have e7 := and7 y hwd.1 hwd.2
        obtain ⟨hw1, hw2⟩ := hwd
        clear hy hH ok hx h7 HM
        go_enter Try.func27, Try.ntmps27
        go_wp2_with (go_at_call 81; refine (kind_c _ _ h0 h1).mono ?_; rintro e w' ⟨rfl, rfl⟩)
        go_region_with (first | (go_at_call 82; refine (value_c _ _ h0 h1).mono ?_; rintro e w' ⟨rfl, rfl⟩; rw [V1.out]) | (go_at_call 75; refine GY.out.mono ?_; rintro e w' ⟨rfl, rfl⟩))
        all_goals
          go_wp2_with (go_at_call 72; refine (place_c _ _).mono ?_; rintro e w' ⟨rfl, rfl⟩)
          go_ret2
          exact ⟨rfl, (Fr.refl _ _).drew⟩
      · have HM : Hid (movedF A m x = none) := Lib.hid (by unfold movedF; rw [if_neg (by omega)])
        rw [HM.out]
        simp only [wordVal]
        change Hid (Calls _ _ _ _ fun e w' => e = .returned (.tuple #[.int .u64 (A.wd (x / 8).toNat), .int .i64 0]) ∧ w.drew = w') at GY
        obtain ⟨y, hy⟩ : ∃ y, y = A.wd (x / 8).toNat := ⟨_, rfl⟩
        rw [← hy] at GY h7 hwd
        have h7b : (y % 8 != 7) = true := by simpa using h7
        have e7 := and7 y hwd.1 hwd.2
        obtain ⟨hw1, hw2⟩ := hwd
        clear hy hH ok hx h7 HM
        go_enter Try.func27, Try.ntmps27
        go_wp2_with (go_at_call 81; refine (kind_c _ _ h0 h1).mono ?_; rintro e w' ⟨rfl, rfl⟩)
        go_region_with (first | (go_at_call 82; refine (value_c _ _ h0 h1).mono ?_; rintro e w' ⟨rfl, rfl⟩; rw [V1.out]) | (go_at_call 75; refine GY.out.mono ?_; rintro e w' ⟨rfl, rfl⟩))
        all_goals
          go_wp2
          go_ret2
          exact ⟨rfl, (Fr.refl _ _).drew⟩
    · have HM : Hid (movedF A m x = none) := Lib.hid (by unfold movedF; rw [if_neg (by omega)])
      rw [HM.out]
      simp only [wordVal]
      have GN := Lib.hid (get_no w.drew HD.out.ar OK.out (x / 8) (.inr (by omega)))
      clear hH ok hx HM hwd
      go_enter Try.func27, Try.ntmps27
      go_wp2_with (go_at_call 81; refine (kind_c _ _ h0 h1).mono ?_; rintro e w' ⟨rfl, rfl⟩)
      go_region_with (first | (go_at_call 82; refine (value_c _ _ h0 h1).mono ?_; rintro e w' ⟨rfl, rfl⟩; rw [V1.out]) | (go_at_call 75; refine GN.out.mono ?_; rintro e w' ⟨rfl, rfl⟩))
      all_goals
        go_wp2
        go_ret2
        exact ⟨rfl, (Fr.refl _ _).drew⟩
  · have HM : Hid (movedF A m x = none) := Lib.hid (by unfold movedF; rw [if_neg (by omega)])
    rw [HM.out]
    simp only [wordVal]
    have hbb : (x % 8 != 1) = true := by simpa using hx
    clear hH ok hwd HM
    go_enter Try.func27, Try.ntmps27
    go_wp2_with (go_at_call 81; refine (kind_c _ _ h0 h1).mono ?_; rintro e w' ⟨rfl, rfl⟩)
    go_ret2
    exact ⟨rfl, Fr.refl _ _⟩
end Go.Proofs.Ytjgndfhfiekomaa
