/- The texts and numbers of numbers: a part of the walk. No condition. -/
import Derived.Test.YtcjkgnafpkkjmaaGreatDoorQk26
set_option linter.all false
namespace Go.Proofs.YtcjkgnafpkkjmaaGreatDoor
section
open Go.ChangeShapes Go.WideShapes Go.RowKit Go.Shelf
theorem form_five (c : UInt8) : Rgt.formN c = 100 ∨ Rgt.formN c = 115 ∨ Rgt.formN c = 112 ∨ Rgt.formN c = 101 ∨ Rgt.formN c = 120 := by
  rcases Rgt.form_cases c with h | h | h | h | h
  · exact .inl h.1
  · exact .inr (.inl h.1)
  · exact .inr (.inr (.inl h.1))
  · exact .inr (.inr (.inr (.inl h.1)))
  · exact .inr (.inr (.inr (.inr h)))
theorem fold_succ (l : List UInt8) (i : Nat) (hi : i < l.length) : (l.take (i + 1)).foldl Rgt.stepQ (0, 0) = Rgt.stepQ ((l.take i).foldl Rgt.stepQ (0, 0)) (l[i]?.getD 0) := by
  rw [List.take_succ, List.getElem?_eq_getElem hi, List.foldl_append]; rfl
set_option maxRecDepth 100000 in
set_option maxHeartbeats 4000000 in
theorem r3right_g (l : List UInt8) (hl : l.length ≤ 800) (w : World) : Calls Tryz.prog 25 #[.string (ba l)] w fun e w' => e = .returned (.bool (Rgt.refRight l)) ∧ Fr [] w w' := by
  have hsz := ba_size l
  go_enter Tryz.func25, Tryz.ntmps25
  go_wp2_with fail
  go_loopw [3, 4, 5] (fun s3 s4 s5 wr => ∃ (i st p : Nat), i ≤ l.length ∧ st ≤ 9 ∧ p ≤ i ∧ s3 = .int .i64 (st : Int) ∧ s4 = .int .i64 (p : Int) ∧ s5 = .int .i64 (i : Int) ∧ Hid (Fr [] w wr) ∧ Hid ((l.take i).foldl Rgt.stepQ (0, 0) = (st, p))) (fun _ _ a _ => l.length - (RowKit.intOf a).toNat)
  case atStart => exact ⟨0, 0, 0, Nat.zero_le _, by decide, Nat.le_refl _, rfl, rfl, rfl, Lib.hid (Fr.refl _ _), Lib.hid (by simp)⟩
  case round =>
    obtain ⟨i, st, p, hi, hst, hpi, rfl, rfl, rfl, FW, HQ⟩ := hrel
    by_cases hlt : i < l.length
    · have SI : ∀ W : World, (Instr.index 9 (.string (ba l)) (.int .i64 (i : Int))).run Tryz.prog W = .ok (.int .u8 ((l[i]?.getD 0).toNat : Int)) W := fun W => run_str_at l i hlt W
      have HN := Lib.hid (fold_succ l i hlt)
      rw [HQ.out] at HN
      generalize l[i]?.getD 0 = c at SI HN
      have CF := Lib.hid (fun w1 => form_g c w1)
      have H5 := form_five c
      have HN2 : Hid ((l.take (i + 1)).foldl Rgt.stepQ (0, 0) = (Rgt.nextQ st (Rgt.formN c), p + (if Rgt.formN c = 100 ∧ (st = 6 ∨ st = 7 ∨ st = 8) then 1 else 0))) := Lib.hid HN.out
      generalize Rgt.formN c = X at CF H5 HN2
      generalize c.toNat = cn at SI CF
      clear HN HQ
      go_wp2_with fail
      refine (CF.out _).mono ?_
      rintro e w' ⟨rfl, rfl⟩
      clear CF SI
      have hst2 : st = 0 ∨ st = 1 ∨ st = 2 ∨ st = 3 ∨ st = 4 ∨ st = 5 ∨ st = 6 ∨ st = 7 ∨ st = 8 ∨ st = 9 := by omega
      clear hst
      rcases hst2 with rfl | rfl | rfl | rfl | rfl | rfl | rfl | rfl | rfl | rfl
      · rcases H5 with rfl | rfl | rfl | rfl | rfl
        · have H9 : Hid ((l.take (i + 1)).foldl Rgt.stepQ (0, 0) = (2, p)) := Lib.hid (HN2.out.trans rfl)
          clear HN2
          go_wp2_with fail
          go_roundw
          case rel => exact ⟨i + 1, 2, p, by omega, by decide, by omega, by rfl, by rfl, by go_num, FW, H9⟩
          case measure => simp [RowKit.intOf]; omega
        · have H9 : Hid ((l.take (i + 1)).foldl Rgt.stepQ (0, 0) = (1, p)) := Lib.hid (HN2.out.trans rfl)
          clear HN2
          go_wp2_with fail
          go_roundw
          case rel => exact ⟨i + 1, 1, p, by omega, by decide, by omega, by rfl, by rfl, by go_num, FW, H9⟩
          case measure => simp [RowKit.intOf]; omega
        · have H9 : Hid ((l.take (i + 1)).foldl Rgt.stepQ (0, 0) = (4, p)) := Lib.hid (HN2.out.trans rfl)
          clear HN2
          go_wp2_with fail
          go_roundw
          case rel => exact ⟨i + 1, 4, p, by omega, by decide, by omega, by rfl, by rfl, by go_num, FW, H9⟩
          case measure => simp [RowKit.intOf]; omega
        · have H9 : Hid ((l.take (i + 1)).foldl Rgt.stepQ (0, 0) = (9, p)) := Lib.hid (HN2.out.trans rfl)
          clear HN2
          go_wp2_with fail
          go_roundw
          case rel => exact ⟨i + 1, 9, p, by omega, by decide, by omega, by rfl, by rfl, by go_num, FW, H9⟩
          case measure => simp [RowKit.intOf]; omega
        · have H9 : Hid ((l.take (i + 1)).foldl Rgt.stepQ (0, 0) = (9, p)) := Lib.hid (HN2.out.trans rfl)
          clear HN2
          go_wp2_with fail
          go_roundw
          case rel => exact ⟨i + 1, 9, p, by omega, by decide, by omega, by rfl, by rfl, by go_num, FW, H9⟩
          case measure => simp [RowKit.intOf]; omega
      · rcases H5 with rfl | rfl | rfl | rfl | rfl
        · have H9 : Hid ((l.take (i + 1)).foldl Rgt.stepQ (0, 0) = (2, p)) := Lib.hid (HN2.out.trans rfl)
          clear HN2
          go_wp2_with fail
          go_roundw
          case rel => exact ⟨i + 1, 2, p, by omega, by decide, by omega, by rfl, by rfl, by go_num, FW, H9⟩
          case measure => simp [RowKit.intOf]; omega
        · have H9 : Hid ((l.take (i + 1)).foldl Rgt.stepQ (0, 0) = (9, p)) := Lib.hid (HN2.out.trans rfl)
          clear HN2
          go_wp2_with fail
          go_roundw
          case rel => exact ⟨i + 1, 9, p, by omega, by decide, by omega, by rfl, by rfl, by go_num, FW, H9⟩
          case measure => simp [RowKit.intOf]; omega
        · have H9 : Hid ((l.take (i + 1)).foldl Rgt.stepQ (0, 0) = (4, p)) := Lib.hid (HN2.out.trans rfl)
          clear HN2
          go_wp2_with fail
          go_roundw
          case rel => exact ⟨i + 1, 4, p, by omega, by decide, by omega, by rfl, by rfl, by go_num, FW, H9⟩
          case measure => simp [RowKit.intOf]; omega
        · have H9 : Hid ((l.take (i + 1)).foldl Rgt.stepQ (0, 0) = (9, p)) := Lib.hid (HN2.out.trans rfl)
          clear HN2
          go_wp2_with fail
          go_roundw
          case rel => exact ⟨i + 1, 9, p, by omega, by decide, by omega, by rfl, by rfl, by go_num, FW, H9⟩
          case measure => simp [RowKit.intOf]; omega
        · have H9 : Hid ((l.take (i + 1)).foldl Rgt.stepQ (0, 0) = (9, p)) := Lib.hid (HN2.out.trans rfl)
          clear HN2
          go_wp2_with fail
          go_roundw
          case rel => exact ⟨i + 1, 9, p, by omega, by decide, by omega, by rfl, by rfl, by go_num, FW, H9⟩
          case measure => simp [RowKit.intOf]; omega
      · rcases H5 with rfl | rfl | rfl | rfl | rfl
        · have H9 : Hid ((l.take (i + 1)).foldl Rgt.stepQ (0, 0) = (2, p)) := Lib.hid (HN2.out.trans rfl)
          clear HN2
          go_wp2_with fail
          go_roundw
          case rel => exact ⟨i + 1, 2, p, by omega, by decide, by omega, by rfl, by rfl, by go_num, FW, H9⟩
          case measure => simp [RowKit.intOf]; omega
        · have H9 : Hid ((l.take (i + 1)).foldl Rgt.stepQ (0, 0) = (9, p)) := Lib.hid (HN2.out.trans rfl)
          clear HN2
          go_wp2_with fail
          go_roundw
          case rel => exact ⟨i + 1, 9, p, by omega, by decide, by omega, by rfl, by rfl, by go_num, FW, H9⟩
          case measure => simp [RowKit.intOf]; omega
        · have H9 : Hid ((l.take (i + 1)).foldl Rgt.stepQ (0, 0) = (3, p)) := Lib.hid (HN2.out.trans rfl)
          clear HN2
          go_wp2_with fail
          go_roundw
          case rel => exact ⟨i + 1, 3, p, by omega, by decide, by omega, by rfl, by rfl, by go_num, FW, H9⟩
          case measure => simp [RowKit.intOf]; omega
        · have H9 : Hid ((l.take (i + 1)).foldl Rgt.stepQ (0, 0) = (6, p)) := Lib.hid (HN2.out.trans rfl)
          clear HN2
          go_wp2_with fail
          go_roundw
          case rel => exact ⟨i + 1, 6, p, by omega, by decide, by omega, by rfl, by rfl, by go_num, FW, H9⟩
          case measure => simp [RowKit.intOf]; omega
        · have H9 : Hid ((l.take (i + 1)).foldl Rgt.stepQ (0, 0) = (9, p)) := Lib.hid (HN2.out.trans rfl)
          clear HN2
          go_wp2_with fail
          go_roundw
          case rel => exact ⟨i + 1, 9, p, by omega, by decide, by omega, by rfl, by rfl, by go_num, FW, H9⟩
          case measure => simp [RowKit.intOf]; omega
      · rcases H5 with rfl | rfl | rfl | rfl | rfl
        · have H9 : Hid ((l.take (i + 1)).foldl Rgt.stepQ (0, 0) = (5, p)) := Lib.hid (HN2.out.trans rfl)
          clear HN2
          go_wp2_with fail
          go_roundw
          case rel => exact ⟨i + 1, 5, p, by omega, by decide, by omega, by rfl, by rfl, by go_num, FW, H9⟩
          case measure => simp [RowKit.intOf]; omega
        · have H9 : Hid ((l.take (i + 1)).foldl Rgt.stepQ (0, 0) = (9, p)) := Lib.hid (HN2.out.trans rfl)
          clear HN2
          go_wp2_with fail
          go_roundw
          case rel => exact ⟨i + 1, 9, p, by omega, by decide, by omega, by rfl, by rfl, by go_num, FW, H9⟩
          case measure => simp [RowKit.intOf]; omega
        · have H9 : Hid ((l.take (i + 1)).foldl Rgt.stepQ (0, 0) = (9, p)) := Lib.hid (HN2.out.trans rfl)
          clear HN2
          go_wp2_with fail
          go_roundw
          case rel => exact ⟨i + 1, 9, p, by omega, by decide, by omega, by rfl, by rfl, by go_num, FW, H9⟩
          case measure => simp [RowKit.intOf]; omega
        · have H9 : Hid ((l.take (i + 1)).foldl Rgt.stepQ (0, 0) = (6, p)) := Lib.hid (HN2.out.trans rfl)
          clear HN2
          go_wp2_with fail
          go_roundw
          case rel => exact ⟨i + 1, 6, p, by omega, by decide, by omega, by rfl, by rfl, by go_num, FW, H9⟩
          case measure => simp [RowKit.intOf]; omega
        · have H9 : Hid ((l.take (i + 1)).foldl Rgt.stepQ (0, 0) = (9, p)) := Lib.hid (HN2.out.trans rfl)
          clear HN2
          go_wp2_with fail
          go_roundw
          case rel => exact ⟨i + 1, 9, p, by omega, by decide, by omega, by rfl, by rfl, by go_num, FW, H9⟩
          case measure => simp [RowKit.intOf]; omega
      · rcases H5 with rfl | rfl | rfl | rfl | rfl
        · have H9 : Hid ((l.take (i + 1)).foldl Rgt.stepQ (0, 0) = (5, p)) := Lib.hid (HN2.out.trans rfl)
          clear HN2
          go_wp2_with fail
          go_roundw
          case rel => exact ⟨i + 1, 5, p, by omega, by decide, by omega, by rfl, by rfl, by go_num, FW, H9⟩
          case measure => simp [RowKit.intOf]; omega
        · have H9 : Hid ((l.take (i + 1)).foldl Rgt.stepQ (0, 0) = (9, p)) := Lib.hid (HN2.out.trans rfl)
          clear HN2
          go_wp2_with fail
          go_roundw
          case rel => exact ⟨i + 1, 9, p, by omega, by decide, by omega, by rfl, by rfl, by go_num, FW, H9⟩
          case measure => simp [RowKit.intOf]; omega
        · have H9 : Hid ((l.take (i + 1)).foldl Rgt.stepQ (0, 0) = (9, p)) := Lib.hid (HN2.out.trans rfl)
          clear HN2
          go_wp2_with fail
          go_roundw
          case rel => exact ⟨i + 1, 9, p, by omega, by decide, by omega, by rfl, by rfl, by go_num, FW, H9⟩
          case measure => simp [RowKit.intOf]; omega
        · have H9 : Hid ((l.take (i + 1)).foldl Rgt.stepQ (0, 0) = (9, p)) := Lib.hid (HN2.out.trans rfl)
          clear HN2
          go_wp2_with fail
          go_roundw
          case rel => exact ⟨i + 1, 9, p, by omega, by decide, by omega, by rfl, by rfl, by go_num, FW, H9⟩
          case measure => simp [RowKit.intOf]; omega
        · have H9 : Hid ((l.take (i + 1)).foldl Rgt.stepQ (0, 0) = (9, p)) := Lib.hid (HN2.out.trans rfl)
          clear HN2
          go_wp2_with fail
          go_roundw
          case rel => exact ⟨i + 1, 9, p, by omega, by decide, by omega, by rfl, by rfl, by go_num, FW, H9⟩
          case measure => simp [RowKit.intOf]; omega
      · rcases H5 with rfl | rfl | rfl | rfl | rfl
        · have H9 : Hid ((l.take (i + 1)).foldl Rgt.stepQ (0, 0) = (5, p)) := Lib.hid (HN2.out.trans rfl)
          clear HN2
          go_wp2_with fail
          go_roundw
          case rel => exact ⟨i + 1, 5, p, by omega, by decide, by omega, by rfl, by rfl, by go_num, FW, H9⟩
          case measure => simp [RowKit.intOf]; omega
        · have H9 : Hid ((l.take (i + 1)).foldl Rgt.stepQ (0, 0) = (9, p)) := Lib.hid (HN2.out.trans rfl)
          clear HN2
          go_wp2_with fail
          go_roundw
          case rel => exact ⟨i + 1, 9, p, by omega, by decide, by omega, by rfl, by rfl, by go_num, FW, H9⟩
          case measure => simp [RowKit.intOf]; omega
        · have H9 : Hid ((l.take (i + 1)).foldl Rgt.stepQ (0, 0) = (9, p)) := Lib.hid (HN2.out.trans rfl)
          clear HN2
          go_wp2_with fail
          go_roundw
          case rel => exact ⟨i + 1, 9, p, by omega, by decide, by omega, by rfl, by rfl, by go_num, FW, H9⟩
          case measure => simp [RowKit.intOf]; omega
        · have H9 : Hid ((l.take (i + 1)).foldl Rgt.stepQ (0, 0) = (6, p)) := Lib.hid (HN2.out.trans rfl)
          clear HN2
          go_wp2_with fail
          go_roundw
          case rel => exact ⟨i + 1, 6, p, by omega, by decide, by omega, by rfl, by rfl, by go_num, FW, H9⟩
          case measure => simp [RowKit.intOf]; omega
        · have H9 : Hid ((l.take (i + 1)).foldl Rgt.stepQ (0, 0) = (9, p)) := Lib.hid (HN2.out.trans rfl)
          clear HN2
          go_wp2_with fail
          go_roundw
          case rel => exact ⟨i + 1, 9, p, by omega, by decide, by omega, by rfl, by rfl, by go_num, FW, H9⟩
          case measure => simp [RowKit.intOf]; omega
      · rcases H5 with rfl | rfl | rfl | rfl | rfl
        · have H9 : Hid ((l.take (i + 1)).foldl Rgt.stepQ (0, 0) = (8, p + 1)) := Lib.hid (HN2.out.trans rfl)
          clear HN2
          go_wp2_with fail
          go_roundw
          case rel => exact ⟨i + 1, 8, p + 1, by omega, by decide, by omega, by rfl, by go_num, by go_num, FW, H9⟩
          case measure => simp [RowKit.intOf]; omega
        · have H9 : Hid ((l.take (i + 1)).foldl Rgt.stepQ (0, 0) = (7, p)) := Lib.hid (HN2.out.trans rfl)
          clear HN2
          go_wp2_with fail
          go_roundw
          case rel => exact ⟨i + 1, 7, p, by omega, by decide, by omega, by rfl, by rfl, by go_num, FW, H9⟩
          case measure => simp [RowKit.intOf]; omega
        · have H9 : Hid ((l.take (i + 1)).foldl Rgt.stepQ (0, 0) = (9, p)) := Lib.hid (HN2.out.trans rfl)
          clear HN2
          go_wp2_with fail
          go_roundw
          case rel => exact ⟨i + 1, 9, p, by omega, by decide, by omega, by rfl, by rfl, by go_num, FW, H9⟩
          case measure => simp [RowKit.intOf]; omega
        · have H9 : Hid ((l.take (i + 1)).foldl Rgt.stepQ (0, 0) = (9, p)) := Lib.hid (HN2.out.trans rfl)
          clear HN2
          go_wp2_with fail
          go_roundw
          case rel => exact ⟨i + 1, 9, p, by omega, by decide, by omega, by rfl, by rfl, by go_num, FW, H9⟩
          case measure => simp [RowKit.intOf]; omega
        · have H9 : Hid ((l.take (i + 1)).foldl Rgt.stepQ (0, 0) = (9, p)) := Lib.hid (HN2.out.trans rfl)
          clear HN2
          go_wp2_with fail
          go_roundw
          case rel => exact ⟨i + 1, 9, p, by omega, by decide, by omega, by rfl, by rfl, by go_num, FW, H9⟩
          case measure => simp [RowKit.intOf]; omega
      · rcases H5 with rfl | rfl | rfl | rfl | rfl
        · have H9 : Hid ((l.take (i + 1)).foldl Rgt.stepQ (0, 0) = (8, p + 1)) := Lib.hid (HN2.out.trans rfl)
          clear HN2
          go_wp2_with fail
          go_roundw
          case rel => exact ⟨i + 1, 8, p + 1, by omega, by decide, by omega, by rfl, by go_num, by go_num, FW, H9⟩
          case measure => simp [RowKit.intOf]; omega
        · have H9 : Hid ((l.take (i + 1)).foldl Rgt.stepQ (0, 0) = (9, p)) := Lib.hid (HN2.out.trans rfl)
          clear HN2
          go_wp2_with fail
          go_roundw
          case rel => exact ⟨i + 1, 9, p, by omega, by decide, by omega, by rfl, by rfl, by go_num, FW, H9⟩
          case measure => simp [RowKit.intOf]; omega
        · have H9 : Hid ((l.take (i + 1)).foldl Rgt.stepQ (0, 0) = (9, p)) := Lib.hid (HN2.out.trans rfl)
          clear HN2
          go_wp2_with fail
          go_roundw
          case rel => exact ⟨i + 1, 9, p, by omega, by decide, by omega, by rfl, by rfl, by go_num, FW, H9⟩
          case measure => simp [RowKit.intOf]; omega
        · have H9 : Hid ((l.take (i + 1)).foldl Rgt.stepQ (0, 0) = (9, p)) := Lib.hid (HN2.out.trans rfl)
          clear HN2
          go_wp2_with fail
          go_roundw
          case rel => exact ⟨i + 1, 9, p, by omega, by decide, by omega, by rfl, by rfl, by go_num, FW, H9⟩
          case measure => simp [RowKit.intOf]; omega
        · have H9 : Hid ((l.take (i + 1)).foldl Rgt.stepQ (0, 0) = (9, p)) := Lib.hid (HN2.out.trans rfl)
          clear HN2
          go_wp2_with fail
          go_roundw
          case rel => exact ⟨i + 1, 9, p, by omega, by decide, by omega, by rfl, by rfl, by go_num, FW, H9⟩
          case measure => simp [RowKit.intOf]; omega
      · rcases H5 with rfl | rfl | rfl | rfl | rfl
        · have H9 : Hid ((l.take (i + 1)).foldl Rgt.stepQ (0, 0) = (8, p + 1)) := Lib.hid (HN2.out.trans rfl)
          clear HN2
          go_wp2_with fail
          go_roundw
          case rel => exact ⟨i + 1, 8, p + 1, by omega, by decide, by omega, by rfl, by go_num, by go_num, FW, H9⟩
          case measure => simp [RowKit.intOf]; omega
        · have H9 : Hid ((l.take (i + 1)).foldl Rgt.stepQ (0, 0) = (9, p)) := Lib.hid (HN2.out.trans rfl)
          clear HN2
          go_wp2_with fail
          go_roundw
          case rel => exact ⟨i + 1, 9, p, by omega, by decide, by omega, by rfl, by rfl, by go_num, FW, H9⟩
          case measure => simp [RowKit.intOf]; omega
        · have H9 : Hid ((l.take (i + 1)).foldl Rgt.stepQ (0, 0) = (9, p)) := Lib.hid (HN2.out.trans rfl)
          clear HN2
          go_wp2_with fail
          go_roundw
          case rel => exact ⟨i + 1, 9, p, by omega, by decide, by omega, by rfl, by rfl, by go_num, FW, H9⟩
          case measure => simp [RowKit.intOf]; omega
        · have H9 : Hid ((l.take (i + 1)).foldl Rgt.stepQ (0, 0) = (9, p)) := Lib.hid (HN2.out.trans rfl)
          clear HN2
          go_wp2_with fail
          go_roundw
          case rel => exact ⟨i + 1, 9, p, by omega, by decide, by omega, by rfl, by rfl, by go_num, FW, H9⟩
          case measure => simp [RowKit.intOf]; omega
        · have H9 : Hid ((l.take (i + 1)).foldl Rgt.stepQ (0, 0) = (9, p)) := Lib.hid (HN2.out.trans rfl)
          clear HN2
          go_wp2_with fail
          go_roundw
          case rel => exact ⟨i + 1, 9, p, by omega, by decide, by omega, by rfl, by rfl, by go_num, FW, H9⟩
          case measure => simp [RowKit.intOf]; omega
      · rcases H5 with rfl | rfl | rfl | rfl | rfl
        · have H9 : Hid ((l.take (i + 1)).foldl Rgt.stepQ (0, 0) = (9, p)) := Lib.hid (HN2.out.trans rfl)
          clear HN2
          go_wp2_with fail
          go_roundw
          case rel => exact ⟨i + 1, 9, p, by omega, by decide, by omega, by rfl, by rfl, by go_num, FW, H9⟩
          case measure => simp [RowKit.intOf]; omega
        · have H9 : Hid ((l.take (i + 1)).foldl Rgt.stepQ (0, 0) = (9, p)) := Lib.hid (HN2.out.trans rfl)
          clear HN2
          go_wp2_with fail
          go_roundw
          case rel => exact ⟨i + 1, 9, p, by omega, by decide, by omega, by rfl, by rfl, by go_num, FW, H9⟩
          case measure => simp [RowKit.intOf]; omega
        · have H9 : Hid ((l.take (i + 1)).foldl Rgt.stepQ (0, 0) = (9, p)) := Lib.hid (HN2.out.trans rfl)
          clear HN2
          go_wp2_with fail
          go_roundw
          case rel => exact ⟨i + 1, 9, p, by omega, by decide, by omega, by rfl, by rfl, by go_num, FW, H9⟩
          case measure => simp [RowKit.intOf]; omega
        · have H9 : Hid ((l.take (i + 1)).foldl Rgt.stepQ (0, 0) = (9, p)) := Lib.hid (HN2.out.trans rfl)
          clear HN2
          go_wp2_with fail
          go_roundw
          case rel => exact ⟨i + 1, 9, p, by omega, by decide, by omega, by rfl, by rfl, by go_num, FW, H9⟩
          case measure => simp [RowKit.intOf]; omega
        · have H9 : Hid ((l.take (i + 1)).foldl Rgt.stepQ (0, 0) = (9, p)) := Lib.hid (HN2.out.trans rfl)
          clear HN2
          go_wp2_with fail
          go_roundw
          case rel => exact ⟨i + 1, 9, p, by omega, by decide, by omega, by rfl, by rfl, by go_num, FW, H9⟩
          case measure => simp [RowKit.intOf]; omega
    · have hil : i = l.length := by omega
      have HR : Hid (Rgt.refRight l = (decide (st = 3) || decide (st = 5) || (decide (st = 8) && decide (p ≤ 4)))) := Lib.hid (by
        unfold Rgt.refRight
        have := HQ.out
        rw [hil, List.take_length] at this
        rw [this]; rfl)
      clear HQ
      by_cases s3 : st = 3
      · subst s3
        have HE : Hid (Rgt.refRight l = true) := Lib.hid (by rw [HR.out]; rfl)
        go_wp2_with fail
        go_ret
        rw [HE.out]
        exact ⟨rfl, FW.out⟩
      · have g3 : ((st : Int) == 3) = false := by rw [beq_eq_false_iff_ne]; omega
        by_cases s5 : st = 5
        · subst s5
          have HE : Hid (Rgt.refRight l = true) := Lib.hid (by rw [HR.out]; rfl)
          go_wp2_with fail
          go_ret
          rw [HE.out]
          exact ⟨rfl, FW.out⟩
        · have g5 : ((st : Int) == 5) = false := by rw [beq_eq_false_iff_ne]; omega
          by_cases s8 : st = 8
          · subst s8
            by_cases hp : p ≤ 4
            · have HE : Hid (Rgt.refRight l = true) := Lib.hid (by rw [HR.out, decide_eq_true hp]; rfl)
              have gp : (p : Int) ≤ 4 := by omega
              go_wp2_with fail
              go_ret
              rw [HE.out]
              exact ⟨rfl, FW.out⟩
            · have HE : Hid (Rgt.refRight l = false) := Lib.hid (by rw [HR.out, decide_eq_false hp]; rfl)
              have gp : ¬ (p : Int) ≤ 4 := by omega
              go_wp2_with fail
              go_ret
              rw [HE.out]
              exact ⟨rfl, FW.out⟩
          · have g8 : ((st : Int) == 8) = false := by rw [beq_eq_false_iff_ne]; omega
            have HE : Hid (Rgt.refRight l = false) := Lib.hid (by rw [HR.out, decide_eq_false s3, decide_eq_false s5, decide_eq_false s8]; rfl)
            clear s3 s5 s8
            go_wp2_with fail
            go_ret
            rw [HE.out]
            exact ⟨rfl, FW.out⟩
theorem scpf_c (l : List UInt8) (a m x y : Nat) (hS : Rdf.Shp (Rdf.bt l) l.length a m x y) (hl : l.length ≤ 800) (hSlow : Slow l) : ∃ r : Nat, r < 18446744073709551616 ∧ ∀ w : World, LdX w → Calls Tryz.prog 24 #[.string (ba l), .int .i64 64] w fun e w' => (∃ ev, e = .returned (.tuple #[.float .f64 r, ev])) ∧ Fr [] w w' := by
  obtain ⟨r, er, hr, her, CA⟩ := atof64_c l a m x y hS hl hSlow
  refine ⟨r, hr, fun w HX => ?_⟩
  have hsz := ba_size l
  have CP : Hid (Calls Tryz.prog 103 #[.string (ba l), .int .i64 64] w fun e w' => e = .returned (.tuple #[.float .f64 r, .int .i64 (l.length : Int), er]) ∧ Fr [] w w') := Lib.hid (by
    have CA := Lib.hid (CA w HX)
    clear HX
    go_enter Tryz.func103, Tryz.ntmps103
    go_wp2_with fail
    refine CA.out.mono ?_
    rintro e w' ⟨rfl, F1⟩
    go_wp2_with fail
    go_ret3
    exact ⟨rfl, F1⟩)
  have CI : Hid (Calls Tryz.prog 62 #[.string (ba l), .int .i64 64] w fun e w' => e = .returned (.tuple #[.float .f64 r, er]) ∧ Fr [] w w') := Lib.hid (by
    go_enter Tryz.func62, Tryz.ntmps62
    go_wp2_with fail
    refine CP.out.mono ?_
    rintro e w' ⟨rfl, F1⟩
    go_wp2_with fail
    go_ret2
    exact ⟨rfl, F1⟩)
  obtain ⟨ev, hev1, hev2⟩ := HX.err
  have HE := Lib.hid (fun (w1 : World) (h : Fr [] w w1) => Tryz.strconv_toError_range ⟨#[80, 97, 114, 115, 101, 70, 108, 111, 97, 116]⟩ (ba l) 0 64 ev w1 (by rw [hsz]; omega) (cell_keep h hev1) hev2)
  clear CP HX hS
  rcases her with rfl | rfl
  · go_enter Tryz.func24, Tryz.ntmps24
    go_wp2_with fail
    refine CI.out.mono ?_
    rintro e w' ⟨rfl, F1⟩
    go_wp2_with fail
    go_ret2
    exact ⟨⟨_, rfl⟩, F1⟩
  · go_enter Tryz.func24, Tryz.ntmps24
    go_wp2_with fail
    refine CI.out.mono ?_
    rintro e w' ⟨rfl, F1⟩
    have F1 := Lib.hid F1
    have HE := Lib.hid (HE.out w' F1.out)
    go_wp2_with fail
    refine HE.out.mono ?_
    rintro e w2 ⟨N, rfl, _, _, hb⟩
    have F2 := Lib.hid (F1.out.same (fr_of_below hb))
    clear hb
    go_wp2_with fail
    go_ret2
    exact ⟨⟨_, rfl⟩, F2.out⟩
theorem loop_eq (bs : ByteArray) : ∀ (n i : Nat) (r : List UInt8), bs.size - i = n → ByteArray.toList.loop bs i r = r.reverse ++ bs.data.toList.drop i := by
  have hs : bs.size = bs.data.toList.length := by cases bs; simp [ByteArray.size]
  intro n
  induction n with
  | zero =>
    intro i r h
    rw [ByteArray.toList.loop, if_neg (by omega), List.drop_of_length_le (by omega), List.append_nil]
  | succ n ih =>
    intro i r h
    have hi : i < bs.size := by omega
    have hi2 : i < bs.data.toList.length := by omega
    rw [ByteArray.toList.loop, if_pos hi, ih (i + 1) _ (by omega), List.reverse_cons, List.append_assoc]
    congr 1
    rw [List.drop_eq_getElem_cons hi2]
    have : bs.get! i = bs.data.toList[i] := by
      show bs.data[i]! = _
      have hi3 : i < bs.data.size := by simpa using hi2
      rw [getElem!_pos bs.data i hi3]
      simp
    rw [this]; rfl
theorem ba_toList (l : List UInt8) : (ba l).toList = l := by
  have := loop_eq (ba l) _ 0 [] rfl
  simpa [ByteArray.toList, ba] using this
theorem infm_c (w : World) : Calls Tryz.prog 22 #[.int .i64 (-1)] w fun e w' => e = .returned (.float .f64 18442240474082181120) ∧ w = w' := by
  have hf : ∀ w, (callFunc 8 #[.int .u64 18442240474082181120]).run Tryz.prog w = .ok (.value (.float .f64 18442240474082181120)) w := fun w => from_run 18442240474082181120 w
  go_enter Tryz.func22, Tryz.ntmps22
  go_wp2
  go_ret
  exact ⟨rfl, rfl⟩
def nanB : List UInt8 := [43, 110, 97, 110, 46, 48]
def pinfB : List UInt8 := [43, 105, 110, 102, 46, 48]
def minfB : List UInt8 := [45, 105, 110, 102, 46, 48]
theorem name_facts (l : List UInt8) : ((ba l).toList == [43, 110, 97, 110, 46, 48]) = decide (l = nanB) ∧ ((ba l).toList == [43, 105, 110, 102, 46, 48]) = decide (l = pinfB) ∧ ((ba l).toList == [45, 105, 110, 102, 46, 48]) = decide (l = minfB) := by
  rw [ba_toList]
  refine ⟨?_, ?_, ?_⟩ <;> (rw [Bool.eq_iff_iff, beq_iff_eq, decide_eq_true_iff]; exact Iff.rfl)
set_option maxRecDepth 100000 in
theorem flp_nan (w : World) : Calls Tryz.prog 6 #[.string (ba nanB)] w fun e w' => e = .returned (.tuple #[.float .f64 9221120237041090561, .int .i64 0]) ∧ Fr [] w w' := by
  obtain ⟨n1, n2, n3⟩ := name_facts nanB
  rw [show decide (nanB = nanB) = true by decide] at n1
  rw [show decide (nanB = pinfB) = false by decide] at n2
  rw [show decide (nanB = minfB) = false by decide] at n3
  generalize ba nanB = S at *
  have hf : ∀ w, (callFunc 8 #[.int .u64 9221120237041090561]).run Tryz.prog w = .ok (.value (.float .f64 9221120237041090561)) w := fun w => from_run 9221120237041090561 w
  go_enter Tryz.func6, Tryz.ntmps6
  go_wp2_with fail
  go_ret2
  exact ⟨rfl, Fr.refl _ _⟩
set_option maxRecDepth 100000 in
theorem flp_pinf (w : World) : Calls Tryz.prog 6 #[.string (ba pinfB)] w fun e w' => e = .returned (.tuple #[.float .f64 9218868437227405312, .int .i64 0]) ∧ Fr [] w w' := by
  obtain ⟨n1, n2, n3⟩ := name_facts pinfB
  rw [show decide (pinfB = nanB) = false by decide] at n1
  rw [show decide (pinfB = pinfB) = true by decide] at n2
  rw [show decide (pinfB = minfB) = false by decide] at n3
  generalize ba pinfB = S at *
  go_enter Tryz.func6, Tryz.ntmps6
  go_wp2_with fail
  refine (inf1_c _).mono ?_
  rintro e w' ⟨rfl, rfl⟩
  go_wp2_with fail
  go_ret2
  exact ⟨rfl, Fr.refl _ _⟩
set_option maxRecDepth 100000 in
theorem flp_minf (w : World) : Calls Tryz.prog 6 #[.string (ba minfB)] w fun e w' => e = .returned (.tuple #[.float .f64 18442240474082181120, .int .i64 0]) ∧ Fr [] w w' := by
  obtain ⟨n1, n2, n3⟩ := name_facts minfB
  rw [show decide (minfB = nanB) = false by decide] at n1
  rw [show decide (minfB = pinfB) = false by decide] at n2
  rw [show decide (minfB = minfB) = true by decide] at n3
  generalize ba minfB = S at *
  go_enter Tryz.func6, Tryz.ntmps6
  go_wp2_with fail
  refine (infm_c _).mono ?_
  rintro e w' ⟨rfl, rfl⟩
  go_wp2_with fail
  go_ret2
  exact ⟨rfl, Fr.refl _ _⟩
set_option maxRecDepth 100000 in
theorem flp_long (l : List UInt8) (hl : 700 < l.length) (h8 : l.length ≤ 800) (w : World) (h1 : l ≠ nanB) (h2 : l ≠ pinfB) (h3 : l ≠ minfB) : Calls Tryz.prog 6 #[.string (ba l)] w fun e w' => e = .returned (.tuple #[.float .f64 0, .int .i64 31]) ∧ Fr [] w w' := by
  obtain ⟨n1, n2, n3⟩ := name_facts l
  rw [decide_eq_false h1] at n1
  rw [decide_eq_false h2] at n2
  rw [decide_eq_false h3] at n3
  have hsz := ba_size l
  generalize ba l = S at *
  clear h1 h2 h3
  go_enter Tryz.func6, Tryz.ntmps6
  go_wp2_with fail
  go_ret2
  exact ⟨rfl, Fr.refl _ _⟩
set_option maxRecDepth 100000 in
theorem flp_bad (l : List UInt8) (hl : l.length ≤ 700) (hr : Rgt.floRight l = false) (w : World) (h1 : l ≠ nanB) (h2 : l ≠ pinfB) (h3 : l ≠ minfB) : Calls Tryz.prog 6 #[.string (ba l)] w fun e w' => e = .returned (.tuple #[.float .f64 0, .int .i64 31]) ∧ Fr [] w w' := by
  obtain ⟨n1, n2, n3⟩ := name_facts l
  rw [decide_eq_false h1] at n1
  rw [decide_eq_false h2] at n2
  rw [decide_eq_false h3] at n3
  have CR := Lib.hid (by have := flright_g l (by omega) w; rw [hr] at this; exact this)
  have hsz := ba_size l
  generalize ba l = S at *
  clear h1 h2 h3 hr
  go_enter Tryz.func6, Tryz.ntmps6
  go_wp2_with fail
  refine CR.out.mono ?_
  rintro e w' ⟨rfl, F1⟩
  have F1 := Lib.hid F1
  go_wp2_with fail
  go_ret2
  exact ⟨rfl, F1.out⟩
set_option maxRecDepth 100000 in
theorem flp_good (l : List UInt8) (hl : l.length ≤ 700) (hr : Rgt.floRight l = true) (w : World) (h1 : l ≠ nanB) (h2 : l ≠ pinfB) (h3 : l ≠ minfB) (f : Nat) (HX : LdX w)
    (CP : ∀ w : World, LdX w → Calls Tryz.prog 24 #[.string (ba l), .int .i64 64] w fun e w' => (∃ ev, e = .returned (.tuple #[.float .f64 f, ev])) ∧ Fr [] w w') : Calls Tryz.prog 6 #[.string (ba l)] w fun e w' => e = .returned (.tuple #[.float .f64 f, .int .i64 0]) ∧ Fr [] w w' := by
  obtain ⟨n1, n2, n3⟩ := name_facts l
  rw [decide_eq_false h1] at n1
  rw [decide_eq_false h2] at n2
  rw [decide_eq_false h3] at n3
  have CR := Lib.hid (by have := flright_g l (by omega) w; rw [hr] at this; exact this)
  have hsz := ba_size l
  have CP := Lib.hid CP
  generalize ba l = S at *
  clear h1 h2 h3 hr
  go_enter Tryz.func6, Tryz.ntmps6
  go_wp2_with fail
  refine CR.out.mono ?_
  rintro e w2 ⟨rfl, F1⟩
  have F1 := Lib.hid F1
  have CP2 := Lib.hid (CP.out w2 (HX.fr F1.out))
  go_wp2_with fail
  refine CP2.out.mono ?_
  rintro e w3 ⟨⟨ev, rfl⟩, F3⟩
  have F3 := Lib.hid (F1.out.same F3)
  go_wp2_with fail
  go_ret2
  exact ⟨rfl, F3.out⟩
set_option maxRecDepth 100000 in
theorem rp3_nan (w : World) : Calls Tryz.prog 7 #[.string (ba nanB)] w fun e w' => e = .returned (.tuple #[.float .f64 9221120237041090561, .int .i64 0]) ∧ Fr [] w w' := by
  obtain ⟨n1, n2, n3⟩ := name_facts nanB
  rw [show decide (nanB = nanB) = true by decide] at n1
  rw [show decide (nanB = pinfB) = false by decide] at n2
  rw [show decide (nanB = minfB) = false by decide] at n3
  generalize ba nanB = S at *
  have hf : ∀ w, (callFunc 8 #[.int .u64 9221120237041090561]).run Tryz.prog w = .ok (.value (.float .f64 9221120237041090561)) w := fun w => from_run 9221120237041090561 w
  go_enter Tryz.func7, Tryz.ntmps7
  go_wp2_with fail
  go_ret2
  exact ⟨rfl, Fr.refl _ _⟩
set_option maxRecDepth 100000 in
theorem rp3_pinf (w : World) : Calls Tryz.prog 7 #[.string (ba pinfB)] w fun e w' => e = .returned (.tuple #[.float .f64 9218868437227405312, .int .i64 0]) ∧ Fr [] w w' := by
  obtain ⟨n1, n2, n3⟩ := name_facts pinfB
  rw [show decide (pinfB = nanB) = false by decide] at n1
  rw [show decide (pinfB = pinfB) = true by decide] at n2
  rw [show decide (pinfB = minfB) = false by decide] at n3
  generalize ba pinfB = S at *
  have hf : ∀ w, (callFunc 8 #[.int .u64 9218868437227405312]).run Tryz.prog w = .ok (.value (.float .f64 9218868437227405312)) w := fun w => from_run 9218868437227405312 w
  go_enter Tryz.func7, Tryz.ntmps7
  go_wp2_with fail
  go_ret2
  exact ⟨rfl, Fr.refl _ _⟩
set_option maxRecDepth 100000 in
theorem rp3_minf (w : World) : Calls Tryz.prog 7 #[.string (ba minfB)] w fun e w' => e = .returned (.tuple #[.float .f64 18442240474082181120, .int .i64 0]) ∧ Fr [] w w' := by
  obtain ⟨n1, n2, n3⟩ := name_facts minfB
  rw [show decide (minfB = nanB) = false by decide] at n1
  rw [show decide (minfB = pinfB) = false by decide] at n2
  rw [show decide (minfB = minfB) = true by decide] at n3
  generalize ba minfB = S at *
  have hf : ∀ w, (callFunc 8 #[.int .u64 18442240474082181120]).run Tryz.prog w = .ok (.value (.float .f64 18442240474082181120)) w := fun w => from_run 18442240474082181120 w
  go_enter Tryz.func7, Tryz.ntmps7
  go_wp2_with fail
  go_ret2
  exact ⟨rfl, Fr.refl _ _⟩
set_option maxRecDepth 100000 in
theorem rp3_long (l : List UInt8) (hl : 700 < l.length) (h8 : l.length ≤ 800) (w : World) (h1 : l ≠ nanB) (h2 : l ≠ pinfB) (h3 : l ≠ minfB) : Calls Tryz.prog 7 #[.string (ba l)] w fun e w' => e = .returned (.tuple #[.float .f64 0, .int .i64 31]) ∧ Fr [] w w' := by
  obtain ⟨n1, n2, n3⟩ := name_facts l
  rw [decide_eq_false h1] at n1
  rw [decide_eq_false h2] at n2
  rw [decide_eq_false h3] at n3
  have hsz := ba_size l
  generalize ba l = S at *
  clear h1 h2 h3
  go_enter Tryz.func7, Tryz.ntmps7
  go_wp2_with fail
  go_ret2
  exact ⟨rfl, Fr.refl _ _⟩
set_option maxRecDepth 100000 in
theorem rp3_bad (l : List UInt8) (hl : l.length ≤ 700) (hr : Rgt.refRight l = false) (w : World) (h1 : l ≠ nanB) (h2 : l ≠ pinfB) (h3 : l ≠ minfB) : Calls Tryz.prog 7 #[.string (ba l)] w fun e w' => e = .returned (.tuple #[.float .f64 0, .int .i64 31]) ∧ Fr [] w w' := by
  obtain ⟨n1, n2, n3⟩ := name_facts l
  rw [decide_eq_false h1] at n1
  rw [decide_eq_false h2] at n2
  rw [decide_eq_false h3] at n3
  have CR := Lib.hid (by have := r3right_g l (by omega) w; rw [hr] at this; exact this)
  have hsz := ba_size l
  generalize ba l = S at *
  clear h1 h2 h3 hr
  go_enter Tryz.func7, Tryz.ntmps7
  go_wp2_with fail
  refine CR.out.mono ?_
  rintro e w' ⟨rfl, F1⟩
  have F1 := Lib.hid F1
  go_wp2_with fail
  go_ret2
  exact ⟨rfl, F1.out⟩
set_option maxRecDepth 100000 in
theorem rp3_good (l : List UInt8) (hl : l.length ≤ 700) (hr : Rgt.refRight l = true) (w : World) (h1 : l ≠ nanB) (h2 : l ≠ pinfB) (h3 : l ≠ minfB) (f : Nat) (HX : LdX w)
    (CP : ∀ w : World, LdX w → Calls Tryz.prog 24 #[.string (ba l), .int .i64 64] w fun e w' => (∃ ev, e = .returned (.tuple #[.float .f64 f, ev])) ∧ Fr [] w w') : Calls Tryz.prog 7 #[.string (ba l)] w fun e w' => e = .returned (.tuple #[.float .f64 f, .int .i64 0]) ∧ Fr [] w w' := by
  obtain ⟨n1, n2, n3⟩ := name_facts l
  rw [decide_eq_false h1] at n1
  rw [decide_eq_false h2] at n2
  rw [decide_eq_false h3] at n3
  have CR := Lib.hid (by have := r3right_g l (by omega) w; rw [hr] at this; exact this)
  have hsz := ba_size l
  have CP := Lib.hid CP
  generalize ba l = S at *
  clear h1 h2 h3 hr
  go_enter Tryz.func7, Tryz.ntmps7
  go_wp2_with fail
  refine CR.out.mono ?_
  rintro e w2 ⟨rfl, F1⟩
  have F1 := Lib.hid F1
  have CP2 := Lib.hid (CP.out w2 (HX.fr F1.out))
  go_wp2_with fail
  refine CP2.out.mono ?_
  rintro e w3 ⟨⟨ev, rfl⟩, F3⟩
  have F3 := Lib.hid (F1.out.same F3)
  go_wp2_with fail
  go_ret2
  exact ⟨rfl, F3.out⟩
theorem parse_c (l : List UInt8) (hl : l.length ≤ 800) (hSlow : Rgt.floRight l = true → l.length ≤ 700 → Slow l) : ∃ (f e : Nat), f < 18446744073709551616 ∧
    (∀ w : World, LdX w → Calls Tryz.prog 6 #[.string (ba l)] w fun x w' => x = .returned (.tuple #[.float .f64 f, .int .i64 (e : Int)]) ∧ Fr [] w w') ∧
    (∀ w : World, LdX w → Calls Tryz.prog 7 #[.string (ba l)] w fun x w' => x = .returned (.tuple #[.float .f64 f, .int .i64 (e : Int)]) ∧ Fr [] w w') := by
  by_cases h1 : l = nanB
  · subst h1
    exact ⟨9221120237041090561, 0, by decide, fun w _ => flp_nan w, fun w _ => rp3_nan w⟩
  · by_cases h2 : l = pinfB
    · subst h2
      exact ⟨9218868437227405312, 0, by decide, fun w _ => flp_pinf w, fun w _ => rp3_pinf w⟩
    · by_cases h3 : l = minfB
      · subst h3
        exact ⟨18442240474082181120, 0, by decide, fun w _ => flp_minf w, fun w _ => rp3_minf w⟩
      · by_cases h7 : 700 < l.length
        · exact ⟨0, 31, by decide, fun w _ => flp_long l h7 hl w h1 h2 h3, fun w _ => rp3_long l h7 hl w h1 h2 h3⟩
        · have h7' : l.length ≤ 700 := by omega
          cases hr : Rgt.floRight l with
          | false =>
            have hr2 : Rgt.refRight l = false := by rw [Rgt.right_same, hr]
            exact ⟨0, 31, by decide, fun w _ => flp_bad l h7' hr w h1 h2 h3, fun w _ => rp3_bad l h7' hr2 w h1 h2 h3⟩
          | true =>
            have hr2 : Rgt.refRight l = true := by rw [Rgt.right_same, hr]
            obtain ⟨a, m, x, y, hS⟩ := Rdf.shp_of hr
            obtain ⟨f, hf, CP⟩ := scpf_c l a m x y hS hl (hSlow hr h7')
            exact ⟨f, 0, hf, fun w HX => flp_good l h7' hr w h1 h2 h3 f HX CP, fun w HX => rp3_good l h7' hr2 w h1 h2 h3 f HX CP⟩
end
end Go.Proofs.YtcjkgnafpkkjmaaGreatDoor
