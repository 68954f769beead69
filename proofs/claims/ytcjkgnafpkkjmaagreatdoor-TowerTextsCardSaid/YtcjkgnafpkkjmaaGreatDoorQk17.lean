/- The texts and numbers of numbers: a part of the walk. No condition. -/
import Derived.Test.YtcjkgnafpkkjmaaGreatDoorQk16
import Derived.WalkMore
set_option linter.all false
section
namespace Go.Proofs.YtcjkgnafpkkjmaaGreatDoor
open Go.ChangeShapes Go.WideShapes Go.RowKit Go.Shelf
theorem bytes_conv (w : World) (s : ByteArray) : ∃ c W1, (convert 9 123 (.string s)).run Tryz.prog w = .ok (.slice (some ⟨w.heap.size, 0, none⟩) s.size c) W1 ∧ (∀ i (h : i < s.data.size), W1.cell? ⟨w.heap.size, i, none⟩ = some (.int .u8 (s.data[i].toNat : Int))) ∧ Fr [] w W1 := by
  refine ⟨_, _, run_bytes_of_string w 9 123 5 s Tryz.underlying9 Tryz.underlying123 Tryz.underlying5, fun i h => ?_, ((Fr.refl _ _).drew).alloc _⟩
  have hb := bytesRow_at s (grownCap w s.size 0 5) i h
  have hk : ∀ (o : Obj), (w.drew.alloc o).heap[w.heap.size]? = some o := fun o => heap_alloc_new w.drew o
  simp only [World.cell?, hk]
  exact hb
set_option maxRecDepth 100000 in
theorem cut_e21 (w : World) : Calls Tryz.prog 30 #[.string ⟨#[49, 101, 43, 50, 49]⟩, .string ⟨#[101]⟩] w fun e w' => e = .returned (.tuple #[.string ⟨#[49]⟩, .string ⟨#[43, 50, 49]⟩, .bool true]) ∧ Fr [] w w' := by
  have CI := Lib.hid (fun w1 => by have := Tryz.stringslite_Index_one ⟨#[49, 101, 43, 50, 49]⟩ 101 w1; rw [show Lib.indexByte (ByteArray.mk #[49, 101, 43, 50, 49]).data.toList 101 = 1 by decide] at this; exact this)
  have x1 : (ByteArray.mk #[49, 101, 43, 50, 49]).extract 0 1 = ByteArray.mk #[49] := by decide
  have x2 : (ByteArray.mk #[49, 101, 43, 50, 49]).extract 2 5 = ByteArray.mk #[43, 50, 49] := by decide
  have CC : Hid (Calls Tryz.prog 67 #[.string ⟨#[49, 101, 43, 50, 49]⟩, .string ⟨#[101]⟩] w fun e w' => e = .returned (.tuple #[.string ⟨#[49]⟩, .string ⟨#[43, 50, 49]⟩, .bool true]) ∧ Fr [] w w') := Lib.hid (by
    go_enter Tryz.func67, Tryz.ntmps67
    go_wp2_with fail
    refine (CI.out _).mono ?_
    rintro e w' ⟨rfl, rfl⟩
    go_wp2_with fail
    go_region
    go_wp2_with fail
    go_ret3
    exact ⟨rfl, by repeat (first | exact Fr.refl _ _ | apply Fr.drew)⟩)
  clear CI x1 x2
  go_enter Tryz.func30, Tryz.ntmps30
  go_wp2_with fail
  refine CC.out.mono ?_
  rintro e w' ⟨rfl, F1⟩
  go_wp2_with fail
  go_ret3
  exact ⟨rfl, F1⟩
set_option maxRecDepth 100000 in
theorem cut_m4 (w : World) : Calls Tryz.prog 30 #[.string ⟨#[49, 101, 45, 48, 52]⟩, .string ⟨#[101]⟩] w fun e w' => e = .returned (.tuple #[.string ⟨#[49]⟩, .string ⟨#[45, 48, 52]⟩, .bool true]) ∧ Fr [] w w' := by
  have CI := Lib.hid (fun w1 => by have := Tryz.stringslite_Index_one ⟨#[49, 101, 45, 48, 52]⟩ 101 w1; rw [show Lib.indexByte (ByteArray.mk #[49, 101, 45, 48, 52]).data.toList 101 = 1 by decide] at this; exact this)
  have x1 : (ByteArray.mk #[49, 101, 45, 48, 52]).extract 0 1 = ByteArray.mk #[49] := by decide
  have x2 : (ByteArray.mk #[49, 101, 45, 48, 52]).extract 2 5 = ByteArray.mk #[45, 48, 52] := by decide
  have CC : Hid (Calls Tryz.prog 67 #[.string ⟨#[49, 101, 45, 48, 52]⟩, .string ⟨#[101]⟩] w fun e w' => e = .returned (.tuple #[.string ⟨#[49]⟩, .string ⟨#[45, 48, 52]⟩, .bool true]) ∧ Fr [] w w') := Lib.hid (by
    go_enter Tryz.func67, Tryz.ntmps67
    go_wp2_with fail
    refine (CI.out _).mono ?_
    rintro e w' ⟨rfl, rfl⟩
    go_wp2_with fail
    go_region
    go_wp2_with fail
    go_ret3
    exact ⟨rfl, by repeat (first | exact Fr.refl _ _ | apply Fr.drew)⟩)
  clear CI x1 x2
  go_enter Tryz.func30, Tryz.ntmps30
  go_wp2_with fail
  refine CC.out.mono ?_
  rintro e w' ⟨rfl, F1⟩
  go_wp2_with fail
  go_ret3
  exact ⟨rfl, F1⟩
set_option maxRecDepth 100000 in
set_option maxHeartbeats 1000000 in
theorem isatoi_21 (w : World) : Calls Tryz.prog 68 #[.string ⟨#[43, 50, 49]⟩] w fun e w' => e = .returned (.tuple #[.int .i64 21, .nilIface]) ∧ Fr [] w w' := by
  have b0 : ∀ h, ((ByteArray.mk #[43, 50, 49])[0]'h).toNat = 43 := fun _ => rfl
  have ex : (ByteArray.mk #[43, 50, 49]).extract 1 3 = ByteArray.mk #[50, 49] := by decide
  obtain ⟨c, W1, hcv, hcell, F1⟩ := bytes_conv w ⟨#[50, 49]⟩
  replace hcv : (convert 9 123 (.string ⟨#[50, 49]⟩)).run Tryz.prog w = .ok (.slice (some ⟨w.heap.size, 0, none⟩) 2 c) W1 := hcv
  have d0 : W1.cell? ⟨w.heap.size, 0, none⟩ = some (.int .u8 50) := hcell 0 (by decide)
  have d1 : W1.cell? ⟨w.heap.size, 1, none⟩ = some (.int .u8 49) := hcell 1 (by decide)
  have F1 := Lib.hid F1
  clear hcell
  obtain ⟨k, hk⟩ : ∃ k, k = w.heap.size := ⟨_, rfl⟩
  rw [← hk] at hcv d0 d1
  have kl := (addr_none d0).2
  clear hk
  go_enter Tryz.func68, Tryz.ntmps68
  go_wp2_with fail
  clear hcv
  refine wp_loop_rounds 3 ?_
  rw [rounds_succ]
  go_wp2_with fail
  rw [rounds_succ]
  go_wp2_with fail
  rw [rounds_succ]
  go_wp2_with fail
  go_ret2
  exact ⟨rfl, F1.out⟩
theorem atoi_21 (w : World) : Calls Tryz.prog 31 #[.string ⟨#[43, 50, 49]⟩] w fun e w' => e = .returned (.tuple #[.int .i64 21, .nilIface]) ∧ Fr [] w w' := by
  go_enter Tryz.func31, Tryz.ntmps31
  go_wp2_with fail
  refine (isatoi_21 w).mono ?_
  rintro e w' ⟨rfl, F1⟩
  go_wp2_with fail
  go_ret2
  exact ⟨rfl, F1⟩
set_option maxRecDepth 100000 in
set_option maxHeartbeats 1000000 in
theorem isatoi_m4 (w : World) : Calls Tryz.prog 68 #[.string ⟨#[45, 48, 52]⟩] w fun e w' => e = .returned (.tuple #[.int .i64 (-4), .nilIface]) ∧ Fr [] w w' := by
  have b0 : ∀ h, ((ByteArray.mk #[45, 48, 52])[0]'h).toNat = 45 := fun _ => rfl
  have ex : (ByteArray.mk #[45, 48, 52]).extract 1 3 = ByteArray.mk #[48, 52] := by decide
  obtain ⟨c, W1, hcv, hcell, F1⟩ := bytes_conv w ⟨#[48, 52]⟩
  replace hcv : (convert 9 123 (.string ⟨#[48, 52]⟩)).run Tryz.prog w = .ok (.slice (some ⟨w.heap.size, 0, none⟩) 2 c) W1 := hcv
  have d0 : W1.cell? ⟨w.heap.size, 0, none⟩ = some (.int .u8 48) := hcell 0 (by decide)
  have d1 : W1.cell? ⟨w.heap.size, 1, none⟩ = some (.int .u8 52) := hcell 1 (by decide)
  have F1 := Lib.hid F1
  clear hcell
  obtain ⟨k, hk⟩ : ∃ k, k = w.heap.size := ⟨_, rfl⟩
  rw [← hk] at hcv d0 d1
  have kl := (addr_none d0).2
  clear hk
  go_enter Tryz.func68, Tryz.ntmps68
  go_wp2_with fail
  clear hcv
  refine wp_loop_rounds 3 ?_
  rw [rounds_succ]
  go_wp2_with fail
  rw [rounds_succ]
  go_wp2_with fail
  rw [rounds_succ]
  go_wp2_with fail
  go_ret2
  exact ⟨rfl, F1.out⟩
theorem atoi_m4 (w : World) : Calls Tryz.prog 31 #[.string ⟨#[45, 48, 52]⟩] w fun e w' => e = .returned (.tuple #[.int .i64 (-4), .nilIface]) ∧ Fr [] w w' := by
  go_enter Tryz.func31, Tryz.ntmps31
  go_wp2_with fail
  refine (isatoi_m4 w).mono ?_
  rintro e w' ⟨rfl, F1⟩
  go_wp2_with fail
  go_ret2
  exact ⟨rfl, F1⟩
end Go.Proofs.YtcjkgnafpkkjmaaGreatDoor
namespace Go.Proofs.YtcjkgnafpkkjmaaGreatDoor
open Go.ChangeShapes Go.WideShapes Go.RowKit Go.Shelf
theorem itoa_e21 : Lib.itoa 21 = [50, 49] := by
  unfold Lib.itoa
  rw [if_neg (by decide)]
  show Lib.decDigits 21 = _
  rw [dec_big (by decide), dec_small (by decide)]
  rfl
theorem itoa_m4 : Lib.itoa (-4) = [45, 52] := by
  unfold Lib.itoa
  rw [if_pos (by decide)]
  show 45 :: Lib.decDigits 4 = _
  rw [dec_small (by decide)]
  rfl
theorem name_e21 (w : World) : Calls Tryz.prog 26 #[.float .f64 4921056587992461136] w fun e w' => e = .returned (.string ⟨#[]⟩) ∧ w = w' := name_fin 4921056587992461136 (by decide) (by decide) (by decide) w
set_option maxRecDepth 100000 in
theorem txt_e21 (w : World) (HL : LdT w) : Calls Tryz.prog 9 #[.float .f64 4921056587992461136] w fun e w' => e = .returned (.string ⟨#[49, 46, 48, 101, 50, 49]⟩) ∧ Fr [] w w' := by
  have CN := Lib.hid (name_e21 w)
  have CA : Hid (Calls Tryz.prog 27 #[.float .f64 4921056587992461136] w fun e w' => e = .returned (.float .f64 4921056587992461136) ∧ w = w') := Lib.hid (abs_c 4921056587992461136 (by decide) w)
  have o1 : FloatKind.f64.format.order 4921056587992461136 0 = some .gt := by decide
  have o2 : FloatKind.f64.format.order 4921056587992461136 4562254508917369340 = some .gt := by decide
  have o3 : FloatKind.f64.format.order 4921056587992461136 4921056587992461136 = some .eq := by decide
  have CF := Lib.hid (fmt_e21 w HL)
  have CP := Lib.hid (fun w1 => point_no ⟨#[49]⟩ w1 (by decide) (by decide))
  have CI := Lib.hid (fun (w1 : World) (h : Fr [] w w1) => by have := Tryz.strconv_Itoa 21 (by decide) (by decide) w1 (HL.tab.fr h); rw [itoa_e21] at this; exact this)
  have y1 : (ByteArray.mk #[49]) ++ (ByteArray.mk #[46, 48]) = ByteArray.mk #[49, 46, 48] := by decide
  have y2 : (ByteArray.mk #[49, 46, 48]) ++ (ByteArray.mk #[101]) = ByteArray.mk #[49, 46, 48, 101] := by decide
  have y3 : (ByteArray.mk #[49, 46, 48, 101]) ++ (ByteArray.mk #[50, 49]) = ByteArray.mk #[49, 46, 48, 101, 50, 49] := by decide
  rw [y1] at CP
  clear HL y1
  go_enter Tryz.func9, Tryz.ntmps9
  go_wp2_with fail
  refine CN.out.mono ?_
  rintro e w' ⟨rfl, rfl⟩
  go_wp2_with fail
  refine CA.out.mono ?_
  rintro e w' ⟨rfl, rfl⟩
  go_wp2_with fail
  refine CF.out.mono ?_
  rintro e w2 ⟨rfl, F2⟩
  have F2 := Lib.hid F2
  go_wp2_with fail
  refine (cut_e21 w2).mono ?_
  rintro e w3 ⟨rfl, F3⟩
  have F3 := Lib.hid (F2.out.same F3)
  go_wp2_with fail
  refine (atoi_21 w3).mono ?_
  rintro e w4 ⟨rfl, F4⟩
  have F4 := Lib.hid (F3.out.same F4)
  have CI := Lib.hid (CI.out w4 F4.out)
  go_wp2_with fail
  refine (CP.out _).mono ?_
  rintro e w' ⟨rfl, rfl⟩
  go_wp2_with fail
  refine CI.out.mono ?_
  rintro e w5 ⟨rfl, nk, os, hw5⟩
  have F5 := Lib.hid (F4.out.same (show Fr [] w4 w5 by rw [hw5]; exact fr_of_below (Lib.below_grow _ _ (Nat.le_refl _) nk os)))
  clear hw5
  go_wp2_with fail
  go_ret
  exact ⟨rfl, F5.out⟩
theorem name_m4 (w : World) : Calls Tryz.prog 26 #[.float .f64 4547007122018943789] w fun e w' => e = .returned (.string ⟨#[]⟩) ∧ w = w' := name_fin 4547007122018943789 (by decide) (by decide) (by decide) w
set_option maxRecDepth 100000 in
theorem txt_m4 (w : World) (HL : LdT w) : Calls Tryz.prog 9 #[.float .f64 4547007122018943789] w fun e w' => e = .returned (.string ⟨#[49, 46, 48, 101, 45, 52]⟩) ∧ Fr [] w w' := by
  have CN := Lib.hid (name_m4 w)
  have CA : Hid (Calls Tryz.prog 27 #[.float .f64 4547007122018943789] w fun e w' => e = .returned (.float .f64 4547007122018943789) ∧ w = w') := Lib.hid (abs_c 4547007122018943789 (by decide) w)
  have o1 : FloatKind.f64.format.order 4547007122018943789 0 = some .gt := by decide
  have o2 : FloatKind.f64.format.order 4547007122018943789 4562254508917369340 = some .lt := by decide
  have o3 : FloatKind.f64.format.order 4547007122018943789 4921056587992461136 = some .lt := by decide
  have CF := Lib.hid (fmt_m4 w HL)
  have CP := Lib.hid (fun w1 => point_no ⟨#[49]⟩ w1 (by decide) (by decide))
  have CI := Lib.hid (fun (w1 : World) (h : Fr [] w w1) => by have := Tryz.strconv_Itoa (-4) (by decide) (by decide) w1 (HL.tab.fr h); rw [itoa_m4] at this; exact this)
  have y1 : (ByteArray.mk #[49]) ++ (ByteArray.mk #[46, 48]) = ByteArray.mk #[49, 46, 48] := by decide
  have y2 : (ByteArray.mk #[49, 46, 48]) ++ (ByteArray.mk #[101]) = ByteArray.mk #[49, 46, 48, 101] := by decide
  have y3 : (ByteArray.mk #[49, 46, 48, 101]) ++ (ByteArray.mk #[45, 52]) = ByteArray.mk #[49, 46, 48, 101, 45, 52] := by decide
  rw [y1] at CP
  clear HL y1
  go_enter Tryz.func9, Tryz.ntmps9
  go_wp2_with fail
  refine CN.out.mono ?_
  rintro e w' ⟨rfl, rfl⟩
  go_wp2_with fail
  refine CA.out.mono ?_
  rintro e w' ⟨rfl, rfl⟩
  go_wp2_with fail
  refine CF.out.mono ?_
  rintro e w2 ⟨rfl, F2⟩
  have F2 := Lib.hid F2
  go_wp2_with fail
  refine (cut_m4 w2).mono ?_
  rintro e w3 ⟨rfl, F3⟩
  have F3 := Lib.hid (F2.out.same F3)
  go_wp2_with fail
  refine (atoi_m4 w3).mono ?_
  rintro e w4 ⟨rfl, F4⟩
  have F4 := Lib.hid (F3.out.same F4)
  have CI := Lib.hid (CI.out w4 F4.out)
  go_wp2_with fail
  refine (CP.out _).mono ?_
  rintro e w' ⟨rfl, rfl⟩
  go_wp2_with fail
  refine CI.out.mono ?_
  rintro e w5 ⟨rfl, nk, os, hw5⟩
  have F5 := Lib.hid (F4.out.same (show Fr [] w4 w5 by rw [hw5]; exact fr_of_below (Lib.below_grow _ _ (Nat.le_refl _) nk os)))
  clear hw5
  go_wp2_with fail
  go_ret
  exact ⟨rfl, F5.out⟩
end Go.Proofs.YtcjkgnafpkkjmaaGreatDoor
namespace Go.Proofs.YtcjkgnafpkkjmaaGreatDoor
open Go.ChangeShapes Go.WideShapes Go.RowKit Go.Shelf
set_option maxRecDepth 100000 in
set_option maxHeartbeats 1000000 in
theorem digits_1p5e2 (w : World) : Calls Tryz.prog 61 #[.string ⟨#[49, 46, 53, 101, 50]⟩] w fun e w' => e = .returned (.int .i64 1) ∧ w = w' := by
  have b0 : ∀ h, ((ByteArray.mk #[49, 46, 53, 101, 50])[0]'h).toNat = 49 := fun _ => rfl
  have b1 : ∀ h, ((ByteArray.mk #[49, 46, 53, 101, 50])[1]'h).toNat = 46 := fun _ => rfl
  have b2 : ∀ h, ((ByteArray.mk #[49, 46, 53, 101, 50])[2]'h).toNat = 53 := fun _ => rfl
  have b3 : ∀ h, ((ByteArray.mk #[49, 46, 53, 101, 50])[3]'h).toNat = 101 := fun _ => rfl
  have b4 : ∀ h, ((ByteArray.mk #[49, 46, 53, 101, 50])[4]'h).toNat = 50 := fun _ => rfl
  go_enter Tryz.func61, Tryz.ntmps61
  go_wp2_with fail
  refine wp_loop_rounds 2 ?_
  rw [rounds_succ]
  go_wp2_with fail
  rw [rounds_succ]
  go_wp2_with fail
  go_ret
  exact ⟨rfl, rfl⟩
set_option maxRecDepth 100000 in
set_option maxHeartbeats 1000000 in
theorem digits_5e2 (w : World) : Calls Tryz.prog 61 #[.string ⟨#[53, 101, 50]⟩] w fun e w' => e = .returned (.int .i64 1) ∧ w = w' := by
  have b0 : ∀ h, ((ByteArray.mk #[53, 101, 50])[0]'h).toNat = 53 := fun _ => rfl
  have b1 : ∀ h, ((ByteArray.mk #[53, 101, 50])[1]'h).toNat = 101 := fun _ => rfl
  have b2 : ∀ h, ((ByteArray.mk #[53, 101, 50])[2]'h).toNat = 50 := fun _ => rfl
  go_enter Tryz.func61, Tryz.ntmps61
  go_wp2_with fail
  refine wp_loop_rounds 2 ?_
  rw [rounds_succ]
  go_wp2_with fail
  rw [rounds_succ]
  go_wp2_with fail
  go_ret
  exact ⟨rfl, rfl⟩
set_option maxRecDepth 100000 in
set_option maxHeartbeats 1000000 in
theorem digits_2 (w : World) : Calls Tryz.prog 61 #[.string ⟨#[50]⟩] w fun e w' => e = .returned (.int .i64 1) ∧ w = w' := by
  have b0 : ∀ h, ((ByteArray.mk #[50])[0]'h).toNat = 50 := fun _ => rfl
  go_enter Tryz.func61, Tryz.ntmps61
  go_wp2_with fail
  refine wp_loop_rounds 2 ?_
  rw [rounds_succ]
  go_wp2_with fail
  rw [rounds_succ]
  go_wp2_with fail
  go_ret
  exact ⟨rfl, rfl⟩
set_option maxRecDepth 100000 in
set_option maxHeartbeats 1000000 in
theorem unsigned_m1p5e2 (w : World) : Calls Tryz.prog 60 #[.string ⟨#[45, 49, 46, 53, 101, 50]⟩] w fun e w' => e = .returned (.string ⟨#[49, 46, 53, 101, 50]⟩) ∧ w = w' := by
  have b0 : ∀ h, ((ByteArray.mk #[45, 49, 46, 53, 101, 50])[0]'h).toNat = 45 := fun _ => rfl
  have b1 : ∀ h, ((ByteArray.mk #[45, 49, 46, 53, 101, 50])[1]'h).toNat = 49 := fun _ => rfl
  have b2 : ∀ h, ((ByteArray.mk #[45, 49, 46, 53, 101, 50])[2]'h).toNat = 46 := fun _ => rfl
  have b3 : ∀ h, ((ByteArray.mk #[45, 49, 46, 53, 101, 50])[3]'h).toNat = 53 := fun _ => rfl
  have b4 : ∀ h, ((ByteArray.mk #[45, 49, 46, 53, 101, 50])[4]'h).toNat = 101 := fun _ => rfl
  have b5 : ∀ h, ((ByteArray.mk #[45, 49, 46, 53, 101, 50])[5]'h).toNat = 50 := fun _ => rfl
  have x : (ByteArray.mk #[45, 49, 46, 53, 101, 50]).extract 1 6 = ByteArray.mk #[49, 46, 53, 101, 50] := by decide
  go_enter Tryz.func60, Tryz.ntmps60
  go_wp2
  go_ret
  exact ⟨rfl, rfl⟩
set_option maxRecDepth 100000 in
set_option maxHeartbeats 1000000 in
theorem unsigned_2 (w : World) : Calls Tryz.prog 60 #[.string ⟨#[50]⟩] w fun e w' => e = .returned (.string ⟨#[50]⟩) ∧ w = w' := by
  have b0 : ∀ h, ((ByteArray.mk #[50])[0]'h).toNat = 50 := fun _ => rfl
  go_enter Tryz.func60, Tryz.ntmps60
  go_wp2
  go_ret
  exact ⟨rfl, rfl⟩
set_option maxRecDepth 100000 in
set_option maxHeartbeats 1000000 in
theorem flright_yes (w : World) : Calls Tryz.prog 23 #[.string ⟨#[45, 49, 46, 53, 101, 50]⟩] w fun e w' => e = .returned (.bool true) ∧ Fr [] w w' := by
  have x1 : (ByteArray.mk #[49, 46, 53, 101, 50]).extract 1 5 = ByteArray.mk #[46, 53, 101, 50] := by decide
  have x2 : (ByteArray.mk #[46, 53, 101, 50]).extract 1 4 = ByteArray.mk #[53, 101, 50] := by decide
  have x3 : (ByteArray.mk #[46, 53, 101, 50]).extract 2 4 = ByteArray.mk #[101, 50] := by decide
  have x4 : (ByteArray.mk #[101, 50]).extract 1 2 = ByteArray.mk #[50] := by decide
  have b0 : ∀ h, ((ByteArray.mk #[46, 53, 101, 50])[0]'h).toNat = 46 := fun _ => rfl
  have b1 : ∀ h, ((ByteArray.mk #[46, 53, 101, 50])[1]'h).toNat = 53 := fun _ => rfl
  have b2 : ∀ h, ((ByteArray.mk #[46, 53, 101, 50])[2]'h).toNat = 101 := fun _ => rfl
  have b3 : ∀ h, ((ByteArray.mk #[46, 53, 101, 50])[3]'h).toNat = 50 := fun _ => rfl
  have c0 : ∀ h, ((ByteArray.mk #[101, 50])[0]'h).toNat = 101 := fun _ => rfl
  have c1 : ∀ h, ((ByteArray.mk #[101, 50])[1]'h).toNat = 50 := fun _ => rfl
  go_enter Tryz.func23, Tryz.ntmps23
  go_wp2_with fail
  refine (unsigned_m1p5e2 _).mono ?_
  rintro e w' ⟨rfl, rfl⟩
  go_wp2_with fail
  refine (digits_1p5e2 _).mono ?_
  rintro e w' ⟨rfl, rfl⟩
  go_wp2_with fail
  go_region
  go_wp2_with fail
  refine (digits_5e2 _).mono ?_
  rintro e w' ⟨rfl, rfl⟩
  go_wp2_with fail
  refine (unsigned_2 _).mono ?_
  rintro e w' ⟨rfl, rfl⟩
  go_wp2_with fail
  refine (digits_2 _).mono ?_
  rintro e w' ⟨rfl, rfl⟩
  go_wp2_with fail
  go_ret
  exact ⟨rfl, by repeat (first | exact Fr.refl _ _ | apply Fr.drew)⟩
set_option maxRecDepth 100000 in
set_option maxHeartbeats 1000000 in
theorem prefix_no (w : World) : Calls Tryz.prog 217 #[.string ⟨#[49, 46, 53, 101, 50]⟩, .string ⟨#[105, 110, 102, 105, 110, 105, 116, 121]⟩] w fun e w' => e = .returned (.int .i64 0) ∧ w = w' := by
  have b0 : ∀ h, ((ByteArray.mk #[49, 46, 53, 101, 50])[0]'h).toNat = 49 := fun _ => rfl
  have b1 : ∀ h, ((ByteArray.mk #[49, 46, 53, 101, 50])[1]'h).toNat = 46 := fun _ => rfl
  have b2 : ∀ h, ((ByteArray.mk #[49, 46, 53, 101, 50])[2]'h).toNat = 53 := fun _ => rfl
  have b3 : ∀ h, ((ByteArray.mk #[49, 46, 53, 101, 50])[3]'h).toNat = 101 := fun _ => rfl
  have b4 : ∀ h, ((ByteArray.mk #[49, 46, 53, 101, 50])[4]'h).toNat = 50 := fun _ => rfl
  have c0 : ∀ h, ((ByteArray.mk #[105, 110, 102, 105, 110, 105, 116, 121])[0]'h).toNat = 105 := fun _ => rfl
  have c1 : ∀ h, ((ByteArray.mk #[105, 110, 102, 105, 110, 105, 116, 121])[1]'h).toNat = 110 := fun _ => rfl
  have c2 : ∀ h, ((ByteArray.mk #[105, 110, 102, 105, 110, 105, 116, 121])[2]'h).toNat = 102 := fun _ => rfl
  have c3 : ∀ h, ((ByteArray.mk #[105, 110, 102, 105, 110, 105, 116, 121])[3]'h).toNat = 105 := fun _ => rfl
  have c4 : ∀ h, ((ByteArray.mk #[105, 110, 102, 105, 110, 105, 116, 121])[4]'h).toNat = 110 := fun _ => rfl
  have c5 : ∀ h, ((ByteArray.mk #[105, 110, 102, 105, 110, 105, 116, 121])[5]'h).toNat = 105 := fun _ => rfl
  have c6 : ∀ h, ((ByteArray.mk #[105, 110, 102, 105, 110, 105, 116, 121])[6]'h).toNat = 116 := fun _ => rfl
  have c7 : ∀ h, ((ByteArray.mk #[105, 110, 102, 105, 110, 105, 116, 121])[7]'h).toNat = 121 := fun _ => rfl
  have hm : min (8 : Int) 5 = 5 := by decide
  go_enter Tryz.func217, Tryz.ntmps217
  go_wp2_with fail
  refine wp_loop_rounds 1 ?_
  rw [rounds_succ]
  go_wp2_with fail
  go_ret
  exact ⟨rfl, rfl⟩
set_option maxRecDepth 100000 in
set_option maxHeartbeats 1000000 in
theorem special_no (w : World) : Calls Tryz.prog 173 #[.string ⟨#[45, 49, 46, 53, 101, 50]⟩] w fun e w' => e = .returned (.tuple #[.float .f64 0, .int .i64 0, .bool false]) ∧ w = w' := by
  have b0 : ∀ h, ((ByteArray.mk #[45, 49, 46, 53, 101, 50])[0]'h).toNat = 45 := fun _ => rfl
  have b1 : ∀ h, ((ByteArray.mk #[45, 49, 46, 53, 101, 50])[1]'h).toNat = 49 := fun _ => rfl
  have b2 : ∀ h, ((ByteArray.mk #[45, 49, 46, 53, 101, 50])[2]'h).toNat = 46 := fun _ => rfl
  have b3 : ∀ h, ((ByteArray.mk #[45, 49, 46, 53, 101, 50])[3]'h).toNat = 53 := fun _ => rfl
  have b4 : ∀ h, ((ByteArray.mk #[45, 49, 46, 53, 101, 50])[4]'h).toNat = 101 := fun _ => rfl
  have b5 : ∀ h, ((ByteArray.mk #[45, 49, 46, 53, 101, 50])[5]'h).toNat = 50 := fun _ => rfl
  have x : (ByteArray.mk #[45, 49, 46, 53, 101, 50]).extract 1 6 = ByteArray.mk #[49, 46, 53, 101, 50] := by decide
  go_enter Tryz.func173, Tryz.ntmps173
  go_wp2_with fail
  refine (prefix_no _).mono ?_
  rintro e w' ⟨rfl, rfl⟩
  go_wp2_with fail
  go_ret3
  exact ⟨rfl, rfl⟩
end Go.Proofs.YtcjkgnafpkkjmaaGreatDoor
namespace Go.Proofs.YtcjkgnafpkkjmaaGreatDoor
open Go.ChangeShapes Go.WideShapes Go.RowKit Go.Shelf
set_option maxHeartbeats 400000 in
theorem lower_e (w : World) : Calls Tryz.prog 188 #[.int .u8 101] w fun e w' => e = .returned (.int .u8 101) ∧ w = w' := by
  have ho : bits BinOp.or IntKind.u8 101 32 = 101 := by decide
  go_enter Tryz.func188, Tryz.ntmps188
  go_wp2
  go_ret
  exact ⟨rfl, rfl⟩
theorem bool2_yes (w : World) : Calls Tryz.prog 182 #[.bool true] w fun e w' => e = .returned (.int .u64 1) ∧ w = w' := by
  go_enter Tryz.func182, Tryz.ntmps182
  go_wp2
  go_ret
  exact ⟨rfl, rfl⟩
theorem results_tmp7 {fn : Func} {t u v x y z s : Tmp} (h : fn.results = #[.tmp t, .tmp u, .tmp v, .tmp x, .tmp y, .tmp z, .tmp s]) (tmps : Array Value) (P : Program) (w : World) :
    (results fn tmps).run P w = .ok (.tuple #[tmps.getD t undef, tmps.getD u undef, tmps.getD v undef, tmps.getD x undef, tmps.getD y undef, tmps.getD z undef, tmps.getD s undef]) w := by
  simp [results, h]
set_option maxRecDepth 100000 in
set_option maxHeartbeats 4000000 in
theorem readFloat_c (w : World) : Calls Tryz.prog 174 #[.string ⟨#[45, 49, 46, 53, 101, 50]⟩] w fun e w' => e = .returned (.tuple #[.int .u64 15, .int .i64 1, .bool true, .bool false, .bool false, .int .i64 6, .bool true]) ∧ w = w' := by
  have b0 : ∀ h, ((ByteArray.mk #[45, 49, 46, 53, 101, 50])[0]'h).toNat = 45 := fun _ => rfl
  have b1 : ∀ h, ((ByteArray.mk #[45, 49, 46, 53, 101, 50])[1]'h).toNat = 49 := fun _ => rfl
  have b2 : ∀ h, ((ByteArray.mk #[45, 49, 46, 53, 101, 50])[2]'h).toNat = 46 := fun _ => rfl
  have b3 : ∀ h, ((ByteArray.mk #[45, 49, 46, 53, 101, 50])[3]'h).toNat = 53 := fun _ => rfl
  have b4 : ∀ h, ((ByteArray.mk #[45, 49, 46, 53, 101, 50])[4]'h).toNat = 101 := fun _ => rfl
  have b5 : ∀ h, ((ByteArray.mk #[45, 49, 46, 53, 101, 50])[5]'h).toNat = 50 := fun _ => rfl
  go_enter Tryz.func174, Tryz.ntmps174
  go_wp2_with fail
  go_step3
  go_wp2_with fail
  go_step3
  go_wp2_with fail
  refine wp_loop_rounds 4 ?_
  rw [rounds_succ]
  go_wp2_with fail
  rw [rounds_succ]
  go_wp2_with fail
  rw [rounds_succ]
  go_wp2_with fail
  rw [rounds_succ]
  go_wp2_with fail
  refine (lower_e _).mono ?_
  rintro e w' ⟨rfl, rfl⟩
  go_wp2_with fail
  refine wp_loop_rounds 2 ?_
  rw [rounds_succ]
  go_wp2_with fail
  rw [rounds_succ]
  go_wp2_with fail
  (try simp only [Exit.inBlock, Exit.then])
  rw [Exit.noGoto_ret]
  refine bodyPost_ret (results_tmp7 rfl _ _ _) rfl ?_
  exact ⟨rfl, rfl⟩
theorem exact64_c (w : World) (HL : LdF w) : Calls Tryz.prog 184 #[.int .u64 15, .int .i64 1, .bool true] w fun e w' => e = .returned (.tuple #[.float .f64 13862853709232340992, .bool true]) ∧ w = w' := by
  have hb := HL.bits
  obtain ⟨b, o, h1, h2⟩ := HL.tens
  have hf : floatOfInt .f64 15 = 4624633867356078080 := by decide
  have hn : Op.negFloat .f64 4624633867356078080 = 13848005904210853888 := by decide
  have hm : ∀ (t : TypeId) (w : World), (binOp .mul t (.float .f64 13848005904210853888) (.float .f64 4621819117588971520)).run Tryz.prog w = .ok (.float .f64 13862853709232340992) w := fun t w => run_float_arith w .mul t .f64 _ _ _ (by decide)
  have hg := neg_run 4624633867356078080
  have hc : (FloatKind.f64.format.order 13848005904210853888 4831355200913801216 == some .gt) = false := by decide
  have hd : (FloatKind.f64.format.order 13848005904210853888 14054727237768577024 == some .lt) = false := by decide
  go_enter Tryz.func184, Tryz.ntmps184
  go_wp2
  go_ret2
  exact ⟨rfl, rfl⟩
end Go.Proofs.YtcjkgnafpkkjmaaGreatDoor
end
