/- The texts and numbers of numbers: a part of the walk. No condition. -/
import Derived.Test.YtcjkgnafpkkjmaaGreatDoorQk35
import Derived.Test.YtcjkgnafpkkjmaaGreatDoorQk33
set_option linter.all false
section
namespace Go.Proofs.YtcjkgnafpkkjmaaGreatDoor
open Go.ChangeShapes Go.WideShapes Go.RowKit Go.Shelf
variable {w w' : World} {a : Option Addr} {cap : Nat}
def PR (w : World) (fl : Bool) (f : Nat) (s : Bool) (n : Nat) (e : Nat) (x : Ending) (w' : World) : Prop :=
  ∃ a c, x = .returned (.tuple #[.agg #[.bool fl, .float .f64 f, .bool s, .slice a (lims n).length c], .int .i64 (e : Int)]) ∧ In w' a c (lims n) ∧ Fr [] w w'
set_option maxHeartbeats 1000000 in
theorem r4flo_x (w : World) (f : Nat) : Calls Tryz.prog 45 #[.float .f64 f] w fun e w' => e = .returned (.agg #[.bool true, .float .f64 f, .bool false, .slice none 0 0]) ∧ Fr [] w w' := by
  have hsf := sf_run
  go_enter Tryz.func45, Tryz.ntmps45
  go_wp2
  refine bodyPost_ret (ret_nv rfl _ _ _ _ _ _ _ rfl (BxN.new w _ _ _ _)) rfl ?_
  exact ⟨rfl, (Fr.refl [] w).alloc _⟩
set_option maxRecDepth 20000 in
set_option maxHeartbeats 1000000 in
theorem twparse_ok (w : World) (S : ByteArray) (s : Bool) (n : Nat)
    (C : ∀ w1, Calls Tryz.prog 41 #[.string S] w1 fun e w' => ∃ a c, e = .returned (.tuple #[.agg #[.bool s, .slice a (lims n).length c], .int .i64 0]) ∧ In w' a c (lims n) ∧ Fr [] w1 w')
    : Calls Tryz.prog 14 #[.string S] w (PR w false 0 s n 0) := by
  obtain ⟨W1, hW1⟩ : ∃ W1, W1 = w.alloc (.cells #[.bool false, .float .f64 0, .bool false, .slice none 0 0] 38) := ⟨_, rfl⟩
  obtain ⟨k, hk⟩ : ∃ k, k = w.heap.size := ⟨_, rfl⟩
  have F1 : Hid (Fr [] w W1) := Lib.hid (by rw [hW1]; exact (Fr.refl _ _).alloc _)
  have PN : Hid (BxN W1 k (.bool false) (.float .f64 0) (.bool false) (.slice none 0 0)) := Lib.hid (by rw [hW1, hk]; exact BxN.new _ _ _ _ _)
  have HK : Hid (w.heap.size ≤ k) := Lib.hid (by omega)
  have C1 := Lib.hid (C W1)
  clear C
  have hsf := sf_run
  go_enter Tryz.func14, Tryz.ntmps14
  go_wp2_with fail
  rw [← hW1, ← hk]
  clear hW1 hk
  refine C1.out.mono ?_
  rintro e w2 ⟨a3, c3, rfl, I2, F2⟩
  have PN := Lib.hid (PN.out.fr F2)
  have G2 := Lib.hid (F1.out.same F2)
  have I2 := Lib.hid I2
  clear F1 F2 C1
  obtain ⟨l, hl⟩ : ∃ l, l = (lims n).length := ⟨_, rfl⟩
  have HL := Lib.hid hl
  rw [← hl]
  obtain ⟨w3, hw3⟩ : ∃ w3, w3 = w2.alloc (.cells #[.bool s, .slice a3 l c3] 36) := ⟨_, rfl⟩
  have G3 : Hid (Fr [] w w3) := Lib.hid (by rw [hw3]; exact G2.out.alloc _)
  have I3 : Hid (In w3 a3 c3 (lims n)) := Lib.hid (by rw [hw3]; exact I2.out.keep ((Fr.refl _ _).alloc _))
  have PN3 : Hid (BxN w3 k (.bool false) (.float .f64 0) (.bool false) (.slice none 0 0)) := Lib.hid (by rw [hw3]; exact PN.out.fr ((Fr.refl _ _).alloc _))
  clear hl
  go_wp2_with fail
  rw [← hw3]
  refine (twwhole_c w3 s l).mono ?_
  rintro e w5 ⟨rfl, F5⟩
  have PN5 := Lib.hid (PN3.out.fr F5)
  have I5 := Lib.hid (I3.out.keep F5)
  have G5 := Lib.hid (G3.out.same F5)
  have q0 := PN5.out.f 0
  have q1 := PN5.out.f 1
  have q2 := PN5.out.f 2
  have q3 := PN5.out.f 3
  have d0 := PN5.out.c0
  have d1 := PN5.out.c1
  have d2 := PN5.out.c2
  have d3 := PN5.out.c3
  have ql := PN5.out.lt
  clear hw3
  go_wp2_with fail
  refine bodyPost_ret (ret_nv2 rfl _ _ k _ _ _ _ rfl (PN5.out.set _ _ _ _)) rfl ?_
  exact ⟨a3, c3, by rw [HL.out]; rfl, I5.out.set4 PN5.out _ _ _ _, G5.out.set4 HK.out _ _ _ _⟩
set_option maxRecDepth 20000 in
set_option maxHeartbeats 1000000 in
theorem twparse_big (w : World) (S : ByteArray)
    (C : ∀ w1, Calls Tryz.prog 41 #[.string S] w1 fun e w' => e = .returned (.tuple #[.agg #[.bool false, .slice none 0 0], .int .i64 11]) ∧ Fr [] w1 w')
    : Calls Tryz.prog 14 #[.string S] w (PR w false 0 false 0 11) := by
  obtain ⟨W1, hW1⟩ : ∃ W1, W1 = w.alloc (.cells #[.bool false, .float .f64 0, .bool false, .slice none 0 0] 38) := ⟨_, rfl⟩
  obtain ⟨k, hk⟩ : ∃ k, k = w.heap.size := ⟨_, rfl⟩
  have F1 : Hid (Fr [] w W1) := Lib.hid (by rw [hW1]; exact (Fr.refl _ _).alloc _)
  have PN : Hid (BxN W1 k (.bool false) (.float .f64 0) (.bool false) (.slice none 0 0)) := Lib.hid (by rw [hW1, hk]; exact BxN.new _ _ _ _ _)
  have HK : Hid (w.heap.size ≤ k) := Lib.hid (by omega)
  have C1 := Lib.hid (C W1)
  clear C
  have hsf := sf_run
  go_enter Tryz.func14, Tryz.ntmps14
  go_wp2_with fail
  rw [← hW1, ← hk]
  clear hW1 hk
  refine C1.out.mono ?_
  rintro e w2 ⟨rfl, F2⟩
  have PN := Lib.hid (PN.out.fr F2)
  have G2 := Lib.hid (F1.out.same F2)
  clear F1 F2 C1
  have q0 := PN.out.f 0
  have q1 := PN.out.f 1
  have q2 := PN.out.f 2
  have q3 := PN.out.f 3
  have d0 := PN.out.c0
  have d1 := PN.out.c1
  have d2 := PN.out.c2
  have d3 := PN.out.c3
  have ql := PN.out.lt
  go_wp2_with fail
  refine bodyPost_ret (ret_nv2 rfl _ _ k _ _ _ _ rfl ((PN.out.set _ _ _ _).fr ((Fr.refl _ _).alloc _))) rfl ?_
  exact ⟨none, 0, rfl, (Nw.nil _ 0).in, (G2.out.set4 HK.out _ _ _ _).alloc _⟩
set_option maxRecDepth 20000 in
set_option maxHeartbeats 1000000 in
theorem twparse_flo (w : World) (S : ByteArray) (f : Nat)
    (C : ∀ w1, Calls Tryz.prog 41 #[.string S] w1 fun e w' => e = .returned (.tuple #[.agg #[.bool false, .slice none 0 0], .int .i64 13]) ∧ Fr [] w1 w')
    (CF : ∀ w1, Fr [] w w1 → Calls Tryz.prog 6 #[.string S] w1 fun x w' => x = .returned (.tuple #[.float .f64 f, .int .i64 0]) ∧ Fr [] w1 w') : Calls Tryz.prog 14 #[.string S] w (PR w true f false 0 0) := by
  obtain ⟨W1, hW1⟩ : ∃ W1, W1 = w.alloc (.cells #[.bool false, .float .f64 0, .bool false, .slice none 0 0] 38) := ⟨_, rfl⟩
  obtain ⟨k, hk⟩ : ∃ k, k = w.heap.size := ⟨_, rfl⟩
  have F1 : Hid (Fr [] w W1) := Lib.hid (by rw [hW1]; exact (Fr.refl _ _).alloc _)
  have PN : Hid (BxN W1 k (.bool false) (.float .f64 0) (.bool false) (.slice none 0 0)) := Lib.hid (by rw [hW1, hk]; exact BxN.new _ _ _ _ _)
  have HK : Hid (w.heap.size ≤ k) := Lib.hid (by omega)
  have C1 := Lib.hid (C W1)
  have CF := Lib.hid CF
  clear C
  have hsf := sf_run
  go_enter Tryz.func14, Tryz.ntmps14
  go_wp2_with fail
  rw [← hW1, ← hk]
  clear hW1 hk
  refine C1.out.mono ?_
  rintro e w2 ⟨rfl, F2⟩
  have PN := Lib.hid (PN.out.fr F2)
  have G2 := Lib.hid (F1.out.same F2)
  clear F1 F2 C1
  obtain ⟨w3, hw3⟩ : ∃ w3, w3 = w2.alloc (.cells #[.bool false, .slice none 0 0] 36) := ⟨_, rfl⟩
  have G3 : Hid (Fr [] w w3) := Lib.hid (by rw [hw3]; exact G2.out.alloc _)
  have PN3 : Hid (BxN w3 k (.bool false) (.float .f64 0) (.bool false) (.slice none 0 0)) := Lib.hid (by rw [hw3]; exact PN.out.fr ((Fr.refl _ _).alloc _))
  have CF3 := Lib.hid (CF.out w3 G3.out)
  clear CF
  go_wp2_with fail
  rw [← hw3]
  clear hw3
  refine CF3.out.mono ?_
  rintro e w4 ⟨rfl, F4⟩
  have PN4 := Lib.hid (PN3.out.fr F4)
  have G4 := Lib.hid (G3.out.same F4)
  go_wp2_with fail
  refine (twflo_c w4 f).mono ?_
  rintro e w5 ⟨rfl, F5⟩
  have PN5 := Lib.hid (PN4.out.fr F5)
  have G5 := Lib.hid (G4.out.same F5)
  have q0 := PN5.out.f 0
  have q1 := PN5.out.f 1
  have q2 := PN5.out.f 2
  have q3 := PN5.out.f 3
  have d0 := PN5.out.c0
  have d1 := PN5.out.c1
  have d2 := PN5.out.c2
  have d3 := PN5.out.c3
  have ql := PN5.out.lt
  go_wp2_with fail
  refine bodyPost_ret (ret_nv2 rfl _ _ k _ _ _ _ rfl (PN5.out.set _ _ _ _)) rfl ?_
  exact ⟨none, 0, rfl, (Nw.nil _ 0).in, G5.out.set4 HK.out _ _ _ _⟩
set_option maxRecDepth 20000 in
set_option maxHeartbeats 1000000 in
theorem twparse_bad (w : World) (S : ByteArray) (f en : Nat) (he : en ≠ 0)
    (C : ∀ w1, Calls Tryz.prog 41 #[.string S] w1 fun e w' => e = .returned (.tuple #[.agg #[.bool false, .slice none 0 0], .int .i64 13]) ∧ Fr [] w1 w')
    (CF : ∀ w1, Fr [] w w1 → Calls Tryz.prog 6 #[.string S] w1 fun x w' => x = .returned (.tuple #[.float .f64 f, .int .i64 (en : Int)]) ∧ Fr [] w1 w') : Calls Tryz.prog 14 #[.string S] w (PR w false 0 false 0 13) := by
  obtain ⟨W1, hW1⟩ : ∃ W1, W1 = w.alloc (.cells #[.bool false, .float .f64 0, .bool false, .slice none 0 0] 38) := ⟨_, rfl⟩
  obtain ⟨k, hk⟩ : ∃ k, k = w.heap.size := ⟨_, rfl⟩
  have F1 : Hid (Fr [] w W1) := Lib.hid (by rw [hW1]; exact (Fr.refl _ _).alloc _)
  have PN : Hid (BxN W1 k (.bool false) (.float .f64 0) (.bool false) (.slice none 0 0)) := Lib.hid (by rw [hW1, hk]; exact BxN.new _ _ _ _ _)
  have HK : Hid (w.heap.size ≤ k) := Lib.hid (by omega)
  have C1 := Lib.hid (C W1)
  have CF := Lib.hid CF
  clear C
  have hsf := sf_run
  have ge : ((en : Int) != 0) = true := by rw [bne_iff_ne]; omega
  clear he
  go_enter Tryz.func14, Tryz.ntmps14
  go_wp2_with fail
  rw [← hW1, ← hk]
  clear hW1 hk
  refine C1.out.mono ?_
  rintro e w2 ⟨rfl, F2⟩
  have PN := Lib.hid (PN.out.fr F2)
  have G2 := Lib.hid (F1.out.same F2)
  clear F1 F2 C1
  obtain ⟨w3, hw3⟩ : ∃ w3, w3 = w2.alloc (.cells #[.bool false, .slice none 0 0] 36) := ⟨_, rfl⟩
  have G3 : Hid (Fr [] w w3) := Lib.hid (by rw [hw3]; exact G2.out.alloc _)
  have PN3 : Hid (BxN w3 k (.bool false) (.float .f64 0) (.bool false) (.slice none 0 0)) := Lib.hid (by rw [hw3]; exact PN.out.fr ((Fr.refl _ _).alloc _))
  have CF3 := Lib.hid (CF.out w3 G3.out)
  clear CF
  go_wp2_with fail
  rw [← hw3]
  clear hw3
  refine CF3.out.mono ?_
  rintro e w4 ⟨rfl, F4⟩
  have PN4 := Lib.hid (PN3.out.fr F4)
  have G4 := Lib.hid (G3.out.same F4)
  have q0 := PN4.out.f 0
  have q1 := PN4.out.f 1
  have q2 := PN4.out.f 2
  have q3 := PN4.out.f 3
  have d0 := PN4.out.c0
  have d1 := PN4.out.c1
  have d2 := PN4.out.c2
  have d3 := PN4.out.c3
  have ql := PN4.out.lt
  go_wp2_with fail
  refine bodyPost_ret (ret_nv2 rfl _ _ k _ _ _ _ rfl (PN4.out.set _ _ _ _)) rfl ?_
  exact ⟨none, 0, rfl, (Nw.nil _ 0).in, G4.out.set4 HK.out _ _ _ _⟩
set_option maxRecDepth 20000 in
set_option maxHeartbeats 1000000 in
theorem twtext_flo (w : World) (f : Nat) (s : Bool) (l : Nat) (T : ByteArray) (C : ∀ w1, Fr [] w w1 → Calls Tryz.prog 9 #[.float .f64 f] w1 fun e w' => e = .returned (.string T) ∧ Fr [] w1 w') : Calls Tryz.prog 16 #[.agg #[.bool true, .float .f64 f, .bool s, .slice a l cap]] w fun e w' => e = .returned (.string T) ∧ Fr [] w w' := by
  obtain ⟨W1, hW1⟩ : ∃ W1, W1 = w.alloc (.cells #[.bool true, .float .f64 f, .bool s, .slice a l cap] 38) := ⟨_, rfl⟩
  have F1 : Hid (Fr [] w W1) := Lib.hid (by rw [hW1]; exact (Fr.refl _ _).alloc _)
  have CT := Lib.hid (C W1 F1.out)
  clear C
  go_enter Tryz.func16, Tryz.ntmps16
  go_wp2_with fail
  rw [← hW1]
  refine CT.out.mono ?_
  rintro e w2 ⟨rfl, F2⟩
  go_wp2
  go_ret
  exact ⟨rfl, F1.out.same F2⟩
set_option maxRecDepth 20000 in
set_option maxHeartbeats 1000000 in
theorem twtext_int (w : World) (f : Nat) (s : Bool) (l : Nat) (T : ByteArray) (C : ∀ w1, Fr [] w w1 → Calls Tryz.prog 46 #[.agg #[.bool s, .slice a l cap]] w1 fun e w' => e = .returned (.string T) ∧ Fr [] w1 w') : Calls Tryz.prog 16 #[.agg #[.bool false, .float .f64 f, .bool s, .slice a l cap]] w fun e w' => e = .returned (.string T) ∧ Fr [] w w' := by
  obtain ⟨W1, hW1⟩ : ∃ W1, W1 = w.alloc (.cells #[.bool false, .float .f64 f, .bool s, .slice a l cap] 38) := ⟨_, rfl⟩
  have F1 : Hid (Fr [] w W1) := Lib.hid (by rw [hW1]; exact (Fr.refl _ _).alloc _)
  have CT := Lib.hid (C W1 F1.out)
  clear C
  go_enter Tryz.func16, Tryz.ntmps16
  go_wp2_with fail
  rw [← hW1]
  refine CT.out.mono ?_
  rintro e w2 ⟨rfl, F2⟩
  go_wp2
  go_ret
  exact ⟨rfl, F1.out.same F2⟩
set_option maxRecDepth 20000 in
set_option maxHeartbeats 1000000 in
theorem r4parse_ok (w : World) (S : ByteArray) (s : Bool) (n : Nat)
    (C : ∀ w1, Calls Tryz.prog 43 #[.string S] w1 fun e w' => ∃ a c, e = .returned (.tuple #[.agg #[.bool s, .slice a (lims n).length c], .int .i64 0]) ∧ In w' a c (lims n) ∧ Fr [] w1 w')
    : Calls Tryz.prog 15 #[.string S] w (PR w false 0 s n 0) := by
  obtain ⟨W1, hW1⟩ : ∃ W1, W1 = w.alloc (.cells #[.bool false, .float .f64 0, .bool false, .slice none 0 0] 38) := ⟨_, rfl⟩
  obtain ⟨k, hk⟩ : ∃ k, k = w.heap.size := ⟨_, rfl⟩
  have F1 : Hid (Fr [] w W1) := Lib.hid (by rw [hW1]; exact (Fr.refl _ _).alloc _)
  have PN : Hid (BxN W1 k (.bool false) (.float .f64 0) (.bool false) (.slice none 0 0)) := Lib.hid (by rw [hW1, hk]; exact BxN.new _ _ _ _ _)
  have HK : Hid (w.heap.size ≤ k) := Lib.hid (by omega)
  have C1 := Lib.hid (C W1)
  clear C
  have hsf := sf_run
  go_enter Tryz.func15, Tryz.ntmps15
  go_wp2_with fail
  rw [← hW1, ← hk]
  clear hW1 hk
  refine C1.out.mono ?_
  rintro e w2 ⟨a3, c3, rfl, I2, F2⟩
  have PN := Lib.hid (PN.out.fr F2)
  have G2 := Lib.hid (F1.out.same F2)
  have I2 := Lib.hid I2
  clear F1 F2 C1
  obtain ⟨l, hl⟩ : ∃ l, l = (lims n).length := ⟨_, rfl⟩
  have HL := Lib.hid hl
  rw [← hl]
  obtain ⟨w3, hw3⟩ : ∃ w3, w3 = w2.alloc (.cells #[.bool s, .slice a3 l c3] 36) := ⟨_, rfl⟩
  have G3 : Hid (Fr [] w w3) := Lib.hid (by rw [hw3]; exact G2.out.alloc _)
  have I3 : Hid (In w3 a3 c3 (lims n)) := Lib.hid (by rw [hw3]; exact I2.out.keep ((Fr.refl _ _).alloc _))
  have PN3 : Hid (BxN w3 k (.bool false) (.float .f64 0) (.bool false) (.slice none 0 0)) := Lib.hid (by rw [hw3]; exact PN.out.fr ((Fr.refl _ _).alloc _))
  have CO : Hid (Calls Tryz.prog 44 #[.agg #[.bool s, .slice a3 l c3], .int .i64 0] w3 (NF w3 s n 0)) := Lib.hid (by rw [hl]; exact r4out_c w3 s n 0 I3.out (fun h => absurd rfl h))
  clear hl
  go_wp2_with fail
  rw [← hw3]
  refine CO.out.mono ?_
  rintro e w5 ⟨a5, c5, rfl, I5, F5⟩
  have PN5 := Lib.hid (PN3.out.fr F5)
  have I5 := Lib.hid I5
  have G5 := Lib.hid (G3.out.same F5)
  have q0 := PN5.out.f 0
  have q1 := PN5.out.f 1
  have q2 := PN5.out.f 2
  have q3 := PN5.out.f 3
  have d0 := PN5.out.c0
  have d1 := PN5.out.c1
  have d2 := PN5.out.c2
  have d3 := PN5.out.c3
  have ql := PN5.out.lt
  clear hw3
  go_wp2_with fail
  refine bodyPost_ret (ret_nv2 rfl _ _ k _ _ _ _ rfl (PN5.out.set _ _ _ _)) rfl ?_
  exact ⟨a5, c5, rfl, I5.out.set4 PN5.out _ _ _ _, G5.out.set4 HK.out _ _ _ _⟩
set_option maxRecDepth 20000 in
set_option maxHeartbeats 1000000 in
theorem r4parse_big (w : World) (S : ByteArray)
    (C : ∀ w1, Calls Tryz.prog 43 #[.string S] w1 fun e w' => e = .returned (.tuple #[.agg #[.bool false, .slice none 0 0], .int .i64 11]) ∧ Fr [] w1 w')
    : Calls Tryz.prog 15 #[.string S] w (PR w false 0 false 0 11) := by
  obtain ⟨W1, hW1⟩ : ∃ W1, W1 = w.alloc (.cells #[.bool false, .float .f64 0, .bool false, .slice none 0 0] 38) := ⟨_, rfl⟩
  obtain ⟨k, hk⟩ : ∃ k, k = w.heap.size := ⟨_, rfl⟩
  have F1 : Hid (Fr [] w W1) := Lib.hid (by rw [hW1]; exact (Fr.refl _ _).alloc _)
  have PN : Hid (BxN W1 k (.bool false) (.float .f64 0) (.bool false) (.slice none 0 0)) := Lib.hid (by rw [hW1, hk]; exact BxN.new _ _ _ _ _)
  have HK : Hid (w.heap.size ≤ k) := Lib.hid (by omega)
  have C1 := Lib.hid (C W1)
  clear C
  have hsf := sf_run
  go_enter Tryz.func15, Tryz.ntmps15
  go_wp2_with fail
  rw [← hW1, ← hk]
  clear hW1 hk
  refine C1.out.mono ?_
  rintro e w2 ⟨rfl, F2⟩
  have PN := Lib.hid (PN.out.fr F2)
  have G2 := Lib.hid (F1.out.same F2)
  clear F1 F2 C1
  obtain ⟨w3, hw3⟩ : ∃ w3, w3 = w2.alloc (.cells #[.bool false, .slice none 0 0] 36) := ⟨_, rfl⟩
  have G3 : Hid (Fr [] w w3) := Lib.hid (by rw [hw3]; exact G2.out.alloc _)
  have PN3 : Hid (BxN w3 k (.bool false) (.float .f64 0) (.bool false) (.slice none 0 0)) := Lib.hid (by rw [hw3]; exact PN.out.fr ((Fr.refl _ _).alloc _))
  have CO : Hid (Calls Tryz.prog 44 #[.agg #[.bool false, .slice none 0 0], .int .i64 11] w3 (NF w3 false 0 11)) := Lib.hid (r4out_c (a := none) (cap := 0) w3 false 0 11 (Nw.nil w3 0).in (fun _ => ⟨rfl, rfl⟩))
  go_wp2_with fail
  rw [← hw3]
  refine CO.out.mono ?_
  rintro e w5 ⟨a5, c5, rfl, I5, F5⟩
  have PN5 := Lib.hid (PN3.out.fr F5)
  have I5 := Lib.hid I5
  have G5 := Lib.hid (G3.out.same F5)
  have q0 := PN5.out.f 0
  have q1 := PN5.out.f 1
  have q2 := PN5.out.f 2
  have q3 := PN5.out.f 3
  have d0 := PN5.out.c0
  have d1 := PN5.out.c1
  have d2 := PN5.out.c2
  have d3 := PN5.out.c3
  have ql := PN5.out.lt
  clear hw3
  go_wp2_with fail
  refine bodyPost_ret (ret_nv2 rfl _ _ k _ _ _ _ rfl (PN5.out.set _ _ _ _)) rfl ?_
  exact ⟨a5, c5, rfl, I5.out.set4 PN5.out _ _ _ _, G5.out.set4 HK.out _ _ _ _⟩
set_option maxRecDepth 20000 in
set_option maxHeartbeats 1000000 in
theorem r4parse_flo (w : World) (S : ByteArray) (f : Nat)
    (C : ∀ w1, Calls Tryz.prog 43 #[.string S] w1 fun e w' => e = .returned (.tuple #[.agg #[.bool false, .slice none 0 0], .int .i64 13]) ∧ Fr [] w1 w')
    (CF : ∀ w1, Fr [] w w1 → Calls Tryz.prog 7 #[.string S] w1 fun x w' => x = .returned (.tuple #[.float .f64 f, .int .i64 0]) ∧ Fr [] w1 w') : Calls Tryz.prog 15 #[.string S] w (PR w true f false 0 0) := by
  obtain ⟨W1, hW1⟩ : ∃ W1, W1 = w.alloc (.cells #[.bool false, .float .f64 0, .bool false, .slice none 0 0] 38) := ⟨_, rfl⟩
  obtain ⟨k, hk⟩ : ∃ k, k = w.heap.size := ⟨_, rfl⟩
  have F1 : Hid (Fr [] w W1) := Lib.hid (by rw [hW1]; exact (Fr.refl _ _).alloc _)
  have PN : Hid (BxN W1 k (.bool false) (.float .f64 0) (.bool false) (.slice none 0 0)) := Lib.hid (by rw [hW1, hk]; exact BxN.new _ _ _ _ _)
  have HK : Hid (w.heap.size ≤ k) := Lib.hid (by omega)
  have C1 := Lib.hid (C W1)
  have CF := Lib.hid CF
  clear C
  have hsf := sf_run
  go_enter Tryz.func15, Tryz.ntmps15
  go_wp2_with fail
  rw [← hW1, ← hk]
  clear hW1 hk
  refine C1.out.mono ?_
  rintro e w2 ⟨rfl, F2⟩
  have PN := Lib.hid (PN.out.fr F2)
  have G2 := Lib.hid (F1.out.same F2)
  clear F1 F2 C1
  obtain ⟨w3, hw3⟩ : ∃ w3, w3 = w2.alloc (.cells #[.bool false, .slice none 0 0] 36) := ⟨_, rfl⟩
  have G3 : Hid (Fr [] w w3) := Lib.hid (by rw [hw3]; exact G2.out.alloc _)
  have PN3 : Hid (BxN w3 k (.bool false) (.float .f64 0) (.bool false) (.slice none 0 0)) := Lib.hid (by rw [hw3]; exact PN.out.fr ((Fr.refl _ _).alloc _))
  have CF3 := Lib.hid (CF.out w3 G3.out)
  clear CF
  go_wp2_with fail
  rw [← hw3]
  clear hw3
  refine CF3.out.mono ?_
  rintro e w4 ⟨rfl, F4⟩
  have PN4 := Lib.hid (PN3.out.fr F4)
  have G4 := Lib.hid (G3.out.same F4)
  go_wp2_with fail
  refine (r4flo_x w4 f).mono ?_
  rintro e w5 ⟨rfl, F5⟩
  have PN5 := Lib.hid (PN4.out.fr F5)
  have G5 := Lib.hid (G4.out.same F5)
  have q0 := PN5.out.f 0
  have q1 := PN5.out.f 1
  have q2 := PN5.out.f 2
  have q3 := PN5.out.f 3
  have d0 := PN5.out.c0
  have d1 := PN5.out.c1
  have d2 := PN5.out.c2
  have d3 := PN5.out.c3
  have ql := PN5.out.lt
  go_wp2_with fail
  refine bodyPost_ret (ret_nv2 rfl _ _ k _ _ _ _ rfl (PN5.out.set _ _ _ _)) rfl ?_
  exact ⟨none, 0, rfl, (Nw.nil _ 0).in, G5.out.set4 HK.out _ _ _ _⟩
set_option maxRecDepth 20000 in
set_option maxHeartbeats 1000000 in
theorem r4parse_bad (w : World) (S : ByteArray) (f en : Nat) (he : en ≠ 0)
    (C : ∀ w1, Calls Tryz.prog 43 #[.string S] w1 fun e w' => e = .returned (.tuple #[.agg #[.bool false, .slice none 0 0], .int .i64 13]) ∧ Fr [] w1 w')
    (CF : ∀ w1, Fr [] w w1 → Calls Tryz.prog 7 #[.string S] w1 fun x w' => x = .returned (.tuple #[.float .f64 f, .int .i64 (en : Int)]) ∧ Fr [] w1 w') : Calls Tryz.prog 15 #[.string S] w (PR w false 0 false 0 13) := by
  obtain ⟨W1, hW1⟩ : ∃ W1, W1 = w.alloc (.cells #[.bool false, .float .f64 0, .bool false, .slice none 0 0] 38) := ⟨_, rfl⟩
  obtain ⟨k, hk⟩ : ∃ k, k = w.heap.size := ⟨_, rfl⟩
  have F1 : Hid (Fr [] w W1) := Lib.hid (by rw [hW1]; exact (Fr.refl _ _).alloc _)
  have PN : Hid (BxN W1 k (.bool false) (.float .f64 0) (.bool false) (.slice none 0 0)) := Lib.hid (by rw [hW1, hk]; exact BxN.new _ _ _ _ _)
  have HK : Hid (w.heap.size ≤ k) := Lib.hid (by omega)
  have C1 := Lib.hid (C W1)
  have CF := Lib.hid CF
  clear C
  have hsf := sf_run
  have ge : ((en : Int) != 0) = true := by rw [bne_iff_ne]; omega
  clear he
  go_enter Tryz.func15, Tryz.ntmps15
  go_wp2_with fail
  rw [← hW1, ← hk]
  clear hW1 hk
  refine C1.out.mono ?_
  rintro e w2 ⟨rfl, F2⟩
  have PN := Lib.hid (PN.out.fr F2)
  have G2 := Lib.hid (F1.out.same F2)
  clear F1 F2 C1
  obtain ⟨w3, hw3⟩ : ∃ w3, w3 = w2.alloc (.cells #[.bool false, .slice none 0 0] 36) := ⟨_, rfl⟩
  have G3 : Hid (Fr [] w w3) := Lib.hid (by rw [hw3]; exact G2.out.alloc _)
  have PN3 : Hid (BxN w3 k (.bool false) (.float .f64 0) (.bool false) (.slice none 0 0)) := Lib.hid (by rw [hw3]; exact PN.out.fr ((Fr.refl _ _).alloc _))
  have CF3 := Lib.hid (CF.out w3 G3.out)
  clear CF
  go_wp2_with fail
  rw [← hw3]
  clear hw3
  refine CF3.out.mono ?_
  rintro e w4 ⟨rfl, F4⟩
  have PN4 := Lib.hid (PN3.out.fr F4)
  have G4 := Lib.hid (G3.out.same F4)
  have q0 := PN4.out.f 0
  have q1 := PN4.out.f 1
  have q2 := PN4.out.f 2
  have q3 := PN4.out.f 3
  have d0 := PN4.out.c0
  have d1 := PN4.out.c1
  have d2 := PN4.out.c2
  have d3 := PN4.out.c3
  have ql := PN4.out.lt
  go_wp2_with fail
  refine bodyPost_ret (ret_nv2 rfl _ _ k _ _ _ _ rfl (PN4.out.set _ _ _ _)) rfl ?_
  exact ⟨none, 0, rfl, (Nw.nil _ 0).in, G4.out.set4 HK.out _ _ _ _⟩
set_option maxRecDepth 20000 in
set_option maxHeartbeats 1000000 in
theorem r4text_flo (w : World) (f : Nat) (s : Bool) (l : Nat) (T : ByteArray) (C : ∀ w1, Fr [] w w1 → Calls Tryz.prog 10 #[.float .f64 f] w1 fun e w' => e = .returned (.string T) ∧ Fr [] w1 w') : Calls Tryz.prog 17 #[.agg #[.bool true, .float .f64 f, .bool s, .slice a l cap]] w fun e w' => e = .returned (.string T) ∧ Fr [] w w' := by
  obtain ⟨W1, hW1⟩ : ∃ W1, W1 = w.alloc (.cells #[.bool true, .float .f64 f, .bool s, .slice a l cap] 38) := ⟨_, rfl⟩
  have F1 : Hid (Fr [] w W1) := Lib.hid (by rw [hW1]; exact (Fr.refl _ _).alloc _)
  have CT := Lib.hid (C W1 F1.out)
  clear C
  go_enter Tryz.func17, Tryz.ntmps17
  go_wp2_with fail
  rw [← hW1]
  refine CT.out.mono ?_
  rintro e w2 ⟨rfl, F2⟩
  go_wp2
  go_ret
  exact ⟨rfl, F1.out.same F2⟩
set_option maxRecDepth 20000 in
set_option maxHeartbeats 1000000 in
theorem r4text_int (w : World) (f : Nat) (s : Bool) (l : Nat) (T : ByteArray) (C : ∀ w1, Fr [] w w1 → Calls Tryz.prog 20 #[.agg #[.bool s, .slice a l cap]] w1 fun e w' => e = .returned (.string T) ∧ Fr [] w1 w') : Calls Tryz.prog 17 #[.agg #[.bool false, .float .f64 f, .bool s, .slice a l cap]] w fun e w' => e = .returned (.string T) ∧ Fr [] w w' := by
  obtain ⟨W1, hW1⟩ : ∃ W1, W1 = w.alloc (.cells #[.bool false, .float .f64 f, .bool s, .slice a l cap] 38) := ⟨_, rfl⟩
  have F1 : Hid (Fr [] w W1) := Lib.hid (by rw [hW1]; exact (Fr.refl _ _).alloc _)
  have CT := Lib.hid (C W1 F1.out)
  clear C
  go_enter Tryz.func17, Tryz.ntmps17
  go_wp2_with fail
  rw [← hW1]
  refine CT.out.mono ?_
  rintro e w2 ⟨rfl, F2⟩
  go_wp2
  go_ret
  exact ⟨rfl, F1.out.same F2⟩
end Go.Proofs.YtcjkgnafpkkjmaaGreatDoor
end
section
namespace Go.Proofs.YtcjkgnafpkkjmaaGreatDoor
open Go.ChangeShapes Go.WideShapes Go.RowKit
variable {w w' : World} {a a2 : Option Addr} {cap cap2 : Nat}
end Go.Proofs.YtcjkgnafpkkjmaaGreatDoor
namespace Go.Proofs.YtcjkgnafpkkjmaaGreatDoor
open Go.ChangeShapes Go.WideShapes Go.RowKit
variable {w w' : World} {a a2 : Option Addr} {cap cap2 : Nat}
end Go.Proofs.YtcjkgnafpkkjmaaGreatDoor
namespace Go.Proofs.YtcjkgnafpkkjmaaGreatDoor
open Go.ChangeShapes Go.WideShapes Go.RowKit
variable {w w' : World} {a a2 : Option Addr} {cap cap2 : Nat}
end Go.Proofs.YtcjkgnafpkkjmaaGreatDoor
namespace Go.Proofs.YtcjkgnafpkkjmaaGreatDoor
open Go.ChangeShapes Go.WideShapes Go.RowKit
open Ieee
variable {w w' : World} {a a2 : Option Addr} {cap cap2 : Nat}
def tsP (fl : Bool) (f : Nat) (s : Bool) (n : Nat) (fl2 : Bool) (f2 : Nat) (s2 : Bool) (m : Nat) : Bool := match fl, fl2 with
  | true, true => decide (bitsC f = bitsC f2)
  | false, false => decide (s = s2 ∧ n = m)
  | _, _ => false
set_option maxHeartbeats 1000000 in
set_option maxRecDepth 20000 in
theorem r4same_c (w : World) (fl : Bool) (f : Nat) (s : Bool) (n : Nat) (fl2 : Bool) (f2 : Nat) (s2 : Bool) (m : Nat) (hf : f < 18446744073709551616) (hf2 : f2 < 18446744073709551616) (h : In w a cap (lims n)) (h2 : In w a2 cap2 (lims m)) :
    Calls Tryz.prog 18 #[.agg #[.bool fl, .float .f64 f, .bool s, .slice a (lims n).length cap], .agg #[.bool fl2, .float .f64 f2, .bool s2, .slice a2 (lims m).length cap2]] w fun e w' => e = .returned (.bool (tsP fl f s n fl2 f2 s2 m)) ∧ Fr [] w w' := by
  obtain ⟨W1, hW1⟩ : ∃ W1, W1 = (w.alloc (.cells #[.bool fl, .float .f64 f, .bool s, .slice a (lims n).length cap] 38)).alloc (.cells #[.bool fl2, .float .f64 f2, .bool s2, .slice a2 (lims m).length cap2] 38) := ⟨_, rfl⟩
  have F1 : Hid (Fr [] w W1) := Lib.hid (by rw [hW1]; exact ((Fr.refl _ _).alloc _).alloc _)
  have CE := Lib.hid (r2same_c W1 s s2 n m (h.keep F1.out) (h2.keep F1.out))
  have CF := Lib.hid (r3same_c f f2 hf hf2 W1)
  obtain ⟨p, hp⟩ : ∃ p, p = decide (s = s2 ∧ n = m) := ⟨_, rfl⟩
  obtain ⟨q, hq⟩ : ∃ q, q = decide (bitsC f = bitsC f2) := ⟨_, rfl⟩
  have e1 : tsP fl f s n fl2 f2 s2 m = (if fl && fl2 then q else if fl || fl2 then false else p) := by rw [hp, hq]; unfold tsP; cases fl <;> cases fl2 <;> rfl
  rw [e1]
  rw [← hp] at CE
  rw [← hq] at CF
  clear hp hq e1 h h2 hf hf2
  generalize (lims n).length = l at *
  generalize (lims m).length = l2 at *
  cases fl with
  | false =>
    cases fl2 with
    | false =>
      go_enter Tryz.func18, Tryz.ntmps18
      go_wp2_with fail
      rw [← hW1]
      refine CE.out.mono ?_
      rintro e w2 ⟨rfl, F2⟩
      go_wp2
      go_ret
      exact ⟨rfl, F1.out.same F2⟩
    | true =>
      go_enter Tryz.func18, Tryz.ntmps18
      go_wp2
      go_ret
      rw [← hW1]
      exact ⟨rfl, F1.out⟩
  | true =>
    cases fl2 with
    | false =>
      go_enter Tryz.func18, Tryz.ntmps18
      go_wp2
      go_ret
      rw [← hW1]
      exact ⟨rfl, F1.out⟩
    | true =>
      go_enter Tryz.func18, Tryz.ntmps18
      go_wp2_with fail
      rw [← hW1]
      refine CF.out.mono ?_
      rintro e w2 ⟨rfl, F2⟩
      go_wp2
      go_ret
      exact ⟨rfl, F1.out.same F2⟩
end Go.Proofs.YtcjkgnafpkkjmaaGreatDoor
end
