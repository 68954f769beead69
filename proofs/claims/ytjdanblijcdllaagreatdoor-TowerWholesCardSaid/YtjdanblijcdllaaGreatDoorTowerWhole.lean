/- TowerWholes: what tower does with two exact ones is what the document does. No condition. The row lists pinned tables of Go's library, tied to the program's text by the card. -/
import Derived.Test.YtjdanblijcdllaaGreatDoorTwZQ
import Derived.Test.YtjdanblijcdllaaGreatDoorTwR
/- towerWholes: what tower does with two exact ones is what the document does. -/
set_option linter.all false
namespace Go.Proofs.YtjdanblijcdllaaGreatDoor.towerWholes
open Go.ChangeShapes Go.WideShapes Go.RowKit Go.Proofs.YtjdanblijcdllaaGreatDoor
theorem fits_of {n : Nat} (h : n < B2) : fits n = true := by
  unfold B2 at h
  exact decide_eq_true h
set_option maxRecDepth 100000 in
set_option maxHeartbeats 4000000 in
theorem walk_left (z : Int) (fl1 : Bool) (f1 : Nat) (s1 : Bool) (a1 : Option Addr) (l1 : Nat) (c1 : Nat) (fl2 : Bool) (f2 : Nat) (s2 : Bool) (a2 : Option Addr) (l2 : Nat) (c2 : Nat) (W : World) (hT : LdT W)
    (RL : Hid (∀ W', Fr [] W W' → Calls Tryz.prog 12 #[.agg #[.bool fl1, .float .f64 f1, .bool s1, .slice a1 l1 c1], .agg #[.bool fl2, .float .f64 f2, .bool s2, .slice a2 l2 c2]] W' fun e w' => e = .returned (.bool false) ∧ Fr [] W' w')) :
    Calls Tryz.prog 5 #[.int .i64 z, .agg #[.bool fl1, .float .f64 f1, .bool s1, .slice a1 l1 c1], .agg #[.bool fl2, .float .f64 f2, .bool s2, .slice a2 l2 c2]] W fun e W' => e = .returned (.bool true) ∧ Below W.heap.size W W' := by
  have HL := Lib.hid hT
  obtain ⟨W1, hW1⟩ : ∃ W1, W1 = (W.alloc (.cells #[.bool fl1, .float .f64 f1, .bool s1, .slice a1 l1 c1] 27)).alloc (.cells #[.bool fl2, .float .f64 f2, .bool s2, .slice a2 l2 c2] 27) := ⟨_, rfl⟩
  obtain ⟨k, hk⟩ : ∃ k, k = W.heap.size := ⟨_, rfl⟩
  have F1 : Hid (Fr [] W W1) := Lib.hid (by rw [hW1]; exact ((Fr.refl _ _).alloc _).alloc _)
  have PA : Hid (BxN W1 k (.bool fl1) (.float .f64 f1) (.bool s1) (.slice a1 l1 c1)) := Lib.hid (by
    unfold BxN
    rw [hW1, hk]
    simp only [blk_alloc, size_alloc]
    rw [if_neg (by omega), if_pos trivial])
  have PB : Hid (BxN W1 (k + 1) (.bool fl2) (.float .f64 f2) (.bool s2) (.slice a2 l2 c2)) := Lib.hid (by
    unfold BxN
    rw [hW1, hk]
    simp only [blk_alloc, size_alloc]
    rw [if_pos trivial])
  clear hT
  go_enter Tryz.func5, Tryz.ntmps5
  go_wp2_with fail
  rw [← hW1, ← hk]
  clear hW1 hk
  refine (towerAlive_c W1 (HL.out.fr F1.out)).mono ?_
  rintro e w2 ⟨rfl, Fz⟩
  have PA := Lib.hid (PA.out.fr Fz)
  have PB := Lib.hid (PB.out.fr Fz)
  have G2 := Lib.hid (F1.out.same Fz)
  clear F1 Fz HL
  have pa0 := PA.out.c0
  have pa1 := PA.out.c1
  have pa2 := PA.out.c2
  have pa3 := PA.out.c3
  have pal := PA.out.lt
  have pb0 := PB.out.c0
  have pb1 := PB.out.c1
  have pb2 := PB.out.c2
  have pb3 := PB.out.c3
  have pbl := PB.out.lt
  go_wp2_with fail
  refine (RL.out w2 G2.out).mono ?_
  rintro e w3 ⟨rfl, F3⟩
  replace PA := Lib.hid (PA.out.fr F3)
  replace PB := Lib.hid (PB.out.fr F3)
  have G3 := Lib.hid (G2.out.same F3)
  clear F3 G2 RL
  replace pa0 := PA.out.c0
  replace pa1 := PA.out.c1
  replace pa2 := PA.out.c2
  replace pa3 := PA.out.c3
  replace pal := PA.out.lt
  replace pb0 := PB.out.c0
  replace pb1 := PB.out.c1
  replace pb2 := PB.out.c2
  replace pb3 := PB.out.c3
  replace pbl := PB.out.lt
  go_wp2_with fail
  go_ret
  exact ⟨rfl, G3.out.below⟩
set_option maxRecDepth 100000 in
set_option maxHeartbeats 4000000 in
theorem walk_len1 (z : Int) (fl1 : Bool) (f1 : Nat) (s1 : Bool) (a1 : Option Addr) (l1 : Nat) (c1 : Nat) (fl2 : Bool) (f2 : Nat) (s2 : Bool) (a2 : Option Addr) (l2 : Nat) (c2 : Nat) (W : World) (hT : LdT W) (g8 : (8 : Int) < (l1 : Int))
    (RL : Hid (∀ W', Fr [] W W' → Calls Tryz.prog 12 #[.agg #[.bool fl1, .float .f64 f1, .bool s1, .slice a1 l1 c1], .agg #[.bool fl2, .float .f64 f2, .bool s2, .slice a2 l2 c2]] W' fun e w' => e = .returned (.bool true) ∧ Fr [] W' w')) :
    Calls Tryz.prog 5 #[.int .i64 z, .agg #[.bool fl1, .float .f64 f1, .bool s1, .slice a1 l1 c1], .agg #[.bool fl2, .float .f64 f2, .bool s2, .slice a2 l2 c2]] W fun e W' => e = .returned (.bool true) ∧ Below W.heap.size W W' := by
  have HL := Lib.hid hT
  obtain ⟨W1, hW1⟩ : ∃ W1, W1 = (W.alloc (.cells #[.bool fl1, .float .f64 f1, .bool s1, .slice a1 l1 c1] 27)).alloc (.cells #[.bool fl2, .float .f64 f2, .bool s2, .slice a2 l2 c2] 27) := ⟨_, rfl⟩
  obtain ⟨k, hk⟩ : ∃ k, k = W.heap.size := ⟨_, rfl⟩
  have F1 : Hid (Fr [] W W1) := Lib.hid (by rw [hW1]; exact ((Fr.refl _ _).alloc _).alloc _)
  have PA : Hid (BxN W1 k (.bool fl1) (.float .f64 f1) (.bool s1) (.slice a1 l1 c1)) := Lib.hid (by
    unfold BxN
    rw [hW1, hk]
    simp only [blk_alloc, size_alloc]
    rw [if_neg (by omega), if_pos trivial])
  have PB : Hid (BxN W1 (k + 1) (.bool fl2) (.float .f64 f2) (.bool s2) (.slice a2 l2 c2)) := Lib.hid (by
    unfold BxN
    rw [hW1, hk]
    simp only [blk_alloc, size_alloc]
    rw [if_pos trivial])
  clear hT
  go_enter Tryz.func5, Tryz.ntmps5
  go_wp2_with fail
  rw [← hW1, ← hk]
  clear hW1 hk
  refine (towerAlive_c W1 (HL.out.fr F1.out)).mono ?_
  rintro e w2 ⟨rfl, Fz⟩
  have PA := Lib.hid (PA.out.fr Fz)
  have PB := Lib.hid (PB.out.fr Fz)
  have G2 := Lib.hid (F1.out.same Fz)
  clear F1 Fz HL
  have pa0 := PA.out.c0
  have pa1 := PA.out.c1
  have pa2 := PA.out.c2
  have pa3 := PA.out.c3
  have pal := PA.out.lt
  have pb0 := PB.out.c0
  have pb1 := PB.out.c1
  have pb2 := PB.out.c2
  have pb3 := PB.out.c3
  have pbl := PB.out.lt
  go_wp2_with fail
  refine (RL.out w2 G2.out).mono ?_
  rintro e w3 ⟨rfl, F3⟩
  replace PA := Lib.hid (PA.out.fr F3)
  replace PB := Lib.hid (PB.out.fr F3)
  have G3 := Lib.hid (G2.out.same F3)
  clear F3 G2 RL
  replace pa0 := PA.out.c0
  replace pa1 := PA.out.c1
  replace pa2 := PA.out.c2
  replace pa3 := PA.out.c3
  replace pal := PA.out.lt
  replace pb0 := PB.out.c0
  replace pb1 := PB.out.c1
  replace pb2 := PB.out.c2
  replace pb3 := PB.out.c3
  replace pbl := PB.out.lt
  go_wp2_with fail
  go_ret
  exact ⟨rfl, G3.out.below⟩
set_option maxRecDepth 100000 in
set_option maxHeartbeats 4000000 in
theorem walk_len2 (z : Int) (fl1 : Bool) (f1 : Nat) (s1 : Bool) (a1 : Option Addr) (l1 : Nat) (c1 : Nat) (fl2 : Bool) (f2 : Nat) (s2 : Bool) (a2 : Option Addr) (l2 : Nat) (c2 : Nat) (W : World) (hT : LdT W) (g8 : ¬ (8 : Int) < (l1 : Int)) (g9 : (8 : Int) < (l2 : Int))
    (RL : Hid (∀ W', Fr [] W W' → Calls Tryz.prog 12 #[.agg #[.bool fl1, .float .f64 f1, .bool s1, .slice a1 l1 c1], .agg #[.bool fl2, .float .f64 f2, .bool s2, .slice a2 l2 c2]] W' fun e w' => e = .returned (.bool true) ∧ Fr [] W' w')) :
    Calls Tryz.prog 5 #[.int .i64 z, .agg #[.bool fl1, .float .f64 f1, .bool s1, .slice a1 l1 c1], .agg #[.bool fl2, .float .f64 f2, .bool s2, .slice a2 l2 c2]] W fun e W' => e = .returned (.bool true) ∧ Below W.heap.size W W' := by
  have HL := Lib.hid hT
  obtain ⟨W1, hW1⟩ : ∃ W1, W1 = (W.alloc (.cells #[.bool fl1, .float .f64 f1, .bool s1, .slice a1 l1 c1] 27)).alloc (.cells #[.bool fl2, .float .f64 f2, .bool s2, .slice a2 l2 c2] 27) := ⟨_, rfl⟩
  obtain ⟨k, hk⟩ : ∃ k, k = W.heap.size := ⟨_, rfl⟩
  have F1 : Hid (Fr [] W W1) := Lib.hid (by rw [hW1]; exact ((Fr.refl _ _).alloc _).alloc _)
  have PA : Hid (BxN W1 k (.bool fl1) (.float .f64 f1) (.bool s1) (.slice a1 l1 c1)) := Lib.hid (by
    unfold BxN
    rw [hW1, hk]
    simp only [blk_alloc, size_alloc]
    rw [if_neg (by omega), if_pos trivial])
  have PB : Hid (BxN W1 (k + 1) (.bool fl2) (.float .f64 f2) (.bool s2) (.slice a2 l2 c2)) := Lib.hid (by
    unfold BxN
    rw [hW1, hk]
    simp only [blk_alloc, size_alloc]
    rw [if_pos trivial])
  clear hT
  go_enter Tryz.func5, Tryz.ntmps5
  go_wp2_with fail
  rw [← hW1, ← hk]
  clear hW1 hk
  refine (towerAlive_c W1 (HL.out.fr F1.out)).mono ?_
  rintro e w2 ⟨rfl, Fz⟩
  have PA := Lib.hid (PA.out.fr Fz)
  have PB := Lib.hid (PB.out.fr Fz)
  have G2 := Lib.hid (F1.out.same Fz)
  clear F1 Fz HL
  have pa0 := PA.out.c0
  have pa1 := PA.out.c1
  have pa2 := PA.out.c2
  have pa3 := PA.out.c3
  have pal := PA.out.lt
  have pb0 := PB.out.c0
  have pb1 := PB.out.c1
  have pb2 := PB.out.c2
  have pb3 := PB.out.c3
  have pbl := PB.out.lt
  go_wp2_with fail
  refine (RL.out w2 G2.out).mono ?_
  rintro e w3 ⟨rfl, F3⟩
  replace PA := Lib.hid (PA.out.fr F3)
  replace PB := Lib.hid (PB.out.fr F3)
  have G3 := Lib.hid (G2.out.same F3)
  clear F3 G2 RL
  replace pa0 := PA.out.c0
  replace pa1 := PA.out.c1
  replace pa2 := PA.out.c2
  replace pa3 := PA.out.c3
  replace pal := PA.out.lt
  replace pb0 := PB.out.c0
  replace pb1 := PB.out.c1
  replace pb2 := PB.out.c2
  replace pb3 := PB.out.c3
  replace pbl := PB.out.lt
  go_wp2_with fail
  go_ret
  exact ⟨rfl, G3.out.below⟩
set_option maxRecDepth 100000 in
set_option maxHeartbeats 4000000 in
theorem walk_all (z : Int) (fl1 : Bool) (f1 : Nat) (s1 : Bool) (a1 : Option Addr) (l1 : Nat) (c1 : Nat) (fl2 : Bool) (f2 : Nat) (s2 : Bool) (a2 : Option Addr) (l2 : Nat) (c2 : Nat) (W : World) (hT : LdT W) (g8 : ¬ (8 : Int) < (l1 : Int)) (g9 : ¬ (8 : Int) < (l2 : Int))
    (BW : Hid (BothW W z (.agg #[.bool fl1, .float .f64 f1, .bool s1, .slice a1 l1 c1]) (.agg #[.bool fl2, .float .f64 f2, .bool s2, .slice a2 l2 c2])))
    (RL : Hid (∀ W', Fr [] W W' → Calls Tryz.prog 12 #[.agg #[.bool fl1, .float .f64 f1, .bool s1, .slice a1 l1 c1], .agg #[.bool fl2, .float .f64 f2, .bool s2, .slice a2 l2 c2]] W' fun e w' => e = .returned (.bool true) ∧ Fr [] W' w')) :
    Calls Tryz.prog 5 #[.int .i64 z, .agg #[.bool fl1, .float .f64 f1, .bool s1, .slice a1 l1 c1], .agg #[.bool fl2, .float .f64 f2, .bool s2, .slice a2 l2 c2]] W fun e W' => e = .returned (.bool true) ∧ Below W.heap.size W W' := by
  have HL := Lib.hid hT
  obtain ⟨W1, hW1⟩ : ∃ W1, W1 = (W.alloc (.cells #[.bool fl1, .float .f64 f1, .bool s1, .slice a1 l1 c1] 27)).alloc (.cells #[.bool fl2, .float .f64 f2, .bool s2, .slice a2 l2 c2] 27) := ⟨_, rfl⟩
  obtain ⟨k, hk⟩ : ∃ k, k = W.heap.size := ⟨_, rfl⟩
  have F1 : Hid (Fr [] W W1) := Lib.hid (by rw [hW1]; exact ((Fr.refl _ _).alloc _).alloc _)
  have PA : Hid (BxN W1 k (.bool fl1) (.float .f64 f1) (.bool s1) (.slice a1 l1 c1)) := Lib.hid (by
    unfold BxN
    rw [hW1, hk]
    simp only [blk_alloc, size_alloc]
    rw [if_neg (by omega), if_pos trivial])
  have PB : Hid (BxN W1 (k + 1) (.bool fl2) (.float .f64 f2) (.bool s2) (.slice a2 l2 c2)) := Lib.hid (by
    unfold BxN
    rw [hW1, hk]
    simp only [blk_alloc, size_alloc]
    rw [if_pos trivial])
  clear hT
  obtain ⟨t, n, c, CX, CY⟩ := BW.out
  have CX := Lib.hid CX
  have CY := Lib.hid CY
  clear BW
  have CS : Hid (∀ (w1 : World) (a : Option Addr) (c : Nat) (a' : Option Addr) (c' : Nat), In w1 a c (lims n) → In w1 a' c' (lims n) → Calls Tryz.prog 18 #[.agg #[.bool false, .float .f64 0, .bool t, .slice a (lims n).length c], .agg #[.bool false, .float .f64 0, .bool t, .slice a' (lims n).length c']] w1 fun e w' => e = .returned (.bool true) ∧ Fr [] w1 w') := Lib.hid (fun w1 a c a' c' h h2 => by
    have := r4same_c w1 false 0 t n false 0 t n (by decide) (by decide) h h2
    rw [show tsP false 0 t n false 0 t n = true by unfold tsP; simp] at this
    exact this)
  have hsf := sf_run
  go_enter Tryz.func5, Tryz.ntmps5
  go_wp2_with fail
  rw [← hW1, ← hk]
  clear hW1 hk
  refine (towerAlive_c W1 (HL.out.fr F1.out)).mono ?_
  rintro e w2 ⟨rfl, Fz⟩
  have PA := Lib.hid (PA.out.fr Fz)
  have PB := Lib.hid (PB.out.fr Fz)
  have G2 := Lib.hid (F1.out.same Fz)
  clear F1 Fz HL
  have pa0 := PA.out.c0
  have pa1 := PA.out.c1
  have pa2 := PA.out.c2
  have pa3 := PA.out.c3
  have pal := PA.out.lt
  have pb0 := PB.out.c0
  have pb1 := PB.out.c1
  have pb2 := PB.out.c2
  have pb3 := PB.out.c3
  have pbl := PB.out.lt
  go_wp2_with fail
  refine (RL.out w2 G2.out).mono ?_
  rintro e w3 ⟨rfl, F3⟩
  replace PA := Lib.hid (PA.out.fr F3)
  replace PB := Lib.hid (PB.out.fr F3)
  have G3 := Lib.hid (G2.out.same F3)
  clear F3 G2 RL
  replace pa0 := PA.out.c0
  replace pa1 := PA.out.c1
  replace pa2 := PA.out.c2
  replace pa3 := PA.out.c3
  replace pal := PA.out.lt
  replace pb0 := PB.out.c0
  replace pb1 := PB.out.c1
  replace pb2 := PB.out.c2
  replace pb3 := PB.out.c3
  replace pbl := PB.out.lt
  go_wp2_with fail
  refine (CX.out w3 G3.out).mono ?_
  rintro e w4 ⟨a3, c3, rfl, I3, F4⟩
  replace PA := Lib.hid (PA.out.fr F4)
  replace PB := Lib.hid (PB.out.fr F4)
  have G4 := Lib.hid (G3.out.same F4)
  have I3 := Lib.hid I3
  clear F4 G3 CX
  replace pa0 := PA.out.c0
  replace pa1 := PA.out.c1
  replace pa2 := PA.out.c2
  replace pa3 := PA.out.c3
  replace pal := PA.out.lt
  replace pb0 := PB.out.c0
  replace pb1 := PB.out.c1
  replace pb2 := PB.out.c2
  replace pb3 := PB.out.c3
  replace pbl := PB.out.lt
  obtain ⟨W5, hW5⟩ : ∃ W5, W5 = w4.alloc (.cells #[.bool false, .float .f64 0, .bool t, .slice a3 (lims n).length c3] 27) := ⟨_, rfl⟩
  obtain ⟨kx, hkx⟩ : ∃ kx, kx = w4.heap.size := ⟨_, rfl⟩
  have F5 : Hid (Fr [] w4 W5) := Lib.hid (by rw [hW5]; exact (Fr.refl _ _).alloc _)
  have PX : Hid (BxN W5 kx (.bool false) (.float .f64 0) (.bool t) (.slice a3 (lims n).length c3)) := Lib.hid (by
    unfold BxN
    rw [hW5, hkx]
    simp only [blk_alloc]
    rw [if_pos trivial])
  go_wp2_with fail
  rw [← hW5, ← hkx]
  clear hW5 hkx
  replace PA := Lib.hid (PA.out.fr F5.out)
  replace PB := Lib.hid (PB.out.fr F5.out)
  replace G4 := Lib.hid (G4.out.same F5.out)
  replace I3 := Lib.hid (I3.out.keep F5.out)
  clear F5
  replace pa0 := PA.out.c0
  replace pa1 := PA.out.c1
  replace pa2 := PA.out.c2
  replace pa3 := PA.out.c3
  replace pal := PA.out.lt
  replace pb0 := PB.out.c0
  replace pb1 := PB.out.c1
  replace pb2 := PB.out.c2
  replace pb3 := PB.out.c3
  replace pbl := PB.out.lt
  go_wp2_with fail
  refine (CY.out W5 G4.out).mono ?_
  rintro e w6 ⟨a5, c5, rfl, I5, F6⟩
  replace PX := Lib.hid (PX.out.fr F6)
  have G6 := Lib.hid (G4.out.same F6)
  replace I3 := Lib.hid (I3.out.keep F6)
  have I5 := Lib.hid I5
  clear F6 G4 CY PA PB pa0 pa1 pa2 pa3 pal pb0 pb1 pb2 pb3 pbl
  obtain ⟨W7, hW7⟩ : ∃ W7, W7 = w6.alloc (.cells #[.bool false, .float .f64 0, .bool t, .slice a5 (lims n).length c5] 27) := ⟨_, rfl⟩
  obtain ⟨ky, hky⟩ : ∃ ky, ky = w6.heap.size := ⟨_, rfl⟩
  have F7 : Hid (Fr [] w6 W7) := Lib.hid (by rw [hW7]; exact (Fr.refl _ _).alloc _)
  have PY : Hid (BxN W7 ky (.bool false) (.float .f64 0) (.bool t) (.slice a5 (lims n).length c5)) := Lib.hid (by
    unfold BxN
    rw [hW7, hky]
    simp only [blk_alloc]
    rw [if_pos trivial])
  replace I3 := Lib.hid (I3.out.keep F7.out)
  replace I5 := Lib.hid (I5.out.keep F7.out)
  have x0 := PX.out.c0
  have x1 := PX.out.c1
  have x2 := PX.out.c2
  have x3 := PX.out.c3
  have xl := PX.out.lt
  go_wp2_with fail
  rw [← hW7]
  replace G6 := Lib.hid (G6.out.same F7.out)
  clear hW7 hky F7 x0 x1 x2 x3 xl PX PY
  refine (CS.out W7 _ _ _ _ I3.out I5.out).mono ?_
  rintro e w8 ⟨rfl, F8⟩
  have G8 := Lib.hid (G6.out.same F8)
  clear F8 G6
  go_wp2_with fail
  go_ret
  exact ⟨rfl, G8.out.below⟩
set_option maxHeartbeats 1000000 in
theorem walk (z : Int) (z1 z2 : NA) (W : World) (_ : (Lit.int .i64 z).wf = true) (h1 : InN W z1) (h2 : InN W z2) (hT0 : laidMet Tryz.prog listed W) :
    Calls Tryz.prog 5 #[.int .i64 z, .agg #[.bool z1.fl, .float .f64 z1.f, .bool z1.i.s, .slice z1.i.a z1.i.len z1.i.cap], .agg #[.bool z2.fl, .float .f64 z2.f, .bool z2.i.s, .slice z2.i.a z2.i.len z2.i.cap]] W fun e W' => e = .returned (.bool true) ∧ Below W.heap.size W W' := by
  have hT := ldT_of hT0
  obtain ⟨fl1, f1, s1, a1, l1, c1⟩ := z1
  obtain ⟨fl2, f2, s2, a2, l2, c2⟩ := z2
  obtain ⟨hf1, L1, hL1⟩ := h1
  obtain ⟨hf2, L2, hL2⟩ := h2
  have hL1 : InA W a1 l1 c1 L1 := hL1
  have hL2 : InA W a2 l2 c2 L2 := hL2
  have RL : Hid (∀ W', Fr [] W W' → Calls Tryz.prog 12 #[.agg #[.bool fl1, .float .f64 f1, .bool s1, .slice a1 l1 c1], .agg #[.bool fl2, .float .f64 f2, .bool s2, .slice a2 l2 c2]] W' fun e w' => e = .returned (.bool (rightN fl1 f1 s1 L1 && rightN fl2 f2 s2 L2)) ∧ Fr [] W' w') := Lib.hid (fun W' h => lawright_c W' fl1 f1 s1 l1 fl2 f2 s2 l2 _ _ (fun w2 h2 => r4right_c w2 fl1 f1 s1 l1 (hL1.keep (h.same h2))) (fun w2 h2 => r4right_c w2 fl2 f2 s2 l2 (hL2.keep (h.same h2))))
  cases hr : (rightN fl1 f1 s1 L1 && rightN fl2 f2 s2 L2) with
  | false =>
    rw [hr] at RL
    exact walk_left z fl1 f1 s1 a1 l1 c1 fl2 f2 s2 a2 l2 c2 W hT RL
  | true =>
    rw [hr] at RL
    have hr1 : rightN fl1 f1 s1 L1 = true := by simp at hr; exact hr.1
    have hr2 : rightN fl2 f2 s2 L2 = true := by simp at hr; exact hr.2
    by_cases g8 : (8 : Int) < (l1 : Int)
    · exact walk_len1 z fl1 f1 s1 a1 l1 c1 fl2 f2 s2 a2 l2 c2 W hT g8 RL
    by_cases g9 : (8 : Int) < (l2 : Int)
    · exact walk_len2 z fl1 f1 s1 a1 l1 c1 fl2 f2 s2 a2 l2 c2 W hT g8 g9 RL
    obtain ⟨n1, e1, I1, hn1, hs1, hq1⟩ := right_openN hL1 hr1
    obtain ⟨n2, e2, I2, hn2, hs2, hq2⟩ := right_openN hL2 hr2
    subst e1
    subst e2
    exact walk_all z fl1 f1 s1 a1 _ c1 fl2 f2 s2 a2 _ c2 W hT g8 g9 (Lib.hid (both_all W z fl1 fl2 f1 f2 s1 s2 n1 n2 I1 I2 (fits_of hn1) (fits_of hn2) hq1 hq2 hs2)) RL
set_option maxRecDepth 100000 in
theorem lifted (os : Os) (started : os.Started) (H : Type) (enc : TypeId × Value → H) :
    ReturnsInHanded {} Tryz.checked os 5 .any (fun w args => (Rows.towerWholesSpec.pre enc Tryz.prog Tryz.f5 [] false w args ∧ laidMetH Tryz.prog listed w) ∧ sizedMet enc Tryz.prog Tryz.f5 (OpenSpec.ofChange Rows.towerWholesSpec) false w args) (Rows.towerWholesSpec.post enc Tryz.prog Tryz.f5 false true false false) := by
  refine returnsInHanded_of_change_and (C := Tryz.checked) (X := fun w _ => laidMetH Tryz.prog listed w) (fun _ _ _ hh h => h.of_heap hh) own started (by kernel_rfl) Tryz.func5
    (ChangeSpec.witness_shaped (enc := enc) (C := Tryz.checked) (os := os) (X := fun w _ => laidMetH Tryz.prog listed w) false (World.laidAll Tryz.prog os listed) #[.int .i64 0, zeroN, zeroN] 8 (World.laidAll_os _ _ _) (World.shaped_of_ZipB (by kernel_rfl) (by kernel_rfl)) (by kernel_rfl) (by kernel_rfl) (by kernel_rfl) (by rw [MakeChecks.laidMetH_plain _ _ _ (by kernel_rfl)]; exact listed_met os _)) ?_
  intro W base args ds gs before hval0 hW _ _ hL _
  rw [MakeChecks.laidMetH_plain _ _ _ (by kernel_rfl)] at hL
  have hT := hL
  have hval : ∀ (j : Nat) t v, Tryz.f5.params[j]? = some t → args[j]? = some v → Value.okWide Tryz.prog W .any base t v := hval0
  have hW' := hW
  obtain ⟨p, q, hA0, hV, rfl, hfz, hnd⟩ := hW
  have hA : DataW.TrodAll enc Tryz.prog W 0 (fun _ => true) true Tryz.f5.params.toList args.toList ds p := hA0
  rw [Tryz.params5] at hA hval
  obtain ⟨v0, vs0, d0, ds0, p0, q0, hargs, rfl, rfl, h0, r0⟩ := trodAll_cons hA
  obtain ⟨v1, vs1, d1, ds1, p1, q1, rfl, rfl, rfl, h1, r1⟩ := trodAll_cons r0
  obtain ⟨v2, vs2, d2, ds2, p2, q2, rfl, rfl, rfl, h2, r2⟩ := trodAll_cons r1
  obtain ⟨rfl, rfl, rfl⟩ := trodAll_nil r2
  obtain rfl : args = #[v0, v1, v2] := by cases args; simp_all
  obtain ⟨rfl, rfl⟩ := trodVars_none hV
  obtain ⟨a0, rfl, rfl, rfl, w0⟩ := open_int Tryz.underlying3 (hval 0 3 v0 rfl rfl) h0
  have k1 := h1
  have lt1 : ∀ x ∈ p1, x.block < W.heap.size := by obtain ⟨m, hm⟩ := k1; exact DataW.trod_lt m _ _ _ hm
  obtain ⟨z1, rfl, w1⟩ := open_num (hval 1 27 v1 rfl rfl) h1
  have k2 := h2
  have lt2 : ∀ x ∈ p2, x.block < W.heap.size := by obtain ⟨m, hm⟩ := k2; exact DataW.trod_lt m _ _ _ hm
  obtain ⟨z2, rfl, w2⟩ := open_num (hval 2 27 v2 rfl rfl) h2
  clear hA0 hval0
  refine (walk a0 z1 z2 W w0 w1 w2 hT).mono fun e W' ⟨he, bel⟩ => ?_
  subst he
  exact ⟨_, rfl, _, _, _, [], _, [], hW', trodAll_mk1 (shut_bool Tryz.underlying4 _), (trodAll_cons_mk (shut_int Tryz.underlying3 w0) (trodAll_cons_mk (Below.trod laidOut (by kernel_rfl) (of_decide_eq_true (by kernel_rfl)) k1 bel lt1) (trodAll_cons_mk (Below.trod laidOut (by kernel_rfl) (of_decide_eq_true (by kernel_rfl)) k2 bel lt2) trodAll_mk0))), rfl, bel.frame _, fun h => by cases h⟩
theorem over : Rows.towerWholesRow.holds Tryz.pinned (OpenSpec.ofChange Rows.towerWholesSpec) :=
  OpenClaim.holds_of_wide 5 Tryz.f5 rfl rfl rfl rfl rfl rfl rfl ⟨rfl, rfl, rfl, rfl, rfl⟩ rfl rfl rfl rfl rfl (by kernel_rfl) Tryz.func5 (by kernel_rfl)
    (of_decide_eq_true (by kernel_rfl)) (by unfold Func.isWrapper; first | (rw [if_pos (by decide +kernel)]; kernel_rfl) | (rw [if_neg (by decide +kernel)]; exact ⟨rfl, rfl⟩))
    (fun os started H enc _ => lifted os started H enc)
/-- THE STATEMENT -/
theorem proved : Rows.TowerWholesCardSaid :=
  Claim7.holds_tied_plain_at .later [] [.data, .data, .data, .data, .sentinel, .sentinel, .pinned, .pinned] true (true, "1d6fd9ead80604889e6942dfba794aba432fb978ea210d34680d91fbcb61fb16") true
    over (fun _ h => by cases h) (by kernel_rfl) (fun _ h => by cases h) towerWholes_row_tie rfl ⟨rfl, rfl⟩ (by kernel_rfl) rfl
    (fun f fn hf hfn => by
      obtain rfl : f = 5 := Option.some.inj ((show Tryz.prog.funcNamed "distaff/distafflaw04.TowerWholes" = some 5 by kernel_rfl).symm.trans hf) |>.symm
      obtain rfl : fn = Tryz.f5 := (Option.some.inj (Tryz.func5.symm.trans hfn)).symm
      exact ⟨by kernel_rfl, fun j t ht => by
        rw [Tryz.params5] at ht
        have hm : t ∈ [3, 27, 27] := by simpa using Array.mem_of_getElem? ht
        have hall : ([3, 27, 27].all fun u => !Tryz.prog.wantsStandIn u) = true := by kernel_rfl
        exact (show Tryz.prog.wantsStandIn t = false by simpa using List.all_eq_true.1 hall t hm)⟩)
    (by kernel_rfl)
#print axioms proved
end Go.Proofs.YtjdanblijcdllaaGreatDoor.towerWholes
