/- towerChain. -/
import Derived.Test.YtjdanblijcdllaaGreatDoorTwQ
set_option linter.all false
namespace Go.Proofs.YtjdanblijcdllaaGreatDoor.towerChain
open Go.ChangeShapes Go.WideShapes Go.RowKit Go.Proofs.YtjdanblijcdllaaGreatDoor
theorem tcP_b (fl : Bool) (f : Nat) (s : Bool) (n : Nat) (fl2 : Bool) (f2 : Nat) (s2 : Bool) (m : Nat) : -1 ≤ tcP fl f s n fl2 f2 s2 m ∧ tcP fl f s n fl2 f2 s2 m ≤ 1 := by
  unfold tcP
  split
  · decide
  · exact sgI_b _ _
/-- All that the law asks, on paper. -/
theorem law_all (fl : Bool) (f : Nat) (s : Bool) (n : Nat) (fl2 : Bool) (f2 : Nat) (s2 : Bool) (m : Nat) (fl3 : Bool) (f3 : Nat) (s3 : Bool) (q : Nat) :
    tokP fl2 f2 fl f = tokP fl f fl2 f2 ∧ tcP fl2 f2 s2 m fl f s n = -tcP fl f s n fl2 f2 s2 m ∧ tokP fl f fl2 f2 = !((fl && isNan f) || (fl2 && isNan f2)) ∧ (tokP fl f fl2 f2 = true → tokP fl2 f2 fl3 f3 = true → tcP fl f s n fl2 f2 s2 m > 0 ∨ tcP fl2 f2 s2 m fl3 f3 s3 q > 0 ∨ (tcP fl f s n fl3 f3 s3 q ≤ 0 ∧ (tcP fl f s n fl3 f3 s3 q < 0 ∨ tcP fl f s n fl2 f2 s2 m = 0 ∧ tcP fl2 f2 s2 m fl3 f3 s3 q = 0))) ∧ (tokP fl f fl2 f2 = true → tokP fl f fl3 f3 = tokP fl2 f2 fl3 f3) := by
  have e : ∀ x y : Bool, (x || y) = (y || x) := by decide
  refine ⟨?_, ?_, rfl, ?_, ?_⟩
  · unfold tokP; rw [e]
  · unfold tcP
    rw [e]
    split
    · rfl
    · exact sgI_neg _ _
  · intro h1 h2
    unfold tokP at h1 h2
    unfold tcP
    generalize nanN fl f = x at *
    generalize nanN fl2 f2 = y at *
    generalize nanN fl3 f3 = z at *
    cases x <;> cases y <;> cases z <;> simp at h1 h2
    simp only [Bool.or_false, Bool.false_eq_true, if_false]
    exact chain_law _ _ _
  · intro h1
    unfold tokP at *
    generalize nanN fl f = x at *
    generalize nanN fl2 f2 = y at *
    cases x <;> cases y <;> simp at h1 ⊢
set_option maxRecDepth 100000 in
set_option maxHeartbeats 4000000 in
theorem walk_left (fl1 : Bool) (f1 : Nat) (s1 : Bool) (a1 : Option Addr) (l1 : Nat) (c1 : Nat) (fl2 : Bool) (f2 : Nat) (s2 : Bool) (a2 : Option Addr) (l2 : Nat) (c2 : Nat) (fl3 : Bool) (f3 : Nat) (s3 : Bool) (a3 : Option Addr) (l3 : Nat) (c3 : Nat) (g g3 : Bool) (W : World) (hT : LdT W) (hg : (g && g3) = false)
    (RL : Hid (∀ W', Fr [] W W' → Calls Tryz.prog 12 #[.agg #[.bool fl1, .float .f64 f1, .bool s1, .slice a1 l1 c1], .agg #[.bool fl2, .float .f64 f2, .bool s2, .slice a2 l2 c2]] W' fun e w' => e = .returned (.bool g) ∧ Fr [] W' w'))
    (RC : Hid (∀ W', Fr [] W W' → Calls Tryz.prog 13 #[.agg #[.bool fl3, .float .f64 f3, .bool s3, .slice a3 l3 c3]] W' fun e w' => e = .returned (.bool g3) ∧ Fr [] W' w')) :
    Calls Tryz.prog 3 #[.agg #[.bool fl1, .float .f64 f1, .bool s1, .slice a1 l1 c1], .agg #[.bool fl2, .float .f64 f2, .bool s2, .slice a2 l2 c2], .agg #[.bool fl3, .float .f64 f3, .bool s3, .slice a3 l3 c3]] W fun e W' => e = .returned (.bool true) ∧ Below W.heap.size W W' := by
  have HL := Lib.hid hT
  obtain ⟨W1, hW1⟩ : ∃ W1, W1 = ((W.alloc (.cells #[.bool fl1, .float .f64 f1, .bool s1, .slice a1 l1 c1] 27)).alloc (.cells #[.bool fl2, .float .f64 f2, .bool s2, .slice a2 l2 c2] 27)).alloc (.cells #[.bool fl3, .float .f64 f3, .bool s3, .slice a3 l3 c3] 27) := ⟨_, rfl⟩
  obtain ⟨k, hk⟩ : ∃ k, k = W.heap.size := ⟨_, rfl⟩
  have F1 : Hid (Fr [] W W1) := Lib.hid (by rw [hW1]; exact (((Fr.refl _ _).alloc _).alloc _).alloc _)
  have PA : Hid (BxN W1 k (.bool fl1) (.float .f64 f1) (.bool s1) (.slice a1 l1 c1)) := Lib.hid (by
    unfold BxN
    rw [hW1, hk]
    simp only [blk_alloc, size_alloc]
    rw [if_neg (by omega), if_neg (by omega), if_pos trivial])
  have PB : Hid (BxN W1 (k + 1) (.bool fl2) (.float .f64 f2) (.bool s2) (.slice a2 l2 c2)) := Lib.hid (by
    unfold BxN
    rw [hW1, hk]
    simp only [blk_alloc, size_alloc]
    rw [if_neg (by omega), if_pos trivial])
  have PC : Hid (BxN W1 (k + 1 + 1) (.bool fl3) (.float .f64 f3) (.bool s3) (.slice a3 l3 c3)) := Lib.hid (by
    unfold BxN
    rw [hW1, hk]
    simp only [blk_alloc, size_alloc]
    rw [if_pos trivial])
  clear hT
  go_enter Tryz.func3, Tryz.ntmps3
  go_wp2_with fail
  rw [← hW1, ← hk]
  clear hW1 hk
  refine (towerAlive_c W1 (HL.out.fr F1.out)).mono ?_
  rintro e w2 ⟨rfl, Fz⟩
  have PA := Lib.hid (PA.out.fr Fz)
  have PB := Lib.hid (PB.out.fr Fz)
  have PC := Lib.hid (PC.out.fr Fz)
  have G2 := Lib.hid (F1.out.same Fz)
  clear F1 Fz HL
  have pa0 := PA.out.c0
  have pa1 := PA.out.c1
  have pa2 := PA.out.c2
  have pa3 := PA.out.c3
  have pal := PA.out.lt
  have pb0 := PB.out.c0
  have pb1 := PB.out.c1
  have pb2 := PB.out.c2
  have pb3 := PB.out.c3
  have pbl := PB.out.lt
  go_wp2_with fail
  refine (RL.out w2 G2.out).mono ?_
  rintro e w3 ⟨rfl, Fz⟩
  have PC := Lib.hid (PC.out.fr Fz)
  have G3 := Lib.hid (G2.out.same Fz)
  clear G2 Fz RL PA PB pa0 pa1 pa2 pa3 pal pb0 pb1 pb2 pb3 pbl
  cases g with
  | false =>
    go_wp2_with fail
    go_ret
    exact ⟨rfl, G3.out.below⟩
  | true =>
    have hg3 : g3 = false := by simpa using hg
    subst hg3
    clear hg
    have pc0 := PC.out.c0
    have pc1 := PC.out.c1
    have pc2 := PC.out.c2
    have pc3 := PC.out.c3
    have pcl := PC.out.lt
    go_wp2_with fail
    refine (RC.out w3 G3.out).mono ?_
    rintro e w4 ⟨rfl, Fz⟩
    have G4 := Lib.hid (G3.out.same Fz)
    clear G3 Fz RC PC pc0 pc1 pc2 pc3 pcl
    go_wp2_with fail
    go_ret
    exact ⟨rfl, G4.out.below⟩
set_option maxRecDepth 100000 in
set_option maxHeartbeats 8000000 in
theorem walk_all (fl1 : Bool) (f1 : Nat) (s1 : Bool) (a1 : Option Addr) (n1 : Nat) (c1 : Nat) (fl2 : Bool) (f2 : Nat) (s2 : Bool) (a2 : Option Addr) (n2 : Nat) (c2 : Nat) (fl3 : Bool) (f3 : Nat) (s3 : Bool) (a3 : Option Addr) (n3 : Nat) (c3 : Nat) (W : World) (hT : LdT W) (hf1 : f1 < 18446744073709551616) (I1 : In W a1 c1 (lims n1)) (hn1 : n1 < B2) (hs1 : s1 = true → n1 ≠ 0) (hf2 : f2 < 18446744073709551616) (I2 : In W a2 c2 (lims n2)) (hn2 : n2 < B2) (hs2 : s2 = true → n2 ≠ 0) (hf3 : f3 < 18446744073709551616) (I3 : In W a3 c3 (lims n3)) (hn3 : n3 < B2) (hs3 : s3 = true → n3 ≠ 0)
    (RL : Hid (∀ W', Fr [] W W' → Calls Tryz.prog 12 #[.agg #[.bool fl1, .float .f64 f1, .bool s1, .slice a1 (lims n1).length c1], .agg #[.bool fl2, .float .f64 f2, .bool s2, .slice a2 (lims n2).length c2]] W' fun e w' => e = .returned (.bool true) ∧ Fr [] W' w'))
    (RC : Hid (∀ W', Fr [] W W' → Calls Tryz.prog 13 #[.agg #[.bool fl3, .float .f64 f3, .bool s3, .slice a3 (lims n3).length c3]] W' fun e w' => e = .returned (.bool true) ∧ Fr [] W' w')) :
    Calls Tryz.prog 3 #[.agg #[.bool fl1, .float .f64 f1, .bool s1, .slice a1 (lims n1).length c1], .agg #[.bool fl2, .float .f64 f2, .bool s2, .slice a2 (lims n2).length c2], .agg #[.bool fl3, .float .f64 f3, .bool s3, .slice a3 (lims n3).length c3]] W fun e W' => e = .returned (.bool true) ∧ Below W.heap.size W W' := by
  have HL := Lib.hid hT
  obtain ⟨W1, hW1⟩ : ∃ W1, W1 = ((W.alloc (.cells #[.bool fl1, .float .f64 f1, .bool s1, .slice a1 (lims n1).length c1] 27)).alloc (.cells #[.bool fl2, .float .f64 f2, .bool s2, .slice a2 (lims n2).length c2] 27)).alloc (.cells #[.bool fl3, .float .f64 f3, .bool s3, .slice a3 (lims n3).length c3] 27) := ⟨_, rfl⟩
  obtain ⟨k, hk⟩ : ∃ k, k = W.heap.size := ⟨_, rfl⟩
  have F1 : Hid (Fr [] W W1) := Lib.hid (by rw [hW1]; exact (((Fr.refl _ _).alloc _).alloc _).alloc _)
  have PA : Hid (BxN W1 k (.bool fl1) (.float .f64 f1) (.bool s1) (.slice a1 (lims n1).length c1)) := Lib.hid (by
    unfold BxN
    rw [hW1, hk]
    simp only [blk_alloc, size_alloc]
    rw [if_neg (by omega), if_neg (by omega), if_pos trivial])
  have PB : Hid (BxN W1 (k + 1) (.bool fl2) (.float .f64 f2) (.bool s2) (.slice a2 (lims n2).length c2)) := Lib.hid (by
    unfold BxN
    rw [hW1, hk]
    simp only [blk_alloc, size_alloc]
    rw [if_neg (by omega), if_pos trivial])
  have PC : Hid (BxN W1 (k + 1 + 1) (.bool fl3) (.float .f64 f3) (.bool s3) (.slice a3 (lims n3).length c3)) := Lib.hid (by
    unfold BxN
    rw [hW1, hk]
    simp only [blk_alloc, size_alloc]
    rw [if_pos trivial])
  have CX := Lib.hid (fun (w1 : World) (h : Fr [] W w1) => twcmp_c w1 fl1 f1 s1 n1 fl2 f2 s2 n2 hf1 hf2 (I1.keep h) (I2.keep h) hn1 hn2 hs1 hs2)
  have CY := Lib.hid (fun (w1 : World) (h : Fr [] W w1) => twcmp_c w1 fl2 f2 s2 n2 fl3 f3 s3 n3 hf2 hf3 (I2.keep h) (I3.keep h) hn2 hn3 hs2 hs3)
  have CZ := Lib.hid (fun (w1 : World) (h : Fr [] W w1) => twcmp_c w1 fl1 f1 s1 n1 fl3 f3 s3 n3 hf1 hf3 (I1.keep h) (I3.keep h) hn1 hn3 hs1 hs3)
  have CW := Lib.hid (fun (w1 : World) (h : Fr [] W w1) => twcmp_c w1 fl2 f2 s2 n2 fl1 f1 s1 n1 hf2 hf1 (I2.keep h) (I1.keep h) hn2 hn1 hs2 hs1)
  have CN1 := Lib.hid (fun w1 => isnan_c f1 w1)
  have CN2 := Lib.hid (fun w1 => isnan_c f2 w1)
  have HX := Lib.hid (law_all fl1 f1 s1 n1 fl2 f2 s2 n2 fl3 f3 s3 n3)
  have hxb := tcP_b fl1 f1 s1 n1 fl2 f2 s2 n2
  obtain ⟨x, hx⟩ : ∃ x, x = tcP fl1 f1 s1 n1 fl2 f2 s2 n2 := ⟨_, rfl⟩
  obtain ⟨y, hy⟩ : ∃ y, y = tcP fl2 f2 s2 n2 fl3 f3 s3 n3 := ⟨_, rfl⟩
  obtain ⟨z, hz⟩ : ∃ z, z = tcP fl1 f1 s1 n1 fl3 f3 s3 n3 := ⟨_, rfl⟩
  obtain ⟨v, hv⟩ : ∃ v, v = tcP fl2 f2 s2 n2 fl1 f1 s1 n1 := ⟨_, rfl⟩
  obtain ⟨ox, hox⟩ : ∃ ox, ox = tokP fl1 f1 fl2 f2 := ⟨_, rfl⟩
  obtain ⟨oy, hoy⟩ : ∃ oy, oy = tokP fl2 f2 fl3 f3 := ⟨_, rfl⟩
  obtain ⟨oz, hoz⟩ : ∃ oz, oz = tokP fl1 f1 fl3 f3 := ⟨_, rfl⟩
  obtain ⟨ov, hov⟩ : ∃ ov, ov = tokP fl2 f2 fl1 f1 := ⟨_, rfl⟩
  rw [← hx, ← hox] at CX HX
  rw [← hy, ← hoy] at CY HX
  rw [← hz, ← hoz] at CZ HX
  rw [← hv, ← hov] at CW HX
  rw [← hx] at hxb
  obtain ⟨hxb1, hxb2⟩ := hxb
  obtain ⟨p1, hp1⟩ : ∃ p, p = isNan f1 := ⟨_, rfl⟩
  obtain ⟨p2, hp2⟩ : ∃ p, p = isNan f2 := ⟨_, rfl⟩
  rw [← hp1] at CN1 HX
  rw [← hp2] at CN2 HX
  obtain ⟨l1, hl1⟩ : ∃ l, l = (lims n1).length := ⟨_, rfl⟩
  obtain ⟨l2, hl2⟩ : ∃ l, l = (lims n2).length := ⟨_, rfl⟩
  obtain ⟨l3, hl3⟩ : ∃ l, l = (lims n3).length := ⟨_, rfl⟩
  rw [← hl1] at PA CX CZ CW RL hW1 ⊢
  rw [← hl2] at PB CX CY CW RL hW1 ⊢
  rw [← hl3] at PC CY CZ RC hW1 ⊢
  clear hT hx hy hz hv hox hoy hoz hov hp1 hp2 hf1 I1 hn1 hs1 hl1 hf2 I2 hn2 hs2 hl2 hf3 I3 hn3 hs3 hl3
  go_enter Tryz.func3, Tryz.ntmps3
  go_wp2_with fail
  rw [← hW1, ← hk]
  clear hW1 hk
  refine (towerAlive_c W1 (HL.out.fr F1.out)).mono ?_
  rintro e w2 ⟨rfl, Fz⟩
  have PA := Lib.hid (PA.out.fr Fz)
  have PB := Lib.hid (PB.out.fr Fz)
  have PC := Lib.hid (PC.out.fr Fz)
  have Gw2 := Lib.hid (F1.out.same Fz)
  clear F1 Fz HL 
  have pa0 := PA.out.c0
  have pa1 := PA.out.c1
  have pa2 := PA.out.c2
  have pa3 := PA.out.c3
  have pal := PA.out.lt
  have pb0 := PB.out.c0
  have pb1 := PB.out.c1
  have pb2 := PB.out.c2
  have pb3 := PB.out.c3
  have pbl := PB.out.lt
  go_wp2_with fail
  refine (RL.out w2 Gw2.out).mono ?_
  rintro e w3 ⟨rfl, Fz⟩
  have PA := Lib.hid (PA.out.fr Fz)
  have PB := Lib.hid (PB.out.fr Fz)
  have PC := Lib.hid (PC.out.fr Fz)
  have Gw3 := Lib.hid (Gw2.out.same Fz)
  clear Gw2 Fz RL pa0 pa1 pa2 pa3 pal pb0 pb1 pb2 pb3 pbl
  have pc0 := PC.out.c0
  have pc1 := PC.out.c1
  have pc2 := PC.out.c2
  have pc3 := PC.out.c3
  have pcl := PC.out.lt
  go_wp2_with fail
  refine (RC.out w3 Gw3.out).mono ?_
  rintro e w4 ⟨rfl, Fz⟩
  have PA := Lib.hid (PA.out.fr Fz)
  have PB := Lib.hid (PB.out.fr Fz)
  have PC := Lib.hid (PC.out.fr Fz)
  have Gw4 := Lib.hid (Gw3.out.same Fz)
  clear Gw3 Fz RC pc0 pc1 pc2 pc3 pcl
  have pa0 := PA.out.c0
  have pa1 := PA.out.c1
  have pa2 := PA.out.c2
  have pa3 := PA.out.c3
  have pal := PA.out.lt
  have pb0 := PB.out.c0
  have pb1 := PB.out.c1
  have pb2 := PB.out.c2
  have pb3 := PB.out.c3
  have pbl := PB.out.lt
  go_wp2_with fail
  refine (CX.out w4 Gw4.out).mono ?_
  rintro e w5 ⟨rfl, Fz⟩
  have PA := Lib.hid (PA.out.fr Fz)
  have PB := Lib.hid (PB.out.fr Fz)
  have PC := Lib.hid (PC.out.fr Fz)
  have Gw5 := Lib.hid (Gw4.out.same Fz)
  clear Gw4 Fz CX pa0 pa1 pa2 pa3 pal pb0 pb1 pb2 pb3 pbl
  have pb0 := PB.out.c0
  have pb1 := PB.out.c1
  have pb2 := PB.out.c2
  have pb3 := PB.out.c3
  have pbl := PB.out.lt
  have pc0 := PC.out.c0
  have pc1 := PC.out.c1
  have pc2 := PC.out.c2
  have pc3 := PC.out.c3
  have pcl := PC.out.lt
  go_wp2_with fail
  refine (CY.out w5 Gw5.out).mono ?_
  rintro e w6 ⟨rfl, Fz⟩
  have PA := Lib.hid (PA.out.fr Fz)
  have PB := Lib.hid (PB.out.fr Fz)
  have PC := Lib.hid (PC.out.fr Fz)
  have Gw6 := Lib.hid (Gw5.out.same Fz)
  clear Gw5 Fz CY pb0 pb1 pb2 pb3 pbl pc0 pc1 pc2 pc3 pcl
  have pa0 := PA.out.c0
  have pa1 := PA.out.c1
  have pa2 := PA.out.c2
  have pa3 := PA.out.c3
  have pal := PA.out.lt
  have pc0 := PC.out.c0
  have pc1 := PC.out.c1
  have pc2 := PC.out.c2
  have pc3 := PC.out.c3
  have pcl := PC.out.lt
  go_wp2_with fail
  refine (CZ.out w6 Gw6.out).mono ?_
  rintro e w7 ⟨rfl, Fz⟩
  have PA := Lib.hid (PA.out.fr Fz)
  have PB := Lib.hid (PB.out.fr Fz)
  have PC := Lib.hid (PC.out.fr Fz)
  have Gw7 := Lib.hid (Gw6.out.same Fz)
  clear Gw6 Fz CZ pa0 pa1 pa2 pa3 pal pc0 pc1 pc2 pc3 pcl
  have pa0 := PA.out.c0
  have pa1 := PA.out.c1
  have pa2 := PA.out.c2
  have pa3 := PA.out.c3
  have pal := PA.out.lt
  have pb0 := PB.out.c0
  have pb1 := PB.out.c1
  have pb2 := PB.out.c2
  have pb3 := PB.out.c3
  have pbl := PB.out.lt
  go_wp2_with fail
  refine (CW.out w7 Gw7.out).mono ?_
  rintro e w8 ⟨rfl, Fz⟩
  have PA := Lib.hid (PA.out.fr Fz)
  have PB := Lib.hid (PB.out.fr Fz)
  have PC := Lib.hid (PC.out.fr Fz)
  have Gw8 := Lib.hid (Gw7.out.same Fz)
  clear Gw7 Fz CW pa0 pa1 pa2 pa3 pal pb0 pb1 pb2 pb3 pbl
  have pa0 := PA.out.c0
  have pa1 := PA.out.c1
  have pal := PA.out.lt
  have pb0 := PB.out.c0
  have pb1 := PB.out.c1
  have pbl := PB.out.lt
  clear PA PB PC
  obtain ⟨q1, q2, q3, q4, q5⟩ := HX.out
  clear HX
  subst q1
  subst q2
  cases fl1 with
  | false =>
    cases fl2 with
    | false =>
      obtain rfl : ov = true := q3
      cases oy with
      | false =>
        obtain rfl : oz = false := q5 rfl
        clear q4 q5
        go_wp2_with (go_at_call 15; first | (refine (CN1.out _).mono ?_; rintro e w9 ⟨rfl, rfl⟩; clear CN1) | (refine (CN2.out _).mono ?_; rintro e w9 ⟨rfl, rfl⟩))
        go_ret
        exact ⟨rfl, Gw8.out.below⟩
      | true =>
        obtain rfl : oz = true := q5 rfl
        have q6 := q4 rfl rfl
        clear q4 q5
        by_cases t1 : 0 < x
        · clear q6
          go_wp2_with (go_at_call 15; first | (refine (CN1.out _).mono ?_; rintro e w9 ⟨rfl, rfl⟩; clear CN1) | (refine (CN2.out _).mono ?_; rintro e w9 ⟨rfl, rfl⟩))
          go_ret
          exact ⟨rfl, Gw8.out.below⟩
        · by_cases t2 : 0 < y
          · clear q6
            go_wp2_with (go_at_call 15; first | (refine (CN1.out _).mono ?_; rintro e w9 ⟨rfl, rfl⟩; clear CN1) | (refine (CN2.out _).mono ?_; rintro e w9 ⟨rfl, rfl⟩))
            go_ret
            exact ⟨rfl, Gw8.out.below⟩
          · have t3 : z ≤ 0 := by rcases q6 with h | h | h; exact absurd h t1; exact absurd h t2; exact h.1
            by_cases t4 : z < 0
            · clear q6
              go_wp2_with (go_at_call 15; first | (refine (CN1.out _).mono ?_; rintro e w9 ⟨rfl, rfl⟩; clear CN1) | (refine (CN2.out _).mono ?_; rintro e w9 ⟨rfl, rfl⟩))
              go_ret
              exact ⟨rfl, Gw8.out.below⟩
            · have t5 : x = 0 ∧ y = 0 := by rcases q6 with h | h | h; exact absurd h t1; exact absurd h t2; rcases h.2 with h | h; exact absurd h t4; exact h
              obtain ⟨rfl, rfl⟩ := t5
              clear q6
              go_wp2_with (go_at_call 15; first | (refine (CN1.out _).mono ?_; rintro e w9 ⟨rfl, rfl⟩; clear CN1) | (refine (CN2.out _).mono ?_; rintro e w9 ⟨rfl, rfl⟩))
              go_ret
              exact ⟨rfl, Gw8.out.below⟩
    | true =>
      cases p2 with
      | true =>
        obtain rfl : ov = false := q3
        clear q4 q5
        go_wp2_with (go_at_call 15; first | (refine (CN1.out _).mono ?_; rintro e w9 ⟨rfl, rfl⟩; clear CN1) | (refine (CN2.out _).mono ?_; rintro e w9 ⟨rfl, rfl⟩))
        go_ret
        exact ⟨rfl, Gw8.out.below⟩
      | false =>
        obtain rfl : ov = true := q3
        cases oy with
        | false =>
          obtain rfl : oz = false := q5 rfl
          clear q4 q5
          go_wp2_with (go_at_call 15; first | (refine (CN1.out _).mono ?_; rintro e w9 ⟨rfl, rfl⟩; clear CN1) | (refine (CN2.out _).mono ?_; rintro e w9 ⟨rfl, rfl⟩))
          go_ret
          exact ⟨rfl, Gw8.out.below⟩
        | true =>
          obtain rfl : oz = true := q5 rfl
          have q6 := q4 rfl rfl
          clear q4 q5
          by_cases t1 : 0 < x
          · clear q6
            go_wp2_with (go_at_call 15; first | (refine (CN1.out _).mono ?_; rintro e w9 ⟨rfl, rfl⟩; clear CN1) | (refine (CN2.out _).mono ?_; rintro e w9 ⟨rfl, rfl⟩))
            go_ret
            exact ⟨rfl, Gw8.out.below⟩
          · by_cases t2 : 0 < y
            · clear q6
              go_wp2_with (go_at_call 15; first | (refine (CN1.out _).mono ?_; rintro e w9 ⟨rfl, rfl⟩; clear CN1) | (refine (CN2.out _).mono ?_; rintro e w9 ⟨rfl, rfl⟩))
              go_ret
              exact ⟨rfl, Gw8.out.below⟩
            · have t3 : z ≤ 0 := by rcases q6 with h | h | h; exact absurd h t1; exact absurd h t2; exact h.1
              by_cases t4 : z < 0
              · clear q6
                go_wp2_with (go_at_call 15; first | (refine (CN1.out _).mono ?_; rintro e w9 ⟨rfl, rfl⟩; clear CN1) | (refine (CN2.out _).mono ?_; rintro e w9 ⟨rfl, rfl⟩))
                go_ret
                exact ⟨rfl, Gw8.out.below⟩
              · have t5 : x = 0 ∧ y = 0 := by rcases q6 with h | h | h; exact absurd h t1; exact absurd h t2; rcases h.2 with h | h; exact absurd h t4; exact h
                obtain ⟨rfl, rfl⟩ := t5
                clear q6
                go_wp2_with (go_at_call 15; first | (refine (CN1.out _).mono ?_; rintro e w9 ⟨rfl, rfl⟩; clear CN1) | (refine (CN2.out _).mono ?_; rintro e w9 ⟨rfl, rfl⟩))
                go_ret
                exact ⟨rfl, Gw8.out.below⟩
  | true =>
    cases p1 with
    | true =>
      obtain rfl : ov = false := q3
      clear q4 q5
      go_wp2_with (go_at_call 15; first | (refine (CN1.out _).mono ?_; rintro e w9 ⟨rfl, rfl⟩; clear CN1) | (refine (CN2.out _).mono ?_; rintro e w9 ⟨rfl, rfl⟩))
      go_ret
      exact ⟨rfl, Gw8.out.below⟩
    | false =>
      cases fl2 with
      | false =>
        obtain rfl : ov = true := q3
        cases oy with
        | false =>
          obtain rfl : oz = false := q5 rfl
          clear q4 q5
          go_wp2_with (go_at_call 15; first | (refine (CN1.out _).mono ?_; rintro e w9 ⟨rfl, rfl⟩; clear CN1) | (refine (CN2.out _).mono ?_; rintro e w9 ⟨rfl, rfl⟩))
          go_ret
          exact ⟨rfl, Gw8.out.below⟩
        | true =>
          obtain rfl : oz = true := q5 rfl
          have q6 := q4 rfl rfl
          clear q4 q5
          by_cases t1 : 0 < x
          · clear q6
            go_wp2_with (go_at_call 15; first | (refine (CN1.out _).mono ?_; rintro e w9 ⟨rfl, rfl⟩; clear CN1) | (refine (CN2.out _).mono ?_; rintro e w9 ⟨rfl, rfl⟩))
            go_ret
            exact ⟨rfl, Gw8.out.below⟩
          · by_cases t2 : 0 < y
            · clear q6
              go_wp2_with (go_at_call 15; first | (refine (CN1.out _).mono ?_; rintro e w9 ⟨rfl, rfl⟩; clear CN1) | (refine (CN2.out _).mono ?_; rintro e w9 ⟨rfl, rfl⟩))
              go_ret
              exact ⟨rfl, Gw8.out.below⟩
            · have t3 : z ≤ 0 := by rcases q6 with h | h | h; exact absurd h t1; exact absurd h t2; exact h.1
              by_cases t4 : z < 0
              · clear q6
                go_wp2_with (go_at_call 15; first | (refine (CN1.out _).mono ?_; rintro e w9 ⟨rfl, rfl⟩; clear CN1) | (refine (CN2.out _).mono ?_; rintro e w9 ⟨rfl, rfl⟩))
                go_ret
                exact ⟨rfl, Gw8.out.below⟩
              · have t5 : x = 0 ∧ y = 0 := by rcases q6 with h | h | h; exact absurd h t1; exact absurd h t2; rcases h.2 with h | h; exact absurd h t4; exact h
                obtain ⟨rfl, rfl⟩ := t5
                clear q6
                go_wp2_with (go_at_call 15; first | (refine (CN1.out _).mono ?_; rintro e w9 ⟨rfl, rfl⟩; clear CN1) | (refine (CN2.out _).mono ?_; rintro e w9 ⟨rfl, rfl⟩))
                go_ret
                exact ⟨rfl, Gw8.out.below⟩
      | true =>
        cases p2 with
        | true =>
          obtain rfl : ov = false := q3
          clear q4 q5
          go_wp2_with (go_at_call 15; first | (refine (CN1.out _).mono ?_; rintro e w9 ⟨rfl, rfl⟩; clear CN1) | (refine (CN2.out _).mono ?_; rintro e w9 ⟨rfl, rfl⟩))
          go_ret
          exact ⟨rfl, Gw8.out.below⟩
        | false =>
          obtain rfl : ov = true := q3
          cases oy with
          | false =>
            obtain rfl : oz = false := q5 rfl
            clear q4 q5
            go_wp2_with (go_at_call 15; first | (refine (CN1.out _).mono ?_; rintro e w9 ⟨rfl, rfl⟩; clear CN1) | (refine (CN2.out _).mono ?_; rintro e w9 ⟨rfl, rfl⟩))
            go_ret
            exact ⟨rfl, Gw8.out.below⟩
          | true =>
            obtain rfl : oz = true := q5 rfl
            have q6 := q4 rfl rfl
            clear q4 q5
            by_cases t1 : 0 < x
            · clear q6
              go_wp2_with (go_at_call 15; first | (refine (CN1.out _).mono ?_; rintro e w9 ⟨rfl, rfl⟩; clear CN1) | (refine (CN2.out _).mono ?_; rintro e w9 ⟨rfl, rfl⟩))
              go_ret
              exact ⟨rfl, Gw8.out.below⟩
            · by_cases t2 : 0 < y
              · clear q6
                go_wp2_with (go_at_call 15; first | (refine (CN1.out _).mono ?_; rintro e w9 ⟨rfl, rfl⟩; clear CN1) | (refine (CN2.out _).mono ?_; rintro e w9 ⟨rfl, rfl⟩))
                go_ret
                exact ⟨rfl, Gw8.out.below⟩
              · have t3 : z ≤ 0 := by rcases q6 with h | h | h; exact absurd h t1; exact absurd h t2; exact h.1
                by_cases t4 : z < 0
                · clear q6
                  go_wp2_with (go_at_call 15; first | (refine (CN1.out _).mono ?_; rintro e w9 ⟨rfl, rfl⟩; clear CN1) | (refine (CN2.out _).mono ?_; rintro e w9 ⟨rfl, rfl⟩))
                  go_ret
                  exact ⟨rfl, Gw8.out.below⟩
                · have t5 : x = 0 ∧ y = 0 := by rcases q6 with h | h | h; exact absurd h t1; exact absurd h t2; rcases h.2 with h | h; exact absurd h t4; exact h
                  obtain ⟨rfl, rfl⟩ := t5
                  clear q6
                  go_wp2_with (go_at_call 15; first | (refine (CN1.out _).mono ?_; rintro e w9 ⟨rfl, rfl⟩; clear CN1) | (refine (CN2.out _).mono ?_; rintro e w9 ⟨rfl, rfl⟩))
                  go_ret
                  exact ⟨rfl, Gw8.out.below⟩
theorem walk (z1 z2 z3 : NA) (W : World) (h1 : InN W z1) (h2 : InN W z2) (h3 : InN W z3) (hT0 : laidMet Tryz.prog listed W) :
    Calls Tryz.prog 3 #[.agg #[.bool z1.fl, .float .f64 z1.f, .bool z1.i.s, .slice z1.i.a z1.i.len z1.i.cap], .agg #[.bool z2.fl, .float .f64 z2.f, .bool z2.i.s, .slice z2.i.a z2.i.len z2.i.cap], .agg #[.bool z3.fl, .float .f64 z3.f, .bool z3.i.s, .slice z3.i.a z3.i.len z3.i.cap]] W fun e W' => e = .returned (.bool true) ∧ Below W.heap.size W W' := by
  have hT := ldT_of hT0
  obtain ⟨fl1, f1, s1, a1, l1, c1⟩ := z1
  obtain ⟨fl2, f2, s2, a2, l2, c2⟩ := z2
  obtain ⟨fl3, f3, s3, a3, l3, c3⟩ := z3
  obtain ⟨hf1, L1, hL1⟩ := h1
  obtain ⟨hf2, L2, hL2⟩ := h2
  obtain ⟨hf3, L3, hL3⟩ := h3
  have hL1 : InA W a1 l1 c1 L1 := hL1
  have hL2 : InA W a2 l2 c2 L2 := hL2
  have hL3 : InA W a3 l3 c3 L3 := hL3
  have RL : Hid (∀ W', Fr [] W W' → Calls Tryz.prog 12 #[.agg #[.bool fl1, .float .f64 f1, .bool s1, .slice a1 l1 c1], .agg #[.bool fl2, .float .f64 f2, .bool s2, .slice a2 l2 c2]] W' fun e w' => e = .returned (.bool (rightN fl1 f1 s1 L1 && rightN fl2 f2 s2 L2)) ∧ Fr [] W' w') := Lib.hid (fun W' h => lawright_c W' fl1 f1 s1 l1 fl2 f2 s2 l2 _ _ (fun w2 h2 => r4right_c w2 fl1 f1 s1 l1 (hL1.keep (h.same h2))) (fun w2 h2 => r4right_c w2 fl2 f2 s2 l2 (hL2.keep (h.same h2))))
  have RC : Hid (∀ W', Fr [] W W' → Calls Tryz.prog 13 #[.agg #[.bool fl3, .float .f64 f3, .bool s3, .slice a3 l3 c3]] W' fun e w' => e = .returned (.bool (rightN fl3 f3 s3 L3)) ∧ Fr [] W' w') := Lib.hid (fun W' h => r4right_c W' fl3 f3 s3 l3 (hL3.keep h))
  cases hr : (rightN fl1 f1 s1 L1 && rightN fl2 f2 s2 L2 && rightN fl3 f3 s3 L3) with
  | false => exact walk_left fl1 f1 s1 a1 l1 c1 fl2 f2 s2 a2 l2 c2 fl3 f3 s3 a3 l3 c3 _ _ W hT hr RL RC
  | true =>
    have hr1 : rightN fl1 f1 s1 L1 = true := by simp at hr; exact hr.1.1
    have hr2 : rightN fl2 f2 s2 L2 = true := by simp at hr; exact hr.1.2
    have hr3 : rightN fl3 f3 s3 L3 = true := by simp at hr; exact hr.2
    rw [hr1, hr2] at RL
    rw [hr3] at RC
    obtain ⟨n1, e1, I1, hn1, hs1, _⟩ := right_openN hL1 hr1
    obtain ⟨n2, e2, I2, hn2, hs2, _⟩ := right_openN hL2 hr2
    obtain ⟨n3, e3, I3, hn3, hs3, _⟩ := right_openN hL3 hr3
    subst e1
    subst e2
    subst e3
    exact walk_all fl1 f1 s1 a1 n1 c1 fl2 f2 s2 a2 n2 c2 fl3 f3 s3 a3 n3 c3 W hT hf1 I1 hn1 hs1 hf2 I2 hn2 hs2 hf3 I3 hn3 hs3 RL RC
set_option maxRecDepth 100000 in
theorem lifted (os : Os) (started : os.Started) (H : Type) (enc : TypeId × Value → H) :
    ReturnsInHanded {} Tryz.checked os 3 .any (fun w args => (Rows.towerChainSpec.pre enc Tryz.prog Tryz.f3 [] false w args ∧ laidMetH Tryz.prog listed w) ∧ sizedMet enc Tryz.prog Tryz.f3 (OpenSpec.ofChange Rows.towerChainSpec) false w args) (Rows.towerChainSpec.post enc Tryz.prog Tryz.f3 false true false false) := by
  refine returnsInHanded_of_change_and (C := Tryz.checked) (X := fun w _ => laidMetH Tryz.prog listed w) (fun _ _ _ hh h => h.of_heap hh) own started (by kernel_rfl) Tryz.func3
    (ChangeSpec.witness_shaped (enc := enc) (C := Tryz.checked) (os := os) (X := fun w _ => laidMetH Tryz.prog listed w) false (World.laidAll Tryz.prog os listed) #[zeroN, zeroN, zeroN] 8 (World.laidAll_os _ _ _) (World.shaped_of_ZipB (by kernel_rfl) (by kernel_rfl)) (by kernel_rfl) (by kernel_rfl) (by kernel_rfl) (by rw [MakeChecks.laidMetH_plain _ _ _ (by kernel_rfl)]; exact listed_met os _)) ?_
  intro W base args ds gs before hval0 hW _ _ hL _
  rw [MakeChecks.laidMetH_plain _ _ _ (by kernel_rfl)] at hL
  have hT := hL
  have hval : ∀ (j : Nat) t v, Tryz.f3.params[j]? = some t → args[j]? = some v → Value.okWide Tryz.prog W .any base t v := hval0
  have hW' := hW
  obtain ⟨p, q, hA0, hV, rfl, hfz, hnd⟩ := hW
  have hA : DataW.TrodAll enc Tryz.prog W 0 (fun _ => true) true Tryz.f3.params.toList args.toList ds p := hA0
  rw [Tryz.params3] at hA hval
  obtain ⟨v0, vs0, d0, ds0, p0, q0, hargs, rfl, rfl, h0, r0⟩ := trodAll_cons hA
  obtain ⟨v1, vs1, d1, ds1, p1, q1, rfl, rfl, rfl, h1, r1⟩ := trodAll_cons r0
  obtain ⟨v2, vs2, d2, ds2, p2, q2, rfl, rfl, rfl, h2, r2⟩ := trodAll_cons r1
  obtain ⟨rfl, rfl, rfl⟩ := trodAll_nil r2
  obtain rfl : args = #[v0, v1, v2] := by cases args; simp_all
  obtain ⟨rfl, rfl⟩ := trodVars_none hV
  have k0 := h0
  have lt0 : ∀ x ∈ p0, x.block < W.heap.size := by obtain ⟨m, hm⟩ := k0; exact DataW.trod_lt m _ _ _ hm
  obtain ⟨z0, rfl, w0⟩ := open_num (hval 0 27 v0 rfl rfl) h0
  have k1 := h1
  have lt1 : ∀ x ∈ p1, x.block < W.heap.size := by obtain ⟨m, hm⟩ := k1; exact DataW.trod_lt m _ _ _ hm
  obtain ⟨z1, rfl, w1⟩ := open_num (hval 1 27 v1 rfl rfl) h1
  have k2 := h2
  have lt2 : ∀ x ∈ p2, x.block < W.heap.size := by obtain ⟨m, hm⟩ := k2; exact DataW.trod_lt m _ _ _ hm
  obtain ⟨z2, rfl, w2⟩ := open_num (hval 2 27 v2 rfl rfl) h2
  clear hA0 hval0
  refine (walk z0 z1 z2 W w0 w1 w2 hT).mono fun e W' ⟨he, bel⟩ => ?_
  subst he
  exact ⟨_, rfl, _, _, _, [], _, [], hW', trodAll_mk1 (shut_bool Tryz.underlying4 _), (trodAll_cons_mk (Below.trod laidOut (by kernel_rfl) (of_decide_eq_true (by kernel_rfl)) k0 bel lt0) (trodAll_cons_mk (Below.trod laidOut (by kernel_rfl) (of_decide_eq_true (by kernel_rfl)) k1 bel lt1) (trodAll_cons_mk (Below.trod laidOut (by kernel_rfl) (of_decide_eq_true (by kernel_rfl)) k2 bel lt2) trodAll_mk0))), rfl, bel.frame _, fun h => by cases h⟩
theorem over : Rows.towerChainRow.holds Tryz.pinned (OpenSpec.ofChange Rows.towerChainSpec) :=
  OpenClaim.holds_of_wide 3 Tryz.f3 rfl rfl rfl rfl rfl rfl rfl ⟨rfl, rfl, rfl, rfl, rfl⟩ rfl rfl rfl rfl rfl (by kernel_rfl) Tryz.func3 (by kernel_rfl)
    (of_decide_eq_true (by kernel_rfl)) (by unfold Func.isWrapper; first | (rw [if_pos (by decide +kernel)]; kernel_rfl) | (rw [if_neg (by decide +kernel)]; exact ⟨rfl, rfl⟩))
    (fun os started H enc _ => lifted os started H enc)
/-- THE STATEMENT -/
theorem proved : Rows.TowerChainCardSaid :=
  Claim7.holds_tied_plain_at .later [] [.data, .data, .data, .data, .sentinel, .sentinel, .pinned, .pinned] true (true, "1d6fd9ead80604889e6942dfba794aba432fb978ea210d34680d91fbcb61fb16") true
    over (fun _ h => by cases h) (by kernel_rfl) (fun _ h => by cases h) towerChain_row_tie rfl ⟨rfl, rfl⟩ (by kernel_rfl) rfl
    (fun f fn hf hfn => by
      obtain rfl : f = 3 := Option.some.inj ((show Tryz.prog.funcNamed "distaff/distafflaw04.TowerChain" = some 3 by kernel_rfl).symm.trans hf) |>.symm
      obtain rfl : fn = Tryz.f3 := (Option.some.inj (Tryz.func3.symm.trans hfn)).symm
      exact ⟨by kernel_rfl, fun j t ht => by
        rw [Tryz.params3] at ht
        have hm : t ∈ [27, 27, 27] := by simpa using Array.mem_of_getElem? ht
        have hall : ([27, 27, 27].all fun u => !Tryz.prog.wantsStandIn u) = true := by kernel_rfl
        exact (show Tryz.prog.wantsStandIn t = false by simpa using List.all_eq_true.1 hall t hm)⟩)
    (by kernel_rfl)
#print axioms proved
end Go.Proofs.YtjdanblijcdllaaGreatDoor.towerChain
