/- towerOrders: tower's order is the document's. -/
import Derived.Test.YtjdanblijcdllaaGreatDoorTwR
set_option linter.all false
namespace Go.Proofs.YtjdanblijcdllaaGreatDoor.towerOrders
open Go.ChangeShapes Go.WideShapes Go.RowKit Go.Proofs.YtjdanblijcdllaaGreatDoor
theorem wf_i64 {z : Int} (h : (Lit.int .i64 z).wf = true) : -9223372036854775808 ≤ z ∧ z ≤ 9223372036854775807 := by
  simp [Lit.wf, IntKind.min, IntKind.max, IntKind.bits, IntKind.signed] at h
  omega
set_option maxRecDepth 20000 in
set_option maxHeartbeats 2000000 in
theorem walk_left (fl1 : Bool) (f1 : Nat) (s1 : Bool) (a1 : Option Addr) (l1 : Nat) (c1 : Nat) (fl2 : Bool) (f2 : Nat) (s2 : Bool) (a2 : Option Addr) (l2 : Nat) (c2 : Nat) (z : Int) (W : World) (hT : LdT W)
    (RL : Hid (∀ W', Fr [] W W' → Calls Tryz.prog 12 #[.agg #[.bool fl1, .float .f64 f1, .bool s1, .slice a1 l1 c1], .agg #[.bool fl2, .float .f64 f2, .bool s2, .slice a2 l2 c2]] W' fun e w' => e = .returned (.bool false) ∧ Fr [] W' w')) :
    Calls Tryz.prog 4 #[.agg #[.bool fl1, .float .f64 f1, .bool s1, .slice a1 l1 c1], .agg #[.bool fl2, .float .f64 f2, .bool s2, .slice a2 l2 c2], .int .i64 z] W fun e W' => e = .returned (.bool true) ∧ Below W.heap.size W W' := by
  have HL := Lib.hid hT
  obtain ⟨W1, hW1⟩ : ∃ W1, W1 = (W.alloc (.cells #[.bool fl1, .float .f64 f1, .bool s1, .slice a1 l1 c1] 27)).alloc (.cells #[.bool fl2, .float .f64 f2, .bool s2, .slice a2 l2 c2] 27) := ⟨_, rfl⟩
  obtain ⟨k, hk⟩ : ∃ k, k = W.heap.size := ⟨_, rfl⟩
  have F1 : Hid (Fr [] W W1) := Lib.hid (by rw [hW1]; exact ((Fr.refl _ _).alloc _).alloc _)
  have PA : Hid (BxN W1 k (.bool fl1) (.float .f64 f1) (.bool s1) (.slice a1 l1 c1)) := Lib.hid (by
    unfold BxN
    rw [hW1, hk]
    simp only [blk_alloc, size_alloc]
    rw [if_neg (by omega), if_pos trivial])
  have PB : Hid (BxN W1 (k + 1) (.bool fl2) (.float .f64 f2) (.bool s2) (.slice a2 l2 c2)) := Lib.hid (by
    unfold BxN
    rw [hW1, hk]
    simp only [blk_alloc, size_alloc]
    rw [if_pos trivial])
  clear hT
  go_enter Tryz.func4, Tryz.ntmps4
  go_wp2_with fail
  rw [← hW1, ← hk]
  clear hW1 hk
  refine (towerAlive_c W1 (HL.out.fr F1.out)).mono ?_
  rintro e w2 ⟨rfl, Fz⟩
  have PA := Lib.hid (PA.out.fr Fz)
  have PB := Lib.hid (PB.out.fr Fz)
  have G2 := Lib.hid (F1.out.same Fz)
  clear F1 Fz HL
  have pa0 := PA.out.c0
  have pa1 := PA.out.c1
  have pa2 := PA.out.c2
  have pa3 := PA.out.c3
  have pal := PA.out.lt
  have pb0 := PB.out.c0
  have pb1 := PB.out.c1
  have pb2 := PB.out.c2
  have pb3 := PB.out.c3
  have pbl := PB.out.lt
  go_wp2_with fail
  refine (RL.out w2 G2.out).mono ?_
  rintro e w3 ⟨rfl, F3⟩
  have G3 := Lib.hid (G2.out.same F3)
  clear F3
  go_wp2_with fail
  go_ret
  exact ⟨rfl, G3.out.below⟩
set_option maxRecDepth 100000 in
set_option maxHeartbeats 4000000 in
theorem walk_all (fl1 : Bool) (f1 : Nat) (s1 : Bool) (a1 : Option Addr) (n1 : Nat) (c1 : Nat) (fl2 : Bool) (f2 : Nat) (s2 : Bool) (a2 : Option Addr) (n2 : Nat) (c2 : Nat) (z : Int) (W : World) (hT : LdT W) (hf1 : f1 < 18446744073709551616) (I1 : In W a1 c1 (lims n1)) (hn1 : n1 < B2) (hs1 : s1 = true → n1 ≠ 0) (hq1 : (lims n1).length ≤ 64) (hf2 : f2 < 18446744073709551616) (I2 : In W a2 c2 (lims n2)) (hn2 : n2 < B2) (hs2 : s2 = true → n2 ≠ 0) (hq2 : (lims n2).length ≤ 64) (hz1 : -9223372036854775808 ≤ z) (hz2 : z ≤ 9223372036854775807)
    (RL : Hid (∀ W', Fr [] W W' → Calls Tryz.prog 12 #[.agg #[.bool fl1, .float .f64 f1, .bool s1, .slice a1 (lims n1).length c1], .agg #[.bool fl2, .float .f64 f2, .bool s2, .slice a2 (lims n2).length c2]] W' fun e w' => e = .returned (.bool true) ∧ Fr [] W' w')) :
    Calls Tryz.prog 4 #[.agg #[.bool fl1, .float .f64 f1, .bool s1, .slice a1 (lims n1).length c1], .agg #[.bool fl2, .float .f64 f2, .bool s2, .slice a2 (lims n2).length c2], .int .i64 z] W fun e W' => e = .returned (.bool true) ∧ Below W.heap.size W W' := by
  have HL := Lib.hid hT
  obtain ⟨W1, hW1⟩ : ∃ W1, W1 = (W.alloc (.cells #[.bool fl1, .float .f64 f1, .bool s1, .slice a1 (lims n1).length c1] 27)).alloc (.cells #[.bool fl2, .float .f64 f2, .bool s2, .slice a2 (lims n2).length c2] 27) := ⟨_, rfl⟩
  obtain ⟨k, hk⟩ : ∃ k, k = W.heap.size := ⟨_, rfl⟩
  have F1 : Hid (Fr [] W W1) := Lib.hid (by rw [hW1]; exact ((Fr.refl _ _).alloc _).alloc _)
  have PA : Hid (BxN W1 k (.bool fl1) (.float .f64 f1) (.bool s1) (.slice a1 (lims n1).length c1)) := Lib.hid (by
    unfold BxN
    rw [hW1, hk]
    simp only [blk_alloc, size_alloc]
    rw [if_neg (by omega), if_pos trivial])
  have PB : Hid (BxN W1 (k + 1) (.bool fl2) (.float .f64 f2) (.bool s2) (.slice a2 (lims n2).length c2)) := Lib.hid (by
    unfold BxN
    rw [hW1, hk]
    simp only [blk_alloc, size_alloc]
    rw [if_pos trivial])
  have CX := Lib.hid (fun (w1 : World) (h : Fr [] W w1) => twcmp_c w1 fl1 f1 s1 n1 fl2 f2 s2 n2 hf1 hf2 (I1.keep h) (I2.keep h) hn1 hn2 hs1 hs2)
  have CR := Lib.hid (fun (w1 : World) (h : Fr [] W w1) => r4cmp_c w1 fl1 f1 s1 n1 fl2 f2 s2 n2 hf1 hf2 (I1.keep h) (I2.keep h) hn1 hn2 hs1 hs2 hq1 hq2)
  have CS := Lib.hid (fun (w1 : World) (h : Fr [] W w1) => twsame_c w1 fl1 f1 s1 n1 fl2 f2 s2 n2 hf1 hf2 (I1.keep h) (I2.keep h))
  have CT := Lib.hid (fun (w1 : World) (h : Fr [] W w1) => r4same_c w1 fl1 f1 s1 n1 fl2 f2 s2 n2 hf1 hf2 (I1.keep h) (I2.keep h))
  have CI := Lib.hid (fun (w1 : World) => twint_c w1 z hz1 hz2)
  have CJ := Lib.hid (fun (w1 : World) => r4int_c w1 z hz1 hz2)
  obtain ⟨m, hm⟩ : ∃ m, m = z.natAbs := ⟨_, rfl⟩
  obtain ⟨gz, hgz⟩ : ∃ gz, gz = decide (z < 0) := ⟨_, rfl⟩
  rw [← hm, ← hgz] at CI CJ
  have CSI : Hid (∀ (w1 : World) (a : Option Addr) (c : Nat) (a' : Option Addr) (c' : Nat), In w1 a c (lims m) → In w1 a' c' (lims m) → Calls Tryz.prog 17 #[.agg #[.bool false, .float .f64 0, .bool gz, .slice a (lims m).length c], .agg #[.bool false, .float .f64 0, .bool gz, .slice a' (lims m).length c']] w1 fun e w' => e = .returned (.bool true) ∧ Fr [] w1 w') := Lib.hid (fun w1 a c a' c' h h2 => by
    have := twsame_c w1 false 0 gz m false 0 gz m (by decide) (by decide) h h2
    rw [show tsP false 0 gz m false 0 gz m = true by unfold tsP; simp] at this
    exact this)
  have CSF : Hid (∀ (w1 : World), Calls Tryz.prog 17 #[.agg #[.bool true, .float .f64 f1, .bool false, .slice none 0 0], .agg #[.bool true, .float .f64 f1, .bool false, .slice none 0 0]] w1 fun e w' => e = .returned (.bool true) ∧ Fr [] w1 w') := Lib.hid (fun w1 => by
    have := twsame_c w1 true f1 false 0 true f1 false 0 hf1 hf1 (Nw.nil w1 0).in (Nw.nil w1 0).in
    rw [show tsP true f1 false 0 true f1 false 0 = true by unfold tsP; simp] at this
    exact this)
  obtain ⟨x, hx⟩ : ∃ x, x = tcP fl1 f1 s1 n1 fl2 f2 s2 n2 := ⟨_, rfl⟩
  obtain ⟨ox, hox⟩ : ∃ ox, ox = tokP fl1 f1 fl2 f2 := ⟨_, rfl⟩
  obtain ⟨sx, hsx⟩ : ∃ sx, sx = tsP fl1 f1 s1 n1 fl2 f2 s2 n2 := ⟨_, rfl⟩
  rw [← hx, ← hox] at CX CR
  rw [← hsx] at CS CT
  obtain ⟨l1, hl1⟩ : ∃ l, l = (lims n1).length := ⟨_, rfl⟩
  obtain ⟨l2, hl2⟩ : ∃ l, l = (lims n2).length := ⟨_, rfl⟩
  rw [← hl1] at PA CX CR CS CT RL hW1 ⊢
  rw [← hl2] at PB CX CR CS CT RL hW1 ⊢
  clear hT hx hox hsx hf1 I1 hn1 hs1 hl1 hf2 I2 hn2 hs2 hl2 hq1 hq2 hz1 hz2 hm hgz
  go_enter Tryz.func4, Tryz.ntmps4
  go_wp2_with fail
  rw [← hW1, ← hk]
  clear hW1 hk
  refine (towerAlive_c W1 (HL.out.fr F1.out)).mono ?_
  rintro e w2 ⟨rfl, Fz⟩
  have PA := Lib.hid (PA.out.fr Fz)
  have PB := Lib.hid (PB.out.fr Fz)
  have G2 := Lib.hid (F1.out.same Fz)
  clear F1 Fz HL
  have pa0 := PA.out.c0
  have pa1 := PA.out.c1
  have pa2 := PA.out.c2
  have pa3 := PA.out.c3
  have pal := PA.out.lt
  have pb0 := PB.out.c0
  have pb1 := PB.out.c1
  have pb2 := PB.out.c2
  have pb3 := PB.out.c3
  have pbl := PB.out.lt
  go_wp2_with fail
  refine (RL.out w2 G2.out).mono ?_
  rintro e w3 ⟨rfl, F3⟩
  replace PA := Lib.hid (PA.out.fr F3)
  replace PB := Lib.hid (PB.out.fr F3)
  have G3 := Lib.hid (G2.out.same F3)
  clear F3 G2 RL
  replace pa0 := PA.out.c0
  replace pa1 := PA.out.c1
  replace pa2 := PA.out.c2
  replace pa3 := PA.out.c3
  replace pal := PA.out.lt
  replace pb0 := PB.out.c0
  replace pb1 := PB.out.c1
  replace pb2 := PB.out.c2
  replace pb3 := PB.out.c3
  replace pbl := PB.out.lt
  go_wp2_with fail
  refine (CX.out w3 G3.out).mono ?_
  rintro e w4 ⟨rfl, F4⟩
  replace PA := Lib.hid (PA.out.fr F4)
  replace PB := Lib.hid (PB.out.fr F4)
  have G4 := Lib.hid (G3.out.same F4)
  clear F4 G3 CX
  replace pa0 := PA.out.c0
  replace pa1 := PA.out.c1
  replace pa2 := PA.out.c2
  replace pa3 := PA.out.c3
  replace pal := PA.out.lt
  replace pb0 := PB.out.c0
  replace pb1 := PB.out.c1
  replace pb2 := PB.out.c2
  replace pb3 := PB.out.c3
  replace pbl := PB.out.lt
  go_wp2_with fail
  refine (CR.out w4 G4.out).mono ?_
  rintro e w5 ⟨rfl, F5⟩
  replace PA := Lib.hid (PA.out.fr F5)
  replace PB := Lib.hid (PB.out.fr F5)
  have G5 := Lib.hid (G4.out.same F5)
  clear F5 G4 CR
  replace pa0 := PA.out.c0
  replace pa1 := PA.out.c1
  replace pa2 := PA.out.c2
  replace pa3 := PA.out.c3
  replace pal := PA.out.lt
  replace pb0 := PB.out.c0
  replace pb1 := PB.out.c1
  replace pb2 := PB.out.c2
  replace pb3 := PB.out.c3
  replace pbl := PB.out.lt
  have KEEP : Hid (∀ w_, Fr [] w5 w_ → (w_.cell? ⟨k, 0, none⟩ = some (.bool fl1) ∧ w_.cell? ⟨k, 1, none⟩ = some (.float .f64 f1) ∧ w_.cell? ⟨k, 2, none⟩ = some (.bool s1) ∧ w_.cell? ⟨k, 3, none⟩ = some (.slice a1 l1 c1) ∧ w_.cell? ⟨k + 1, 0, none⟩ = some (.bool fl2) ∧ w_.cell? ⟨k + 1, 1, none⟩ = some (.float .f64 f2) ∧ w_.cell? ⟨k + 1, 2, none⟩ = some (.bool s2) ∧ w_.cell? ⟨k + 1, 3, none⟩ = some (.slice a2 l2 c2))) := Lib.hid (fun w_ h => ⟨(PA.out.fr h).c0, (PA.out.fr h).c1, (PA.out.fr h).c2, (PA.out.fr h).c3, (PB.out.fr h).c0, (PB.out.fr h).c1, (PB.out.fr h).c2, (PB.out.fr h).c3⟩)
  have T1 : Hid True := Lib.hid trivial
  have T3 : Hid True := Lib.hid trivial
  clear PA PB
  go_wp2_with fail
  go_region_held3 (fun w_ => w_.cell? ⟨k, 0, none⟩ = some (.bool fl1) ∧ w_.cell? ⟨k, 1, none⟩ = some (.float .f64 f1) ∧ w_.cell? ⟨k, 2, none⟩ = some (.bool s1) ∧ w_.cell? ⟨k, 3, none⟩ = some (.slice a1 l1 c1) ∧ w_.cell? ⟨k + 1, 0, none⟩ = some (.bool fl2) ∧ w_.cell? ⟨k + 1, 1, none⟩ = some (.float .f64 f2) ∧ w_.cell? ⟨k + 1, 2, none⟩ = some (.bool s2) ∧ w_.cell? ⟨k + 1, 3, none⟩ = some (.slice a2 l2 c2)) (with_reducible first | assumption | exact KEEP.out _ ((Fr.refl [] _).drew) | exact KEEP.out _ K1.out | exact KEEP.out _ K2.out | exact KEEP.out _ K3.out | exact KEEP.out _ K4.out | exact KEEP.out _ K5.out | exact KEEP.out _ K6.out | exact KEEP.out _ K7.out | exact KEEP.out _ K8.out) (first | (go_at_call 17; first | (have T2 := T1; clear T1; refine Calls.mono (CS.out _ (G5.out.same (Fr.refl [] w5).drew)) ?_; rintro e u1 ⟨rfl, H1⟩; have K1 : Hid (Fr [] w5 u1) := Lib.hid ((Fr.refl [] w5).drew.same H1)) | (have T4 := T3; clear T3; refine Calls.mono (CSI.out _ _ _ _ _ J3.out J4.out) ?_; rintro e u5 ⟨rfl, H5⟩; have K5 : Hid (Fr [] w5 u5) := Lib.hid (K4.out.same H5)) | (refine Calls.mono (CSF.out _) ?_; rintro e u8 ⟨rfl, H8⟩; have K8 : Hid (Fr [] w5 u8) := Lib.hid (K7.out.same H8))) | (go_at_call 18; refine Calls.mono (CT.out _ (G5.out.same K1.out)) ?_; rintro e u2 ⟨rfl, H2⟩; have K2 : Hid (Fr [] w5 u2) := Lib.hid (K1.out.same H2)) | (go_at_call 19; refine Calls.mono (CI.out _) ?_; rintro e u3 ⟨a3, c3, rfl, J3, H3⟩; have J3 := Lib.hid J3; have K3 : Hid (Fr [] w5 u3) := Lib.hid (K2.out.same H3)) | (go_at_call 20; refine Calls.mono (CJ.out _) ?_; rintro e u4 ⟨a4, c4, rfl, J4, H4⟩; have J4 := Lib.hid J4; have J3 := Lib.hid (J3.out.keep H4); have K4 : Hid (Fr [] w5 u4) := Lib.hid (K3.out.same H4)) | (go_at_call 21; refine Calls.mono (twflo_c _ _) ?_; rintro e u6 ⟨rfl, H6⟩; have K6 : Hid (Fr [] w5 u6) := Lib.hid (K5.out.same H6)) | (go_at_call 22; refine Calls.mono (r4flo_c _ _) ?_; rintro e u7 ⟨rfl, H7⟩; have K7 : Hid (Fr [] w5 u7) := Lib.hid (K6.out.same H7)))
  go_wp2_with fail
  go_ret
  exact ⟨rfl, (G5.out.same K8.out).below⟩
set_option maxHeartbeats 1000000 in
theorem walk (z1 z2 : NA) (z : Int) (W : World) (h1 : InN W z1) (h2 : InN W z2) (hz : (Lit.int .i64 z).wf = true) (hT0 : laidMet Tryz.prog listed W) :
    Calls Tryz.prog 4 #[.agg #[.bool z1.fl, .float .f64 z1.f, .bool z1.i.s, .slice z1.i.a z1.i.len z1.i.cap], .agg #[.bool z2.fl, .float .f64 z2.f, .bool z2.i.s, .slice z2.i.a z2.i.len z2.i.cap], .int .i64 z] W fun e W' => e = .returned (.bool true) ∧ Below W.heap.size W W' := by
  have hT := ldT_of hT0
  obtain ⟨hz1, hz2⟩ := wf_i64 hz
  obtain ⟨fl1, f1, s1, a1, l1, c1⟩ := z1
  obtain ⟨fl2, f2, s2, a2, l2, c2⟩ := z2
  obtain ⟨hf1, L1, hL1⟩ := h1
  obtain ⟨hf2, L2, hL2⟩ := h2
  have hL1 : InA W a1 l1 c1 L1 := hL1
  have hL2 : InA W a2 l2 c2 L2 := hL2
  have RL : Hid (∀ W', Fr [] W W' → Calls Tryz.prog 12 #[.agg #[.bool fl1, .float .f64 f1, .bool s1, .slice a1 l1 c1], .agg #[.bool fl2, .float .f64 f2, .bool s2, .slice a2 l2 c2]] W' fun e w' => e = .returned (.bool (rightN fl1 f1 s1 L1 && rightN fl2 f2 s2 L2)) ∧ Fr [] W' w') := Lib.hid (fun W' h => lawright_c W' fl1 f1 s1 l1 fl2 f2 s2 l2 _ _ (fun w2 h2 => r4right_c w2 fl1 f1 s1 l1 (hL1.keep (h.same h2))) (fun w2 h2 => r4right_c w2 fl2 f2 s2 l2 (hL2.keep (h.same h2))))
  cases hr : (rightN fl1 f1 s1 L1 && rightN fl2 f2 s2 L2) with
  | false =>
    rw [hr] at RL
    exact walk_left fl1 f1 s1 a1 l1 c1 fl2 f2 s2 a2 l2 c2 z W hT RL
  | true =>
    rw [hr] at RL
    have hr1 : rightN fl1 f1 s1 L1 = true := by simp at hr; exact hr.1
    have hr2 : rightN fl2 f2 s2 L2 = true := by simp at hr; exact hr.2
    obtain ⟨n1, e1, I1, hn1, hs1, hq1⟩ := right_openN hL1 hr1
    obtain ⟨n2, e2, I2, hn2, hs2, hq2⟩ := right_openN hL2 hr2
    subst e1
    subst e2
    exact walk_all fl1 f1 s1 a1 n1 c1 fl2 f2 s2 a2 n2 c2 z W hT hf1 I1 hn1 hs1 hq1 hf2 I2 hn2 hs2 hq2 hz1 hz2 RL
set_option maxRecDepth 100000 in
theorem lifted (os : Os) (started : os.Started) (H : Type) (enc : TypeId × Value → H) :
    ReturnsInHanded {} Tryz.checked os 4 .any (fun w args => (Rows.towerOrdersSpec.pre enc Tryz.prog Tryz.f4 [] false w args ∧ laidMetH Tryz.prog listed w) ∧ sizedMet enc Tryz.prog Tryz.f4 (OpenSpec.ofChange Rows.towerOrdersSpec) false w args) (Rows.towerOrdersSpec.post enc Tryz.prog Tryz.f4 false true false false) := by
  refine returnsInHanded_of_change_and (C := Tryz.checked) (X := fun w _ => laidMetH Tryz.prog listed w) (fun _ _ _ hh h => h.of_heap hh) own started (by kernel_rfl) Tryz.func4
    (ChangeSpec.witness_shaped (enc := enc) (C := Tryz.checked) (os := os) (X := fun w _ => laidMetH Tryz.prog listed w) false (World.laidAll Tryz.prog os listed) #[zeroN, zeroN, .int .i64 0] 8 (World.laidAll_os _ _ _) (World.shaped_of_ZipB (by kernel_rfl) (by kernel_rfl)) (by kernel_rfl) (by kernel_rfl) (by kernel_rfl) (by rw [MakeChecks.laidMetH_plain _ _ _ (by kernel_rfl)]; exact listed_met os _)) ?_
  intro W base args ds gs before hval0 hW _ _ hL _
  rw [MakeChecks.laidMetH_plain _ _ _ (by kernel_rfl)] at hL
  have hT := hL
  have hval : ∀ (j : Nat) t v, Tryz.f4.params[j]? = some t → args[j]? = some v → Value.okWide Tryz.prog W .any base t v := hval0
  have hW' := hW
  obtain ⟨p, q, hA0, hV, rfl, hfz, hnd⟩ := hW
  have hA : DataW.TrodAll enc Tryz.prog W 0 (fun _ => true) true Tryz.f4.params.toList args.toList ds p := hA0
  rw [Tryz.params4] at hA hval
  obtain ⟨v0, vs0, d0, ds0, p0, q0, hargs, rfl, rfl, h0, r0⟩ := trodAll_cons hA
  obtain ⟨v1, vs1, d1, ds1, p1, q1, rfl, rfl, rfl, h1, r1⟩ := trodAll_cons r0
  obtain ⟨v2, vs2, d2, ds2, p2, q2, rfl, rfl, rfl, h2, r2⟩ := trodAll_cons r1
  obtain ⟨rfl, rfl, rfl⟩ := trodAll_nil r2
  obtain rfl : args = #[v0, v1, v2] := by cases args; simp_all
  obtain ⟨rfl, rfl⟩ := trodVars_none hV
  have k0 := h0
  have lt0 : ∀ x ∈ p0, x.block < W.heap.size := by obtain ⟨m, hm⟩ := k0; exact DataW.trod_lt m _ _ _ hm
  obtain ⟨z0, rfl, w0⟩ := open_num (hval 0 27 v0 rfl rfl) h0
  have k1 := h1
  have lt1 : ∀ x ∈ p1, x.block < W.heap.size := by obtain ⟨m, hm⟩ := k1; exact DataW.trod_lt m _ _ _ hm
  obtain ⟨z1, rfl, w1⟩ := open_num (hval 1 27 v1 rfl rfl) h1
  obtain ⟨a2, rfl, rfl, rfl, w2⟩ := open_int Tryz.underlying3 (hval 2 3 v2 rfl rfl) h2
  clear hA0 hval0
  refine (walk z0 z1 a2 W w0 w1 w2 hT).mono fun e W' ⟨he, bel⟩ => ?_
  subst he
  exact ⟨_, rfl, _, _, _, [], _, [], hW', trodAll_mk1 (shut_bool Tryz.underlying4 _), (trodAll_cons_mk (Below.trod laidOut (by kernel_rfl) (of_decide_eq_true (by kernel_rfl)) k0 bel lt0) (trodAll_cons_mk (Below.trod laidOut (by kernel_rfl) (of_decide_eq_true (by kernel_rfl)) k1 bel lt1) (trodAll_cons_mk (shut_int Tryz.underlying3 w2) trodAll_mk0))), rfl, bel.frame _, fun h => by cases h⟩
theorem over : Rows.towerOrdersRow.holds Tryz.pinned (OpenSpec.ofChange Rows.towerOrdersSpec) :=
  OpenClaim.holds_of_wide 4 Tryz.f4 rfl rfl rfl rfl rfl rfl rfl ⟨rfl, rfl, rfl, rfl, rfl⟩ rfl rfl rfl rfl rfl (by kernel_rfl) Tryz.func4 (by kernel_rfl)
    (of_decide_eq_true (by kernel_rfl)) (by unfold Func.isWrapper; first | (rw [if_pos (by decide +kernel)]; kernel_rfl) | (rw [if_neg (by decide +kernel)]; exact ⟨rfl, rfl⟩))
    (fun os started H enc _ => lifted os started H enc)
/-- THE STATEMENT -/
theorem proved : Rows.TowerOrdersCardSaid :=
  Claim7.holds_tied_plain_at .later [] [.data, .data, .data, .data, .sentinel, .sentinel, .pinned, .pinned] true (true, "1d6fd9ead80604889e6942dfba794aba432fb978ea210d34680d91fbcb61fb16") true
    over (fun _ h => by cases h) (by kernel_rfl) (fun _ h => by cases h) towerOrders_row_tie rfl ⟨rfl, rfl⟩ (by kernel_rfl) rfl
    (fun f fn hf hfn => by
      obtain rfl : f = 4 := Option.some.inj ((show Tryz.prog.funcNamed "distaff/distafflaw04.TowerOrders" = some 4 by kernel_rfl).symm.trans hf) |>.symm
      obtain rfl : fn = Tryz.f4 := (Option.some.inj (Tryz.func4.symm.trans hfn)).symm
      exact ⟨by kernel_rfl, fun j t ht => by
        rw [Tryz.params4] at ht
        have hm : t ∈ [27, 27, 3] := by simpa using Array.mem_of_getElem? ht
        have hall : ([27, 27, 3].all fun u => !Tryz.prog.wantsStandIn u) = true := by kernel_rfl
        exact (show Tryz.prog.wantsStandIn t = false by simpa using List.all_eq_true.1 hall t hm)⟩)
    (by kernel_rfl)
#print axioms proved
end Go.Proofs.YtjdanblijcdllaaGreatDoor.towerOrders
