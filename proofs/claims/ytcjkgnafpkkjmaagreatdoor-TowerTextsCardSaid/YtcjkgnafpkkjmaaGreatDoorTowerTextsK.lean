/- TowerTexts: the text of any number, exact or floating, is the document's text of it, and the number and the error of any text of at most 800 bytes are the document's. No condition. The row lists the variables of Go's library that these texts read, tied to the program's text by the card. -/
import Derived.Test.YtcjkgnafpkkjmaaGreatDoorQk36
import Derived.Test.YtcjkgnafpkkjmaaGreatDoorQk12
import Derived.ChangeMaps5
import Derived.Deep.RegionHeld3
set_option linter.all false
namespace Go.Proofs.YtcjkgnafpkkjmaaGreatDoor.towerTexts
open Go.ChangeShapes Go.WideShapes Go.RowKit Go.Proofs.YtcjkgnafpkkjmaaGreatDoor Go.ChangeMaps
theorem ba_of (s : ByteArray) : ∃ l : List UInt8, s = ba l := ⟨s.data.toList, by cases s; rfl⟩
theorem parseE_cases (l : List UInt8) : parseE l = 0 ∨ parseE l = 11 ∨ parseE l = 13 := by
  unfold parseE
  split
  · exact .inr (.inr rfl)
  · split
    · exact .inl rfl
    · exact .inr (.inl rfl)
theorem parse2_c (l : List UInt8) (hl : l.length ≤ 800) : ∃ (fl : Bool) (f : Nat) (s : Bool) (n e : Nat), f < 18446744073709551616 ∧
    (∀ w : World, LdX w → Calls Tryz.prog 14 #[.string (ba l)] w (PR w fl f s n e)) ∧ (∀ w : World, LdX w → Calls Tryz.prog 15 #[.string (ba l)] w (PR w fl f s n e)) := by
  have CE : ∀ w1 : World, Calls Tryz.prog 41 #[.string (ba l)] w1 (ParseI w1 (negS l) (cutS l)) := fun w1 => eparse_c w1 l (by omega)
  have CR : ∀ w1 : World, Calls Tryz.prog 43 #[.string (ba l)] w1 (ParseI w1 (negS l) (cutS l)) := fun w1 => r2parse_c w1 l (by omega)
  rcases parseE_cases (cutS l) with h | h | h
  · have key : ∀ (w1 : World) (x : Ending) (w' : World), ParseI w1 (negS l) (cutS l) x w' → ∃ a c, x = .returned (.tuple #[.agg #[.bool (sg (negS l) (numOf (cutS l))), .slice a (lims (numOf (cutS l))).length c], .int .i64 0]) ∧ In w' a c (lims (numOf (cutS l))) ∧ Fr [] w1 w' := fun w1 x w' hp => by
      unfold ParseI at hp
      rw [if_pos h] at hp
      exact hp
    exact ⟨false, 0, sg (negS l) (numOf (cutS l)), numOf (cutS l), 0, by decide, fun w _ => twparse_ok w _ _ _ (fun w1 => (CE w1).mono (key w1)), fun w _ => r4parse_ok w _ _ _ (fun w1 => (CR w1).mono (key w1))⟩
  · have key : ∀ (w1 : World) (x : Ending) (w' : World), ParseI w1 (negS l) (cutS l) x w' → x = .returned (.tuple #[.agg #[.bool false, .slice none 0 0], .int .i64 11]) ∧ Fr [] w1 w' := fun w1 x w' hp => by
      unfold ParseI at hp
      rw [if_neg (by rw [h]; decide), h] at hp
      exact hp
    exact ⟨false, 0, false, 0, 11, by decide, fun w _ => twparse_big w _ (fun w1 => (CE w1).mono (key w1)), fun w _ => r4parse_big w _ (fun w1 => (CR w1).mono (key w1))⟩
  · have key : ∀ (w1 : World) (x : Ending) (w' : World), ParseI w1 (negS l) (cutS l) x w' → x = .returned (.tuple #[.agg #[.bool false, .slice none 0 0], .int .i64 13]) ∧ Fr [] w1 w' := fun w1 x w' hp => by
      unfold ParseI at hp
      rw [if_neg (by rw [h]; decide), h] at hp
      exact hp
    obtain ⟨f, en, hf, CF, CG⟩ := parse_c l hl (fun h1 h2 => slow_of l h1 (by omega))
    by_cases he : en = 0
    · subst he
      exact ⟨true, f, false, 0, 0, hf, fun w HX => twparse_flo w _ f (fun w1 => (CE w1).mono (key w1)) (fun w1 hF => CF w1 (HX.fr hF)), fun w HX => r4parse_flo w _ f (fun w1 => (CR w1).mono (key w1)) (fun w1 hF => CG w1 (HX.fr hF))⟩
    · exact ⟨false, 0, false, 0, 13, by decide, fun w HX => twparse_bad w _ f en he (fun w1 => (CE w1).mono (key w1)) (fun w1 hF => CF w1 (HX.fr hF)), fun w HX => r4parse_bad w _ f en he (fun w1 => (CR w1).mono (key w1)) (fun w1 hF => CG w1 (HX.fr hF))⟩
theorem text2_c (fl : Bool) (f : Nat) (s : Bool) (a : Option Addr) (n c : Nat) (w : World) (hf : f < 18446744073709551616) (HX : LdX w) (hI : In w a c (lims n)) (hl : (lims n).length ≤ 64) : ∃ T : ByteArray,
    (∀ w1, Fr [] w w1 → Calls Tryz.prog 16 #[.agg #[.bool fl, .float .f64 f, .bool s, .slice a (lims n).length c]] w1 fun e w' => e = .returned (.string T) ∧ Fr [] w1 w') ∧
    (∀ w1, Fr [] w w1 → Calls Tryz.prog 17 #[.agg #[.bool fl, .float .f64 f, .bool s, .slice a (lims n).length c]] w1 fun e w' => e = .returned (.string T) ∧ Fr [] w1 w') := by
  cases fl
  · exact ⟨⟨(textI s n).toArray⟩, fun w1 h1 => twtext_int w1 f s _ _ (fun w2 h2 => etext_c w2 s n (hI.keep (h1.same h2)) ((HX.fr (h1.same h2)).t.tab)), fun w1 h1 => r4text_int w1 f s _ _ (fun w2 h2 => r2text_c w2 s n (hI.keep (h1.same h2)) (by omega))⟩
  · obtain ⟨T, TF, TR⟩ := text_c f hf
    exact ⟨T, fun w1 h1 => twtext_flo w1 f s _ T (fun w2 h2 => TF w2 (HX.fr (h1.same h2)).t), fun w1 h1 => r4text_flo w1 f s _ T (fun w2 h2 => TR w2 (HX.fr (h1.same h2)).t)⟩
set_option maxRecDepth 100000 in
set_option maxHeartbeats 4000000 in
theorem walk (z1 : NA) (s0 : ByteArray) (W : World) (h1 : InN W z1) (_ : s0.size ≤ maxLen) (hL : laidMet Tryz.prog listedF W) :
    Calls Tryz.prog 4 #[.agg #[.bool z1.fl, .float .f64 z1.f, .bool z1.i.s, .slice z1.i.a z1.i.len z1.i.cap], .string s0] W fun e W' => e = .returned (.bool true) ∧ Below W.heap.size W W' := by
  obtain ⟨l0, rfl⟩ := ba_of s0
  obtain ⟨fl, f, s, a, l, c⟩ := z1
  obtain ⟨hf, L, hL1⟩ := h1
  have hL1 : InA W a l c L := hL1
  have hf : f < 18446744073709551616 := hf
  have HX := Lib.hid (ldX_of hL)
  have hsz := ba_size l0
  show Calls Tryz.prog 4 #[.agg #[.bool fl, .float .f64 f, .bool s, .slice a l c], .string (ba l0)] W _
  obtain ⟨W1, hW1⟩ : ∃ W1, W1 = W.alloc (.cells #[.bool fl, .float .f64 f, .bool s, .slice a l c] 38) := ⟨_, rfl⟩
  obtain ⟨k, hk⟩ : ∃ k, k = W.heap.size := ⟨_, rfl⟩
  have F1 : Hid (Fr [] W W1) := Lib.hid (by rw [hW1]; exact (Fr.refl _ _).alloc _)
  have PA : Hid (BxN W1 k (.bool fl) (.float .f64 f) (.bool s) (.slice a l c)) := Lib.hid (by rw [hW1, hk]; exact BxN.new _ _ _ _ _)
  have CRT := Lib.hid (fun (w1 : World) (h : Fr [] W w1) => r4right_c w1 fl f s l (hL1.keep h))
  by_cases hl : 800 < l0.length
  · generalize ba l0 = S at *
    obtain ⟨n0, hn0⟩ : ∃ n, n = l0.length := ⟨_, rfl⟩
    rw [← hn0] at hl hsz
    have g8 : (800 : Int) < (n0 : Int) := by omega
    clear hn0 CRT hL1 hf hL
    go_enter Tryz.func4, Tryz.ntmps4
    go_wp2_with fail
    rw [← hW1]
    clear hW1 hk
    refine (towerAlive_c W1 (HX.out.fr F1.out).t).mono ?_
    rintro e w1 ⟨rfl, F2⟩
    have F2 := Lib.hid (F1.out.same F2)
    go_wp2_with fail
    go_ret
    exact ⟨rfl, F2.out.below⟩
  · obtain ⟨pl, pf, ps, pn, pe, hpf, CP, CQ⟩ := parse2_c l0 (by omega)
    have CP := Lib.hid CP
    have CQ := Lib.hid CQ
    have HPF := Lib.hid hpf
    generalize ba l0 = S at *
    obtain ⟨n0, hn0⟩ : ∃ n, n = l0.length := ⟨_, rfl⟩
    rw [← hn0] at hl hsz
    have g8 : ¬ (800 : Int) < (n0 : Int) := by omega
    cases hr : rightN fl f s L with
    | false =>
      rw [hr] at CRT
      clear hn0 hL1 hf hL hpf hr CP CQ
      go_enter Tryz.func4, Tryz.ntmps4
      go_wp2_with fail
      rw [← hW1, ← hk]
      clear hW1 hk
      refine (towerAlive_c W1 (HX.out.fr F1.out).t).mono ?_
      rintro e w1 ⟨rfl, F2⟩
      have PA := Lib.hid (PA.out.fr F2)
      have F2 := Lib.hid (F1.out.same F2)
      have pa0 := PA.out.c0
      have pa1 := PA.out.c1
      have pa2 := PA.out.c2
      have pa3 := PA.out.c3
      have pal := PA.out.lt
      go_wp2_with fail
      refine (CRT.out w1 F2.out).mono ?_
      rintro e w2 ⟨rfl, F3⟩
      have F3 := Lib.hid (F2.out.same F3)
      go_wp2_with fail
      go_ret
      exact ⟨rfl, F3.out.below⟩
    | true =>
      rw [hr] at CRT
      obtain ⟨n, e1, I1, hn1, hs1, hq1⟩ := right_openN hL1 hr
      obtain ⟨T, CT, CU⟩ := text2_c fl f s a n c W hf HX.out I1 hq1
      rw [← e1] at CT CU
      have CT := Lib.hid CT
      have CU := Lib.hid CU
      clear hn0 hL1 hf hL hpf hr I1 hn1 hs1 hq1 e1
      have hsf := sf_run
      go_enter Tryz.func4, Tryz.ntmps4
      go_wp2_with fail
      rw [← hW1, ← hk]
      clear hW1 hk
      refine (towerAlive_c W1 (HX.out.fr F1.out).t).mono ?_
      rintro e w1 ⟨rfl, F2⟩
      have PA := Lib.hid (PA.out.fr F2)
      have F2 := Lib.hid (F1.out.same F2)
      have pa0 := PA.out.c0
      have pa1 := PA.out.c1
      have pa2 := PA.out.c2
      have pa3 := PA.out.c3
      have pal := PA.out.lt
      go_wp2_with fail
      refine (CRT.out w1 F2.out).mono ?_
      rintro e w2 ⟨rfl, F3⟩
      have PA := Lib.hid (PA.out.fr F3)
      have F3 := Lib.hid (F2.out.same F3)
      clear pa0 pa1 pa2 pa3 pal F1 CRT
      go_wp2_with fail
      refine (CP.out w2 (HX.out.fr F3.out)).mono ?_
      rintro e w3 ⟨a3, c3, rfl, I3, F4⟩
      have PA := Lib.hid (PA.out.fr F4)
      have F4 := Lib.hid (F3.out.same F4)
      obtain ⟨pL, hpL⟩ : ∃ pL, pL = (lims pn).length := ⟨_, rfl⟩
      have HPL := Lib.hid hpL
      rw [← hpL]
      obtain ⟨w4, hw4⟩ : ∃ w4, w4 = w3.alloc (.cells #[.bool pl, .float .f64 pf, .bool ps, .slice a3 pL c3] 38) := ⟨_, rfl⟩
      obtain ⟨k5, hk5⟩ : ∃ k5, k5 = w3.heap.size := ⟨_, rfl⟩
      have PX : Hid (BxN w4 k5 (.bool pl) (.float .f64 pf) (.bool ps) (.slice a3 pL c3)) := Lib.hid (by rw [hw4, hk5]; exact BxN.new _ _ _ _ _)
      have I4 : Hid (In w4 a3 c3 (lims pn)) := Lib.hid (by rw [hw4]; exact I3.keep ((Fr.refl _ _).alloc _))
      have PA := Lib.hid (by rw [hw4]; exact PA.out.fr ((Fr.refl _ _).alloc _) : BxN w4 k (.bool fl) (.float .f64 f) (.bool s) (.slice a l c))
      have F5 : Hid (Fr [] W w4) := Lib.hid (by rw [hw4]; exact F4.out.alloc _)
      clear hpL I3
      go_wp2_with fail
      rw [← hw4, ← hk5]
      clear hw4 hk5
      refine (CQ.out w4 (HX.out.fr F5.out)).mono ?_
      rintro e w5 ⟨a5, c5, rfl, I5, F6⟩
      have PA := Lib.hid (PA.out.fr F6)
      have PX := Lib.hid (PX.out.fr F6)
      have I4 := Lib.hid (I4.out.keep F6)
      have F6 := Lib.hid (F5.out.same F6)
      rw [← HPL.out]
      obtain ⟨w6, hw6⟩ : ∃ w6, w6 = w5.alloc (.cells #[.bool pl, .float .f64 pf, .bool ps, .slice a5 pL c5] 38) := ⟨_, rfl⟩
      obtain ⟨k7, hk7⟩ : ∃ k7, k7 = w5.heap.size := ⟨_, rfl⟩
      have PY : Hid (BxN w6 k7 (.bool pl) (.float .f64 pf) (.bool ps) (.slice a5 pL c5)) := Lib.hid (by rw [hw6, hk7]; exact BxN.new _ _ _ _ _)
      have I6 : Hid (In w6 a5 c5 (lims pn)) := Lib.hid (by rw [hw6]; exact I5.keep ((Fr.refl _ _).alloc _))
      have I7 : Hid (In w6 a3 c3 (lims pn)) := Lib.hid (by rw [hw6]; exact I4.out.keep ((Fr.refl _ _).alloc _))
      have PA := Lib.hid (by rw [hw6]; exact PA.out.fr ((Fr.refl _ _).alloc _) : BxN w6 k (.bool fl) (.float .f64 f) (.bool s) (.slice a l c))
      have PX := Lib.hid (by rw [hw6]; exact PX.out.fr ((Fr.refl _ _).alloc _) : BxN w6 k5 (.bool pl) (.float .f64 pf) (.bool ps) (.slice a3 pL c3))
      have F7 : Hid (Fr [] W w6) := Lib.hid (by rw [hw6]; exact F6.out.alloc _)
      clear I5 I4 F2 F3 F4 F5 F6 CP CQ
      have KEEP : Hid (∀ w_, Fr [] w6 w_ → (w_.cell? ⟨k, 0, none⟩ = some (.bool fl) ∧ w_.cell? ⟨k, 1, none⟩ = some (.float .f64 f) ∧ w_.cell? ⟨k, 2, none⟩ = some (.bool s) ∧ w_.cell? ⟨k, 3, none⟩ = some (.slice a l c) ∧ w_.cell? ⟨k5, 0, none⟩ = some (.bool pl) ∧ w_.cell? ⟨k5, 1, none⟩ = some (.float .f64 pf) ∧ w_.cell? ⟨k5, 2, none⟩ = some (.bool ps) ∧ w_.cell? ⟨k5, 3, none⟩ = some (.slice a3 pL c3) ∧ w_.cell? ⟨k7, 0, none⟩ = some (.bool pl) ∧ w_.cell? ⟨k7, 1, none⟩ = some (.float .f64 pf) ∧ w_.cell? ⟨k7, 2, none⟩ = some (.bool ps) ∧ w_.cell? ⟨k7, 3, none⟩ = some (.slice a5 pL c5))) := Lib.hid (fun w_ h => ⟨(PA.out.fr h).c0, (PA.out.fr h).c1, (PA.out.fr h).c2, (PA.out.fr h).c3, (PX.out.fr h).c0, (PX.out.fr h).c1, (PX.out.fr h).c2, (PX.out.fr h).c3, (PY.out.fr h).c0, (PY.out.fr h).c1, (PY.out.fr h).c2, (PY.out.fr h).c3⟩)
      have CS : Hid (∀ w1, Fr [] w6 w1 → Calls Tryz.prog 18 #[.agg #[.bool pl, .float .f64 pf, .bool ps, .slice a3 pL c3], .agg #[.bool pl, .float .f64 pf, .bool ps, .slice a5 pL c5]] w1 fun e w' => e = .returned (.bool true) ∧ Fr [] w1 w') := Lib.hid (fun w1 h => by
        have := r4same_c w1 pl pf ps pn pl pf ps pn HPF.out HPF.out (I7.out.keep h) (I6.out.keep h)
        rw [show tsP pl pf ps pn pl pf ps pn = true by unfold tsP; cases pl <;> simp, ← HPL.out] at this
        exact this)
      have CT6 := Lib.hid (fun (w1 : World) (h : Fr [] w6 w1) => CT.out w1 (F7.out.same h))
      have CU6 := Lib.hid (fun (w1 : World) (h : Fr [] w6 w1) => CU.out w1 (F7.out.same h))
      clear CT CU I6 I7 HX
      have pal := PA.out.lt
      have pxl := PX.out.lt
      have pyl := PY.out.lt
      clear PA PX PY
      go_wp2_with fail
      rw [← hw6, ← hk7]
      clear hw6 hk7
      have K0 : Hid (Fr [] w6 w6) := Lib.hid (Fr.refl _ _)
      go_region_held3 (fun w_ => w_.cell? ⟨k, 0, none⟩ = some (.bool fl) ∧ w_.cell? ⟨k, 1, none⟩ = some (.float .f64 f) ∧ w_.cell? ⟨k, 2, none⟩ = some (.bool s) ∧ w_.cell? ⟨k, 3, none⟩ = some (.slice a l c) ∧ w_.cell? ⟨k5, 0, none⟩ = some (.bool pl) ∧ w_.cell? ⟨k5, 1, none⟩ = some (.float .f64 pf) ∧ w_.cell? ⟨k5, 2, none⟩ = some (.bool ps) ∧ w_.cell? ⟨k5, 3, none⟩ = some (.slice a3 pL c3) ∧ w_.cell? ⟨k7, 0, none⟩ = some (.bool pl) ∧ w_.cell? ⟨k7, 1, none⟩ = some (.float .f64 pf) ∧ w_.cell? ⟨k7, 2, none⟩ = some (.bool ps) ∧ w_.cell? ⟨k7, 3, none⟩ = some (.slice a5 pL c5)) (with_reducible first | assumption | exact KEEP.out _ ((Fr.refl [] _).drew) | exact KEEP.out _ K3.out | exact KEEP.out _ K2.out | exact KEEP.out _ K1.out | exact KEEP.out _ K0.out) (first | (go_at_call 16; refine Calls.mono (CT6.out _ ((Fr.refl [] w6).drew)) ?_; rintro e u1 ⟨rfl, H1⟩; have K1 : Hid (Fr [] w6 u1) := Lib.hid ((Fr.refl [] w6).drew.same H1)) | (go_at_call 17; refine Calls.mono (CU6.out _ K1.out) ?_; rintro e u2 ⟨rfl, H2⟩; have K2 : Hid (Fr [] w6 u2) := Lib.hid (K1.out.same H2)) | (go_at_call 18; refine Calls.mono (CS.out _ K2.out) ?_; rintro e u3 ⟨rfl, H3⟩; have K3 : Hid (Fr [] w6 u3) := Lib.hid (K2.out.same H3)))
      go_wp2_with fail
      go_ret
      exact ⟨rfl, (F7.out.same K3.out).below⟩
set_option maxRecDepth 100000 in
theorem lifted (os : Os) (started : os.Started) (H : Type) (enc : TypeId × Value → H) :
    ReturnsInHanded {} Tryz.checked os 4 .any (fun w args => (Rows.towerTextsSpec.pre enc Tryz.prog Tryz.f4 [] false w args ∧ laidMetH Tryz.prog listedF w) ∧ sizedMet enc Tryz.prog Tryz.f4 (OpenSpec.ofChange Rows.towerTextsSpec) false w args) (Rows.towerTextsSpec.post enc Tryz.prog Tryz.f4 false true false false) := by
  refine returnsInHanded_of_change_and (C := Tryz.checked) (X := fun w _ => laidMetH Tryz.prog listedF w) (fun _ _ _ hh h => h.of_heap hh) own started (by kernel_rfl) Tryz.func4
    (ChangeSpec.witness_shaped (enc := enc) (C := Tryz.checked) (os := os) (X := fun w _ => laidMetH Tryz.prog listedF w) false (World.laidAll Tryz.prog os listedF) #[zeroN, .string ⟨#[]⟩] 8 (World.laidAll_os _ _ _) (World.shaped_of_ZipB (by kernel_rfl) (by kernel_rfl)) (by kernel_rfl) (by kernel_rfl) (by kernel_rfl) (by rw [MakeChecks.laidMetH_plain _ _ _ (by kernel_rfl)]; exact listedF_met os _)) ?_
  intro W base args ds gs before hval0 hW _ _ hL _
  rw [MakeChecks.laidMetH_plain _ _ _ (by kernel_rfl)] at hL
  have hT := hL
  have hval : ∀ (j : Nat) t v, Tryz.f4.params[j]? = some t → args[j]? = some v → Value.okWide Tryz.prog W .any base t v := hval0
  have hW' := hW
  obtain ⟨p, q, hA0, hV, rfl, hfz, hnd⟩ := hW
  have hA : DataW.TrodAll enc Tryz.prog W 0 (fun _ => true) true Tryz.f4.params.toList args.toList ds p := hA0
  rw [Tryz.params4] at hA hval
  obtain ⟨v0, vs0, d0, ds0, p0, q0, hargs, rfl, rfl, h0, r0⟩ := trodAll_cons hA
  obtain ⟨v1, vs1, d1, ds1, p1, q1, rfl, rfl, rfl, h1, r1⟩ := trodAll_cons r0
  obtain ⟨rfl, rfl, rfl⟩ := trodAll_nil r1
  obtain rfl : args = #[v0, v1] := by cases args; simp_all
  obtain ⟨rfl, rfl⟩ := trodVars_none hV
  have k0 := h0
  have lt0 : ∀ x ∈ p0, x.block < W.heap.size := by obtain ⟨m, hm⟩ := k0; exact DataW.trod_lt m _ _ _ hm
  obtain ⟨z0, rfl, w0⟩ := open_num (hval 0 38 v0 rfl rfl) h0
  obtain ⟨a1, rfl, rfl, rfl, w1⟩ := open_string Tryz.underlying9 (hval 1 9 v1 rfl rfl) h1
  clear hA0 hval0
  refine (walk z0 a1 W w0 w1 hT).mono fun e W' ⟨he, bel⟩ => ?_
  subst he
  exact ⟨_, rfl, _, _, _, [], _, [], hW', trodAll_mk1 (shut_bool Tryz.underlying4 _), (trodAll_cons_mk (Below.trod laidOut (by kernel_rfl) (of_decide_eq_true (by kernel_rfl)) k0 bel lt0) (trodAll_cons_mk (shut_string Tryz.underlying9 w1) trodAll_mk0)), rfl, bel.frame _, fun h => by cases h⟩
theorem over : Rows.towerTextsRow.holds Tryz.pinned (OpenSpec.ofChange Rows.towerTextsSpec) :=
  OpenClaim.holds_of_wide 4 Tryz.f4 rfl rfl rfl rfl rfl rfl rfl ⟨rfl, rfl, rfl, rfl, rfl⟩ rfl rfl rfl rfl rfl (by kernel_rfl) Tryz.func4 (by kernel_rfl)
    (of_decide_eq_true (by kernel_rfl)) (by unfold Func.isWrapper; first | (rw [if_pos (by decide +kernel)]; kernel_rfl) | (rw [if_neg (by decide +kernel)]; exact ⟨rfl, rfl⟩))
    (fun os started H enc _ => lifted os started H enc)
/-- THE STATEMENT -/
theorem proved : Rows.TowerTextsCardSaid :=
  Claim7.holds_tied_plain_at .later [] [.data, .data, .widerDeep, .widerDeep, .data, .data, .data, .data, .data, .sentinel, .sentinel, .pinned, .pinned] true (true, "b2a25aa7b2753fbd9f8f4bfa460f7f9573cc111c2bf74c6d20d0db6f816fe055") true
    over (fun _ h => by cases h) (by kernel_rfl) (fun _ h => by cases h) towerTexts_row_tie rfl ⟨rfl, rfl⟩ (by kernel_rfl) rfl
    (fun f fn hf hfn => by
      obtain rfl : f = 4 := Option.some.inj ((show Tryz.prog.funcNamed "distaff/distafflaw04.TowerTexts" = some 4 by kernel_rfl).symm.trans hf) |>.symm
      obtain rfl : fn = Tryz.f4 := (Option.some.inj (Tryz.func4.symm.trans hfn)).symm
      exact ⟨by kernel_rfl, fun j t ht => by
        rw [Tryz.params4] at ht
        have hm : t ∈ [38, 9] := by simpa using Array.mem_of_getElem? ht
        have hall : ([38, 9].all fun u => !Tryz.prog.wantsStandIn u) = true := by kernel_rfl
        exact (show Tryz.prog.wantsStandIn t = false by simpa using List.all_eq_true.1 hall t hm)⟩)
    (by kernel_rfl)
#print axioms proved
end Go.Proofs.YtcjkgnafpkkjmaaGreatDoor.towerTexts
