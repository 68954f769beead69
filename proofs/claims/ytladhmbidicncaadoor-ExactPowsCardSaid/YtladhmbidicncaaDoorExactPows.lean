/- exactPows. -/
import Derived.Test.YtladhmbidicncaaDoorExaPB
namespace Go.Proofs.YtladhmbidicncaaDoor.exactPows
open Go.ChangeShapes Go.WideShapes Go.RowKit Go.Proofs.YtladhmbidicncaaDoor
set_option maxRecDepth 100000 in
set_option maxHeartbeats 16000000 in
theorem walk_left (s : Bool) (a : Option Addr) (ln cap : Nat) (s2 : Bool) (b : Option Addr) (lm cap2 : Nat) (L M : List Nat) (W : World) (hL : InA W a ln cap L) (hM : InA W b lm cap2 M) (hT : Tab W) (hr : (rightP s L && rightP s2 M) = false) :
    Calls Tryd.prog 18 #[.agg #[.bool s, .slice a ln cap], .agg #[.bool s2, .slice b lm cap2]] W fun e W' => e = .returned (.bool true) ∧ Below W.heap.size W W' := by
  have HT := Lib.hid hT
  clear hT
  have RA : Hid (∀ g, rightP s L = g → ∀ W', Fr [] W W' → Calls Tryd.prog 44 #[.agg #[.bool s, .slice a ln cap]] W' fun e w' => e = .returned (.bool g) ∧ Fr [] W' w') := Lib.hid (fun g e W' h => by rw [← e]; exact r2right_any W' s ln (hL.keep h))
  have RB : Hid (∀ g, rightP s2 M = g → ∀ W', Fr [] W W' → Calls Tryd.prog 44 #[.agg #[.bool s2, .slice b lm cap2]] W' fun e w' => e = .returned (.bool g) ∧ Fr [] W' w') := Lib.hid (fun g e W' h => by rw [← e]; exact r2right_any W' s2 lm (hM.keep h))
  cases hp : rightP s L with
  | false =>
    have RA := Lib.hid (RA.out _ hp)
    clear RB hp hL hM hr
    have FW : Hid (Fr [] W ((W.alloc (.cells #[.bool s, .slice a ln cap] 52)).alloc (.cells #[.bool s2, .slice b lm cap2] 52))) := Lib.hid (((Fr.refl [] W).alloc _).alloc _)
    have P := Lib.hid ((Bx.new W (.bool s) (.slice a ln cap)).fr ((Fr.refl [] _).alloc (.cells #[.bool s2, .slice b lm cap2] 52)))
    have fP0 := P.out.c0
    have fP1 := P.out.c1
    have fPl := P.out.lt
    have Q := Lib.hid ((Bx.new (W.alloc (.cells #[.bool s, .slice a ln cap] 52)) (.bool s2) (.slice b lm cap2)).eq (k' := W.heap.size + 1) (by simp))
    have fQ0 := Q.out.c0
    have fQ1 := Q.out.c1
    have fQl := Q.out.lt
    go_enter Tryd.func18, Tryd.ntmps18
    go_wp2_with fail
    refine (exactAlive_c _ (HT.out.fr FW.out)).mono ?_
    rintro e w1 ⟨rfl, F1⟩
    replace P := Lib.hid (P.out.fr F1)
    replace fP0 := P.out.c0
    replace fP1 := P.out.c1
    replace fPl := P.out.lt
    replace Q := Lib.hid (Q.out.fr F1)
    replace fQ0 := Q.out.c0
    replace fQ1 := Q.out.c1
    replace fQl := Q.out.lt
    replace FW := Lib.hid (FW.out.same F1)
    clear F1
    go_wp2_with fail
    refine (RA.out _ FW.out).mono ?_
    rintro e w2 ⟨rfl, F2⟩
    replace P := Lib.hid (P.out.fr F2)
    replace fP0 := P.out.c0
    replace fP1 := P.out.c1
    replace fPl := P.out.lt
    replace Q := Lib.hid (Q.out.fr F2)
    replace fQ0 := Q.out.c0
    replace fQ1 := Q.out.c1
    replace fQl := Q.out.lt
    replace FW := Lib.hid (FW.out.same F2)
    clear F2
    go_wp2_with fail
    go_ret
    exact ⟨rfl, FW.out.below⟩
  | true =>
    have hq : rightP s2 M = false := by rw [hp] at hr; simpa using hr
    have RA := Lib.hid (RA.out _ hp)
    have RB := Lib.hid (RB.out _ hq)
    clear hp hq hL hM hr
    have FW : Hid (Fr [] W ((W.alloc (.cells #[.bool s, .slice a ln cap] 52)).alloc (.cells #[.bool s2, .slice b lm cap2] 52))) := Lib.hid (((Fr.refl [] W).alloc _).alloc _)
    have P := Lib.hid ((Bx.new W (.bool s) (.slice a ln cap)).fr ((Fr.refl [] _).alloc (.cells #[.bool s2, .slice b lm cap2] 52)))
    have fP0 := P.out.c0
    have fP1 := P.out.c1
    have fPl := P.out.lt
    have Q := Lib.hid ((Bx.new (W.alloc (.cells #[.bool s, .slice a ln cap] 52)) (.bool s2) (.slice b lm cap2)).eq (k' := W.heap.size + 1) (by simp))
    have fQ0 := Q.out.c0
    have fQ1 := Q.out.c1
    have fQl := Q.out.lt
    go_enter Tryd.func18, Tryd.ntmps18
    go_wp2_with fail
    refine (exactAlive_c _ (HT.out.fr FW.out)).mono ?_
    rintro e w1 ⟨rfl, F1⟩
    replace P := Lib.hid (P.out.fr F1)
    replace fP0 := P.out.c0
    replace fP1 := P.out.c1
    replace fPl := P.out.lt
    replace Q := Lib.hid (Q.out.fr F1)
    replace fQ0 := Q.out.c0
    replace fQ1 := Q.out.c1
    replace fQl := Q.out.lt
    replace FW := Lib.hid (FW.out.same F1)
    clear F1
    go_wp2_with fail
    refine (RA.out _ FW.out).mono ?_
    rintro e w2 ⟨rfl, F2⟩
    replace P := Lib.hid (P.out.fr F2)
    replace fP0 := P.out.c0
    replace fP1 := P.out.c1
    replace fPl := P.out.lt
    replace Q := Lib.hid (Q.out.fr F2)
    replace fQ0 := Q.out.c0
    replace fQ1 := Q.out.c1
    replace fQl := Q.out.lt
    replace FW := Lib.hid (FW.out.same F2)
    clear F2
    go_wp2_with fail
    refine (RB.out _ FW.out).mono ?_
    rintro e w3 ⟨rfl, F3⟩
    replace P := Lib.hid (P.out.fr F3)
    replace fP0 := P.out.c0
    replace fP1 := P.out.c1
    replace fPl := P.out.lt
    replace Q := Lib.hid (Q.out.fr F3)
    replace fQ0 := Q.out.c0
    replace fQ1 := Q.out.c1
    replace fQl := Q.out.lt
    replace FW := Lib.hid (FW.out.same F3)
    clear F3
    go_wp2_with fail
    go_ret
    exact ⟨rfl, FW.out.below⟩
set_option maxRecDepth 100000 in
set_option maxHeartbeats 16000000 in
theorem walk_both (s : Bool) (a : Option Addr) (n cap : Nat) (s2 : Bool) (b : Option Addr) (m cap2 : Nat) (W : World) (I1 : In W a cap (lims n)) (I2 : In W b cap2 (lims m)) (hfn : fits n = true) (hfm : fits m = true) (_ : s = true → n ≠ 0) (hsm : s2 = true → m ≠ 0) (hln : (lims n).length ≤ 64) (hlm : (lims m).length ≤ 64) (hT : Tab W)
    (RA : Hid (∀ W', Fr [] W W' → Calls Tryd.prog 44 #[.agg #[.bool s, .slice a (lims n).length cap]] W' fun e w' => e = .returned (.bool true) ∧ Fr [] W' w')) (RB : Hid (∀ W', Fr [] W W' → Calls Tryd.prog 44 #[.agg #[.bool s2, .slice b (lims m).length cap2]] W' fun e w' => e = .returned (.bool true) ∧ Fr [] W' w')) :
    Calls Tryd.prog 18 #[.agg #[.bool s, .slice a (lims n).length cap], .agg #[.bool s2, .slice b (lims m).length cap2]] W fun e W' => e = .returned (.bool true) ∧ Below W.heap.size W W' := by
  have HT := Lib.hid hT
  clear hT
  obtain ⟨bX, nX, eX, CP, EP⟩ := pow_both W s a n cap s2 b m cap2 I1 I2 hfn hsm
  have CP := Lib.hid CP
  have EP := Lib.hid EP
  have SAME : Hid (∀ W' t k x c y d, In W' x c (lims k) → In W' y d (lims k) → Calls Tryd.prog 49 #[.agg #[.bool t, .slice x (lims k).length c], .agg #[.bool t, .slice y (lims k).length d]] W' fun e w' => e = .returned (.bool true) ∧ Fr [] W' w') := Lib.hid (fun W' t k x c y d h h2 => by
    have := r2same_c W' t t k k h h2
    rwa [decide_eq_true (⟨rfl, rfl⟩ : t = t ∧ k = k)] at this)
  clear I1 I2 hfn hfm hsm hln hlm
  by_cases g8 : (8 : Int) < ((lims n).length : Int)
  · have FW : Hid (Fr [] W ((W.alloc (.cells #[.bool s, .slice a (lims n).length cap] 52)).alloc (.cells #[.bool s2, .slice b (lims m).length cap2] 52))) := Lib.hid (((Fr.refl [] W).alloc _).alloc _)
    have P := Lib.hid ((Bx.new W (.bool s) (.slice a (lims n).length cap)).fr ((Fr.refl [] _).alloc (.cells #[.bool s2, .slice b (lims m).length cap2] 52)))
    have fP0 := P.out.c0
    have fP1 := P.out.c1
    have fPl := P.out.lt
    have Q := Lib.hid ((Bx.new (W.alloc (.cells #[.bool s, .slice a (lims n).length cap] 52)) (.bool s2) (.slice b (lims m).length cap2)).eq (k' := W.heap.size + 1) (by simp))
    have fQ0 := Q.out.c0
    have fQ1 := Q.out.c1
    have fQl := Q.out.lt
    go_enter Tryd.func18, Tryd.ntmps18
    go_wp2_with fail
    refine (exactAlive_c _ (HT.out.fr FW.out)).mono ?_
    rintro e w1 ⟨rfl, F1⟩
    replace P := Lib.hid (P.out.fr F1)
    replace fP0 := P.out.c0
    replace fP1 := P.out.c1
    replace fPl := P.out.lt
    replace Q := Lib.hid (Q.out.fr F1)
    replace fQ0 := Q.out.c0
    replace fQ1 := Q.out.c1
    replace fQl := Q.out.lt
    replace FW := Lib.hid (FW.out.same F1)
    clear F1
    go_wp2_with fail
    refine (RA.out _ FW.out).mono ?_
    rintro e w2 ⟨rfl, F2⟩
    replace P := Lib.hid (P.out.fr F2)
    replace fP0 := P.out.c0
    replace fP1 := P.out.c1
    replace fPl := P.out.lt
    replace Q := Lib.hid (Q.out.fr F2)
    replace fQ0 := Q.out.c0
    replace fQ1 := Q.out.c1
    replace fQl := Q.out.lt
    replace FW := Lib.hid (FW.out.same F2)
    clear F2
    go_wp2_with fail
    refine (RB.out _ FW.out).mono ?_
    rintro e w3 ⟨rfl, F3⟩
    replace P := Lib.hid (P.out.fr F3)
    replace fP0 := P.out.c0
    replace fP1 := P.out.c1
    replace fPl := P.out.lt
    replace Q := Lib.hid (Q.out.fr F3)
    replace fQ0 := Q.out.c0
    replace fQ1 := Q.out.c1
    replace fQl := Q.out.lt
    replace FW := Lib.hid (FW.out.same F3)
    clear F3
    go_wp2
    go_ret
    exact ⟨rfl, FW.out.below⟩
  · have FW : Hid (Fr [] W ((W.alloc (.cells #[.bool s, .slice a (lims n).length cap] 52)).alloc (.cells #[.bool s2, .slice b (lims m).length cap2] 52))) := Lib.hid (((Fr.refl [] W).alloc _).alloc _)
    have P := Lib.hid ((Bx.new W (.bool s) (.slice a (lims n).length cap)).fr ((Fr.refl [] _).alloc (.cells #[.bool s2, .slice b (lims m).length cap2] 52)))
    have fP0 := P.out.c0
    have fP1 := P.out.c1
    have fPl := P.out.lt
    have Q := Lib.hid ((Bx.new (W.alloc (.cells #[.bool s, .slice a (lims n).length cap] 52)) (.bool s2) (.slice b (lims m).length cap2)).eq (k' := W.heap.size + 1) (by simp))
    have fQ0 := Q.out.c0
    have fQ1 := Q.out.c1
    have fQl := Q.out.lt
    go_enter Tryd.func18, Tryd.ntmps18
    go_wp2_with fail
    refine (exactAlive_c _ (HT.out.fr FW.out)).mono ?_
    rintro e w1 ⟨rfl, F1⟩
    replace P := Lib.hid (P.out.fr F1)
    replace fP0 := P.out.c0
    replace fP1 := P.out.c1
    replace fPl := P.out.lt
    replace Q := Lib.hid (Q.out.fr F1)
    replace fQ0 := Q.out.c0
    replace fQ1 := Q.out.c1
    replace fQl := Q.out.lt
    replace FW := Lib.hid (FW.out.same F1)
    clear F1
    go_wp2_with fail
    refine (RA.out _ FW.out).mono ?_
    rintro e w2 ⟨rfl, F2⟩
    replace P := Lib.hid (P.out.fr F2)
    replace fP0 := P.out.c0
    replace fP1 := P.out.c1
    replace fPl := P.out.lt
    replace Q := Lib.hid (Q.out.fr F2)
    replace fQ0 := Q.out.c0
    replace fQ1 := Q.out.c1
    replace fQl := Q.out.lt
    replace FW := Lib.hid (FW.out.same F2)
    clear F2
    go_wp2_with fail
    refine (RB.out _ FW.out).mono ?_
    rintro e w3 ⟨rfl, F3⟩
    replace P := Lib.hid (P.out.fr F3)
    replace fP0 := P.out.c0
    replace fP1 := P.out.c1
    replace fPl := P.out.lt
    replace Q := Lib.hid (Q.out.fr F3)
    replace fQ0 := Q.out.c0
    replace fQ1 := Q.out.c1
    replace fQl := Q.out.lt
    replace FW := Lib.hid (FW.out.same F3)
    clear F3
    go_wp2_with fail
    clear RA RB HT
    refine (CP.out _ FW.out).mono ?_
    rintro e w4 ⟨aM1, cM1, rfl, IM1, F4⟩
    replace P := Lib.hid (P.out.fr (F4.alloc (.cells #[.bool bX, .slice aM1 (lims nX).length cM1] 52)))
    replace fP0 := P.out.c0
    replace fP1 := P.out.c1
    replace fPl := P.out.lt
    replace Q := Lib.hid (Q.out.fr (F4.alloc (.cells #[.bool bX, .slice aM1 (lims nX).length cM1] 52)))
    replace fQ0 := Q.out.c0
    replace fQ1 := Q.out.c1
    replace fQl := Q.out.lt
    replace FW := Lib.hid (FW.out.same (F4.alloc (.cells #[.bool bX, .slice aM1 (lims nX).length cM1] 52)))
    have IM1 := Lib.hid (IM1.keep ((Fr.refl [] _).alloc (.cells #[.bool bX, .slice aM1 (lims nX).length cM1] 52)))
    have BM1 := Lib.hid (Bx.new w4 (.bool bX) (.slice aM1 (lims nX).length cM1))
    have fBM10 := BM1.out.c0
    have fBM11 := BM1.out.c1
    have fBM1l := BM1.out.lt
    clear F4
    go_wp2_with fail
    refine (EP.out _ FW.out).mono ?_
    rintro e w5 ⟨aM2, cM2, rfl, IM2, F5⟩
    replace P := Lib.hid (P.out.fr (F5.alloc (.cells #[.bool bX, .slice aM2 (lims nX).length cM2] 52)))
    replace fP0 := P.out.c0
    replace fP1 := P.out.c1
    replace fPl := P.out.lt
    replace Q := Lib.hid (Q.out.fr (F5.alloc (.cells #[.bool bX, .slice aM2 (lims nX).length cM2] 52)))
    replace fQ0 := Q.out.c0
    replace fQ1 := Q.out.c1
    replace fQl := Q.out.lt
    replace BM1 := Lib.hid (BM1.out.fr (F5.alloc (.cells #[.bool bX, .slice aM2 (lims nX).length cM2] 52)))
    replace fBM10 := BM1.out.c0
    replace fBM11 := BM1.out.c1
    replace fBM1l := BM1.out.lt
    replace IM1 := Lib.hid (IM1.out.keep (F5.alloc (.cells #[.bool bX, .slice aM2 (lims nX).length cM2] 52)))
    replace FW := Lib.hid (FW.out.same (F5.alloc (.cells #[.bool bX, .slice aM2 (lims nX).length cM2] 52)))
    have IM2 := Lib.hid (IM2.keep ((Fr.refl [] _).alloc (.cells #[.bool bX, .slice aM2 (lims nX).length cM2] 52)))
    have BM2 := Lib.hid (Bx.new w5 (.bool bX) (.slice aM2 (lims nX).length cM2))
    have fBM20 := BM2.out.c0
    have fBM21 := BM2.out.c1
    have fBM2l := BM2.out.lt
    clear F5
    go_wp2_with fail
    refine (SAME.out _ _ _ _ _ _ _ IM1.out IM2.out).mono ?_
    rintro e w8 ⟨rfl, F8⟩
    replace P := Lib.hid (P.out.fr F8)
    replace fP0 := P.out.c0
    replace fP1 := P.out.c1
    replace fPl := P.out.lt
    replace Q := Lib.hid (Q.out.fr F8)
    replace fQ0 := Q.out.c0
    replace fQ1 := Q.out.c1
    replace fQl := Q.out.lt
    replace BM1 := Lib.hid (BM1.out.fr F8)
    replace fBM10 := BM1.out.c0
    replace fBM11 := BM1.out.c1
    replace fBM1l := BM1.out.lt
    replace BM2 := Lib.hid (BM2.out.fr F8)
    replace fBM20 := BM2.out.c0
    replace fBM21 := BM2.out.c1
    replace fBM2l := BM2.out.lt
    replace IM1 := Lib.hid (IM1.out.keep F8)
    replace IM2 := Lib.hid (IM2.out.keep F8)
    replace FW := Lib.hid (FW.out.same F8)
    clear F8
    go_wp2
    go_ret
    exact ⟨rfl, FW.out.below⟩
theorem walk (z1 z2 : IA) (W : World) (h1 : InI W z1) (h2 : InI W z2) (hT : Tab W) :
    Calls Tryd.prog 18 #[.agg #[.bool z1.s, .slice z1.a z1.len z1.cap], .agg #[.bool z2.s, .slice z2.a z2.len z2.cap]] W fun e W' => e = .returned (.bool true) ∧ Below W.heap.size W W' := by
  obtain ⟨s, a, ln, cap⟩ := z1
  obtain ⟨s2, b, lm, cap2⟩ := z2
  obtain ⟨L, hL⟩ := h1
  obtain ⟨M, hM⟩ := h2
  have hL : InA W a ln cap L := hL
  have hM : InA W b lm cap2 M := hM
  cases hr : (rightP s L && rightP s2 M) with
  | false => exact walk_left s a ln cap s2 b lm cap2 L M W hL hM hT hr
  | true =>
    have hr1 : rightP s L = true := by simp at hr; exact hr.1
    have hr2 : rightP s2 M = true := by simp at hr; exact hr.2
    obtain ⟨n, e1, I1, hfn, hsn, hln⟩ := right_open hL hr1
    obtain ⟨m, e2, I2, hfm, hsm, hlm⟩ := right_open hM hr2
    subst e1
    subst e2
    exact walk_both s a n cap s2 b m cap2 W I1 I2 hfn hfm hsn hsm hln hlm hT (Lib.hid (fun W' h => by rw [← hr1]; exact r2right_any W' s _ (hL.keep h))) (Lib.hid (fun W' h => by rw [← hr2]; exact r2right_any W' s2 _ (hM.keep h)))
set_option maxRecDepth 100000 in
theorem lifted (os : Os) (started : os.Started) (H : Type) (enc : TypeId × Value → H) :
    ReturnsInHanded {} Tryd.checked os 18 .any (fun w args => (Rows.exactPowsSpec.pre enc Tryd.prog Tryd.f18 [] false w args ∧ laidMetH Tryd.prog listed w) ∧ sizedMet enc Tryd.prog Tryd.f18 (OpenSpec.ofChange Rows.exactPowsSpec) false w args) (Rows.exactPowsSpec.post enc Tryd.prog Tryd.f18 false true false false) := by
  refine returnsInHanded_of_change_and (C := Tryd.checked) (X := fun w _ => laidMetH Tryd.prog listed w) (fun _ _ _ hh h => h.of_heap hh) own started (by kernel_rfl) Tryd.func18
    (ChangeSpec.witness_shaped (enc := enc) (C := Tryd.checked) (os := os) (X := fun w _ => laidMetH Tryd.prog listed w) false (World.doorLaid Tryd.prog 24 os) #[zeroI, zeroI] 8 rfl (World.shaped_of_RefB (by kernel_rfl) (by kernel_rfl)) (by kernel_rfl) (by kernel_rfl) (by kernel_rfl) (door_met os _)) ?_
  intro W base args ds gs before hval0 hW _ _ hL _
  have hT := tab_of_laid hL
  have hval : ∀ (j : Nat) t v, Tryd.f18.params[j]? = some t → args[j]? = some v → Value.okWide Tryd.prog W .any base t v := hval0
  have hW' := hW
  obtain ⟨p, q, hA0, hV, rfl, hfz, hnd⟩ := hW
  have hA : DataW.TrodAll enc Tryd.prog W 0 (fun _ => true) true Tryd.f18.params.toList args.toList ds p := hA0
  rw [Tryd.params18] at hA hval
  obtain ⟨v0, vs0, d0, ds0, p0, q0, hargs, rfl, rfl, h0, r0⟩ := trodAll_cons hA
  obtain ⟨v1, vs1, d1, ds1, p1, q1, rfl, rfl, rfl, h1, r1⟩ := trodAll_cons r0
  obtain ⟨rfl, rfl, rfl⟩ := trodAll_nil r1
  obtain rfl : args = #[v0, v1] := by cases args; simp_all
  obtain ⟨rfl, rfl⟩ := trodVars_none hV
  have k0 := h0
  have lt0 : ∀ x ∈ p0, x.block < W.heap.size := by obtain ⟨m, hm⟩ := k0; exact DataW.trod_lt m _ _ _ hm
  obtain ⟨z0, rfl, w0⟩ := open_iv (hval 0 52 v0 rfl rfl) h0
  have k1 := h1
  have lt1 : ∀ x ∈ p1, x.block < W.heap.size := by obtain ⟨m, hm⟩ := k1; exact DataW.trod_lt m _ _ _ hm
  obtain ⟨z1, rfl, w1⟩ := open_iv (hval 1 52 v1 rfl rfl) h1
  clear hA0 hval0
  refine (walk z0 z1 W w0 w1 hT).mono fun e W' ⟨he, bel⟩ => ?_
  subst he
  exact ⟨_, rfl, _, _, _, [], _, [], hW', trodAll_mk1 (shut_bool Tryd.underlying4 _), (trodAll_cons_mk (Below.trod laidOut (by kernel_rfl) (of_decide_eq_true (by kernel_rfl)) k0 bel lt0) (trodAll_cons_mk (Below.trod laidOut (by kernel_rfl) (of_decide_eq_true (by kernel_rfl)) k1 bel lt1) trodAll_mk0)), rfl, bel.frame _, fun h => by cases h⟩
theorem over : Rows.exactPowsRow.holds Tryd.pinned (OpenSpec.ofChange Rows.exactPowsSpec) :=
  OpenClaim.holds_of_wide 18 Tryd.f18 rfl rfl rfl rfl rfl rfl rfl ⟨rfl, rfl, rfl, rfl, rfl⟩ rfl rfl rfl rfl rfl (by kernel_rfl) Tryd.func18 (by kernel_rfl)
    (of_decide_eq_true (by kernel_rfl)) (by unfold Func.isWrapper; first | (rw [if_pos (by decide +kernel)]; kernel_rfl) | (rw [if_neg (by decide +kernel)]; exact ⟨rfl, rfl⟩))
    (fun os started H enc _ => lifted os started H enc)
/-- THE STATEMENT -/
theorem proved : Rows.ExactPowsCardSaid :=
  Claim7.holds_tied_plain_at .later [] [.data, .data, .data] true (true, "ea8df5c1a0e302ec682270425c9a8cf6ae00272b589ccfc6cc1f4d10a9599452") false
    over (fun _ h => by cases h) (by kernel_rfl) (fun _ h => by cases h) exactPows_row_tie rfl ⟨rfl, rfl⟩ (by kernel_rfl) rfl
    (fun f fn hf hfn => by
      obtain rfl : f = 18 := Option.some.inj ((show Tryd.prog.funcNamed "distaff/distafflaw02.ExactPows" = some 18 by kernel_rfl).symm.trans hf) |>.symm
      obtain rfl : fn = Tryd.f18 := (Option.some.inj (Tryd.func18.symm.trans hfn)).symm
      exact ⟨by kernel_rfl, fun j t ht => by
        rw [Tryd.params18] at ht
        have hm : t ∈ [52, 52] := by simpa using Array.mem_of_getElem? ht
        have hall : ([52, 52].all fun u => !Tryd.prog.wantsStandIn u) = true := by kernel_rfl
        exact (show Tryd.prog.wantsStandIn t = false by simpa using List.all_eq_true.1 hall t hm)⟩)
    (by kernel_rfl)
#print axioms proved
end Go.Proofs.YtladhmbidicncaaDoor.exactPows
