/- exactSums. -/
import Derived.Test.YtladhmbidicncaaDoorExaO
namespace Go.Proofs.YtladhmbidicncaaDoor.exactSums
open Go.ChangeShapes Go.WideShapes Go.RowKit Go.Proofs.YtladhmbidicncaaDoor
set_option maxRecDepth 100000 in
set_option maxHeartbeats 16000000 in
theorem walk_left (s : Bool) (a : Option Addr) (ln cap : Nat) (s2 : Bool) (b : Option Addr) (lm cap2 : Nat) (L M : List Nat) (W : World) (hL : InA W a ln cap L) (hM : InA W b lm cap2 M) (hT : Tab W) (hr : (rightP s L && rightP s2 M) = false) :
    Calls Tryd.prog 17 #[.agg #[.bool s, .slice a ln cap], .agg #[.bool s2, .slice b lm cap2]] W fun e W' => e = .returned (.bool true) ∧ Below W.heap.size W W' := by
  have HT := Lib.hid hT
  clear hT
  have RA : Hid (∀ g, rightP s L = g → ∀ W', Fr [] W W' → Calls Tryd.prog 44 #[.agg #[.bool s, .slice a ln cap]] W' fun e w' => e = .returned (.bool g) ∧ Fr [] W' w') := Lib.hid (fun g e W' h => by rw [← e]; exact r2right_any W' s ln (hL.keep h))
  have RB : Hid (∀ g, rightP s2 M = g → ∀ W', Fr [] W W' → Calls Tryd.prog 44 #[.agg #[.bool s2, .slice b lm cap2]] W' fun e w' => e = .returned (.bool g) ∧ Fr [] W' w') := Lib.hid (fun g e W' h => by rw [← e]; exact r2right_any W' s2 lm (hM.keep h))
  cases hp : rightP s L with
  | false =>
    have RA := Lib.hid (RA.out _ hp)
    clear RB hp hL hM hr
    have FW : Hid (Fr [] W ((W.alloc (.cells #[.bool s, .slice a ln cap] 52)).alloc (.cells #[.bool s2, .slice b lm cap2] 52))) := Lib.hid (((Fr.refl [] W).alloc _).alloc _)
    have P := Lib.hid ((Bx.new W (.bool s) (.slice a ln cap)).fr ((Fr.refl [] _).alloc (.cells #[.bool s2, .slice b lm cap2] 52)))
    have fP0 := P.out.c0
    have fP1 := P.out.c1
    have fPl := P.out.lt
    have Q := Lib.hid ((Bx.new (W.alloc (.cells #[.bool s, .slice a ln cap] 52)) (.bool s2) (.slice b lm cap2)).eq (k' := W.heap.size + 1) (by simp))
    have fQ0 := Q.out.c0
    have fQ1 := Q.out.c1
    have fQl := Q.out.lt
    go_enter Tryd.func17, Tryd.ntmps17
    go_wp2_with fail
    refine (exactAlive_c _ (HT.out.fr FW.out)).mono ?_
    rintro e w1 ⟨rfl, F1⟩
    replace P := Lib.hid (P.out.fr F1)
    replace fP0 := P.out.c0
    replace fP1 := P.out.c1
    replace fPl := P.out.lt
    replace Q := Lib.hid (Q.out.fr F1)
    replace fQ0 := Q.out.c0
    replace fQ1 := Q.out.c1
    replace fQl := Q.out.lt
    replace FW := Lib.hid (FW.out.same F1)
    clear F1
    go_wp2_with fail
    refine (RA.out _ FW.out).mono ?_
    rintro e w2 ⟨rfl, F2⟩
    replace P := Lib.hid (P.out.fr F2)
    replace fP0 := P.out.c0
    replace fP1 := P.out.c1
    replace fPl := P.out.lt
    replace Q := Lib.hid (Q.out.fr F2)
    replace fQ0 := Q.out.c0
    replace fQ1 := Q.out.c1
    replace fQl := Q.out.lt
    replace FW := Lib.hid (FW.out.same F2)
    clear F2
    go_wp2_with fail
    go_ret
    exact ⟨rfl, FW.out.below⟩
  | true =>
    have hq : rightP s2 M = false := by rw [hp] at hr; simpa using hr
    have RA := Lib.hid (RA.out _ hp)
    have RB := Lib.hid (RB.out _ hq)
    clear hp hq hL hM hr
    have FW : Hid (Fr [] W ((W.alloc (.cells #[.bool s, .slice a ln cap] 52)).alloc (.cells #[.bool s2, .slice b lm cap2] 52))) := Lib.hid (((Fr.refl [] W).alloc _).alloc _)
    have P := Lib.hid ((Bx.new W (.bool s) (.slice a ln cap)).fr ((Fr.refl [] _).alloc (.cells #[.bool s2, .slice b lm cap2] 52)))
    have fP0 := P.out.c0
    have fP1 := P.out.c1
    have fPl := P.out.lt
    have Q := Lib.hid ((Bx.new (W.alloc (.cells #[.bool s, .slice a ln cap] 52)) (.bool s2) (.slice b lm cap2)).eq (k' := W.heap.size + 1) (by simp))
    have fQ0 := Q.out.c0
    have fQ1 := Q.out.c1
    have fQl := Q.out.lt
    go_enter Tryd.func17, Tryd.ntmps17
    go_wp2_with fail
    refine (exactAlive_c _ (HT.out.fr FW.out)).mono ?_
    rintro e w1 ⟨rfl, F1⟩
    replace P := Lib.hid (P.out.fr F1)
    replace fP0 := P.out.c0
    replace fP1 := P.out.c1
    replace fPl := P.out.lt
    replace Q := Lib.hid (Q.out.fr F1)
    replace fQ0 := Q.out.c0
    replace fQ1 := Q.out.c1
    replace fQl := Q.out.lt
    replace FW := Lib.hid (FW.out.same F1)
    clear F1
    go_wp2_with fail
    refine (RA.out _ FW.out).mono ?_
    rintro e w2 ⟨rfl, F2⟩
    replace P := Lib.hid (P.out.fr F2)
    replace fP0 := P.out.c0
    replace fP1 := P.out.c1
    replace fPl := P.out.lt
    replace Q := Lib.hid (Q.out.fr F2)
    replace fQ0 := Q.out.c0
    replace fQ1 := Q.out.c1
    replace fQl := Q.out.lt
    replace FW := Lib.hid (FW.out.same F2)
    clear F2
    go_wp2_with fail
    refine (RB.out _ FW.out).mono ?_
    rintro e w3 ⟨rfl, F3⟩
    replace P := Lib.hid (P.out.fr F3)
    replace fP0 := P.out.c0
    replace fP1 := P.out.c1
    replace fPl := P.out.lt
    replace Q := Lib.hid (Q.out.fr F3)
    replace fQ0 := Q.out.c0
    replace fQ1 := Q.out.c1
    replace fQl := Q.out.lt
    replace FW := Lib.hid (FW.out.same F3)
    clear F3
    go_wp2_with fail
    go_ret
    exact ⟨rfl, FW.out.below⟩
set_option maxRecDepth 100000 in
set_option maxHeartbeats 16000000 in
theorem walk_both (s : Bool) (a : Option Addr) (n cap : Nat) (s2 : Bool) (b : Option Addr) (m cap2 : Nat) (W : World) (I1 : In W a cap (lims n)) (I2 : In W b cap2 (lims m)) (hfn : fits n = true) (hfm : fits m = true) (hsn : s = true → n ≠ 0) (hsm : s2 = true → m ≠ 0) (hln : (lims n).length ≤ 64) (hlm : (lims m).length ≤ 64) (hT : Tab W)
    (RA : Hid (∀ W', Fr [] W W' → Calls Tryd.prog 44 #[.agg #[.bool s, .slice a (lims n).length cap]] W' fun e w' => e = .returned (.bool true) ∧ Fr [] W' w')) (RB : Hid (∀ W', Fr [] W W' → Calls Tryd.prog 44 #[.agg #[.bool s2, .slice b (lims m).length cap2]] W' fun e w' => e = .returned (.bool true) ∧ Fr [] W' w')) :
    Calls Tryd.prog 17 #[.agg #[.bool s, .slice a (lims n).length cap], .agg #[.bool s2, .slice b (lims m).length cap2]] W fun e W' => e = .returned (.bool true) ∧ Below W.heap.size W W' := by
  have HT := Lib.hid hT
  clear hT
  have CS : Hid (∀ W', Fr [] W W' → Calls Tryd.prog 55 #[.agg #[.bool s, .slice a (lims n).length cap], .agg #[.bool s2, .slice b (lims m).length cap2]] W' fun e w' => ∃ a cap, e = .returned (.tuple #[.agg #[.bool ((fits (addP s n s2 m).2) && (addP s n s2 m).1), .slice a (lims (capN (fits (addP s n s2 m).2) (addP s n s2 m).2)).length cap], .int .i64 (capE (fits (addP s n s2 m).2))]) ∧ In w' a cap (lims (capN (fits (addP s n s2 m).2) (addP s n s2 m).2)) ∧ Fr [] W' w') := Lib.hid (fun W' h => (eadd_c W' s s2 n m (I1.keep h) (I2.keep h) hfn hfm).mono (fun e w' h => capI_flat h))
  have ES : Hid (∀ W', Fr [] W W' → Calls Tryd.prog 67 #[.agg #[.bool s, .slice a (lims n).length cap], .agg #[.bool s2, .slice b (lims m).length cap2]] W' fun e w' => ∃ a cap, e = .returned (.tuple #[.agg #[.bool ((fits (addP s n s2 m).2) && (addP s n s2 m).1), .slice a (lims (capN (fits (addP s n s2 m).2) (addP s n s2 m).2)).length cap], .int .i64 (capE (fits (addP s n s2 m).2))]) ∧ In w' a cap (lims (capN (fits (addP s n s2 m).2) (addP s n s2 m).2)) ∧ Fr [] W' w') := Lib.hid (fun W' h => (r2add_c W' s s2 n m (I1.keep h) (I2.keep h) (by omega) (by omega)).mono (fun e w' h => capI_flat h))
  have CD : Hid (∀ W', Fr [] W W' → Calls Tryd.prog 65 #[.agg #[.bool s, .slice a (lims n).length cap], .agg #[.bool s2, .slice b (lims m).length cap2]] W' fun e w' => ∃ a cap, e = .returned (.tuple #[.agg #[.bool ((fits (addP s n (sg (!s2) m) m).2) && (addP s n (sg (!s2) m) m).1), .slice a (lims (capN (fits (addP s n (sg (!s2) m) m).2) (addP s n (sg (!s2) m) m).2)).length cap], .int .i64 (capE (fits (addP s n (sg (!s2) m) m).2))]) ∧ In w' a cap (lims (capN (fits (addP s n (sg (!s2) m) m).2) (addP s n (sg (!s2) m) m).2)) ∧ Fr [] W' w') := Lib.hid (fun W' h => (esub_c W' s s2 n m (I1.keep h) (I2.keep h) hfn hfm).mono (fun e w' h => capI_flat h))
  have ED : Hid (∀ W', Fr [] W W' → Calls Tryd.prog 68 #[.agg #[.bool s, .slice a (lims n).length cap], .agg #[.bool s2, .slice b (lims m).length cap2]] W' fun e w' => ∃ a cap, e = .returned (.tuple #[.agg #[.bool ((fits (addP s n (sg (!s2) m) m).2) && (addP s n (sg (!s2) m) m).1), .slice a (lims (capN (fits (addP s n (sg (!s2) m) m).2) (addP s n (sg (!s2) m) m).2)).length cap], .int .i64 (capE (fits (addP s n (sg (!s2) m) m).2))]) ∧ In w' a cap (lims (capN (fits (addP s n (sg (!s2) m) m).2) (addP s n (sg (!s2) m) m).2)) ∧ Fr [] W' w') := Lib.hid (fun W' h => (r2sub_c W' s s2 n m (I1.keep h) (I2.keep h) (by omega) (by omega)).mono (fun e w' h => capI_flat h))
  have CM : Hid (∀ W', Fr [] W W' → Calls Tryd.prog 66 #[.agg #[.bool s, .slice a (lims n).length cap], .agg #[.bool s2, .slice b (lims m).length cap2]] W' fun e w' => ∃ a cap, e = .returned (.tuple #[.agg #[.bool ((fits (n * m)) && (sg (s != s2) (n * m))), .slice a (lims (capN (fits (n * m)) (n * m))).length cap], .int .i64 (capE (fits (n * m)))]) ∧ In w' a cap (lims (capN (fits (n * m)) (n * m))) ∧ Fr [] W' w') := Lib.hid (fun W' h => (emul_c W' s s2 n m (I1.keep h) (I2.keep h) hfn hfm).mono (fun e w' h => capI_flat h))
  have EM : Hid (∀ W', Fr [] W W' → Calls Tryd.prog 69 #[.agg #[.bool s, .slice a (lims n).length cap], .agg #[.bool s2, .slice b (lims m).length cap2]] W' fun e w' => ∃ a cap, e = .returned (.tuple #[.agg #[.bool ((fits (n * m)) && (sg (s != s2) (n * m))), .slice a (lims (capN (fits (n * m)) (n * m))).length cap], .int .i64 (capE (fits (n * m)))]) ∧ In w' a cap (lims (capN (fits (n * m)) (n * m))) ∧ Fr [] W' w') := Lib.hid (fun W' h => (r2mul_c W' s s2 n m (I1.keep h) (I2.keep h) (by omega) (by omega)).mono (fun e w' h => capI_flat h))
  have CC : Hid (∀ W', Fr [] W W' → Calls Tryd.prog 52 #[.agg #[.bool s, .slice a (lims n).length cap], .agg #[.bool s2, .slice b (lims m).length cap2]] W' fun e w' => e = .returned (.int .i64 (cmpP s n s2 m)) ∧ Fr [] W' w') := Lib.hid (fun W' h => ecmp_c W' s s2 n m (I1.keep h) (I2.keep h))
  have EC : Hid (∀ W', Fr [] W W' → Calls Tryd.prog 70 #[.agg #[.bool s, .slice a (lims n).length cap], .agg #[.bool s2, .slice b (lims m).length cap2]] W' fun e w' => e = .returned (.int .i64 (cmpP s n s2 m)) ∧ Fr [] W' w') := Lib.hid (fun W' h => by
    have := r2cmp_c W' s s2 n m (I1.keep h) (I2.keep h) (by omega) (by omega)
    rwa [cmp_law hsn hsm] at this)
  have CE : Hid (∀ W', Fr [] W W' → Calls Tryd.prog 53 #[.agg #[.bool s, .slice a (lims n).length cap], .agg #[.bool s2, .slice b (lims m).length cap2]] W' fun e w' => e = .returned (.bool (decide (s = s2 ∧ n = m))) ∧ Fr [] W' w') := Lib.hid (fun W' h => esame_c W' s s2 n m (I1.keep h) (I2.keep h))
  have EE : Hid (∀ W', Fr [] W W' → Calls Tryd.prog 49 #[.agg #[.bool s, .slice a (lims n).length cap], .agg #[.bool s2, .slice b (lims m).length cap2]] W' fun e w' => e = .returned (.bool (decide (s = s2 ∧ n = m))) ∧ Fr [] W' w') := Lib.hid (fun W' h => r2same_c W' s s2 n m (I1.keep h) (I2.keep h))
  have CN : Hid (∀ W', Fr [] W W' → Calls Tryd.prog 54 #[.agg #[.bool s, .slice a (lims n).length cap]] W' (GivesI W' (sg (!s) n) n)) := Lib.hid (fun W' h => eneg_c W' s n (I1.keep h))
  have EN : Hid (∀ W', Fr [] W W' → Calls Tryd.prog 71 #[.agg #[.bool s, .slice a (lims n).length cap]] W' (GivesI W' (sg (!s) n) n)) := Lib.hid (fun W' h => r2neg_c W' s n (I1.keep h))
  have SAME : Hid (∀ W' t k x c y d, In W' x c (lims k) → In W' y d (lims k) → Calls Tryd.prog 49 #[.agg #[.bool t, .slice x (lims k).length c], .agg #[.bool t, .slice y (lims k).length d]] W' fun e w' => e = .returned (.bool true) ∧ Fr [] W' w') := Lib.hid (fun W' t k x c y d h h2 => by
    have := r2same_c W' t t k k h h2
    rwa [decide_eq_true (⟨rfl, rfl⟩ : t = t ∧ k = k)] at this)
  generalize capN (fits (addP s n s2 m).2) (addP s n s2 m).2 = nS at *
  generalize capE (fits (addP s n s2 m).2) = eS at *
  generalize ((fits (addP s n s2 m).2) && (addP s n s2 m).1) = bS at *
  generalize capN (fits (addP s n (sg (!s2) m) m).2) (addP s n (sg (!s2) m) m).2 = nD at *
  generalize capE (fits (addP s n (sg (!s2) m) m).2) = eD at *
  generalize ((fits (addP s n (sg (!s2) m) m).2) && (addP s n (sg (!s2) m) m).1) = bD at *
  generalize capN (fits (n * m)) (n * m) = nM at *
  generalize capE (fits (n * m)) = eM at *
  generalize ((fits (n * m)) && (sg (s != s2) (n * m))) = bM at *
  generalize cmpP s n s2 m = oc at *
  generalize decide (s = s2 ∧ n = m) = os at *
  generalize sg (!s) n = sn at *
  clear I1 I2 hfn hfm hsn hsm hln hlm
  have FW : Hid (Fr [] W ((W.alloc (.cells #[.bool s, .slice a (lims n).length cap] 52)).alloc (.cells #[.bool s2, .slice b (lims m).length cap2] 52))) := Lib.hid (((Fr.refl [] W).alloc _).alloc _)
  have P := Lib.hid ((Bx.new W (.bool s) (.slice a (lims n).length cap)).fr ((Fr.refl [] _).alloc (.cells #[.bool s2, .slice b (lims m).length cap2] 52)))
  have fP0 := P.out.c0
  have fP1 := P.out.c1
  have fPl := P.out.lt
  have Q := Lib.hid ((Bx.new (W.alloc (.cells #[.bool s, .slice a (lims n).length cap] 52)) (.bool s2) (.slice b (lims m).length cap2)).eq (k' := W.heap.size + 1) (by simp))
  have fQ0 := Q.out.c0
  have fQ1 := Q.out.c1
  have fQl := Q.out.lt
  go_enter Tryd.func17, Tryd.ntmps17
  go_wp2_with fail
  refine (exactAlive_c _ (HT.out.fr FW.out)).mono ?_
  rintro e w1 ⟨rfl, F1⟩
  replace P := Lib.hid (P.out.fr F1)
  replace fP0 := P.out.c0
  replace fP1 := P.out.c1
  replace fPl := P.out.lt
  replace Q := Lib.hid (Q.out.fr F1)
  replace fQ0 := Q.out.c0
  replace fQ1 := Q.out.c1
  replace fQl := Q.out.lt
  replace FW := Lib.hid (FW.out.same F1)
  clear F1
  go_wp2_with fail
  refine (RA.out _ FW.out).mono ?_
  rintro e w2 ⟨rfl, F2⟩
  replace P := Lib.hid (P.out.fr F2)
  replace fP0 := P.out.c0
  replace fP1 := P.out.c1
  replace fPl := P.out.lt
  replace Q := Lib.hid (Q.out.fr F2)
  replace fQ0 := Q.out.c0
  replace fQ1 := Q.out.c1
  replace fQl := Q.out.lt
  replace FW := Lib.hid (FW.out.same F2)
  clear F2
  go_wp2_with fail
  refine (RB.out _ FW.out).mono ?_
  rintro e w3 ⟨rfl, F3⟩
  replace P := Lib.hid (P.out.fr F3)
  replace fP0 := P.out.c0
  replace fP1 := P.out.c1
  replace fPl := P.out.lt
  replace Q := Lib.hid (Q.out.fr F3)
  replace fQ0 := Q.out.c0
  replace fQ1 := Q.out.c1
  replace fQl := Q.out.lt
  replace FW := Lib.hid (FW.out.same F3)
  clear F3
  go_wp2_with fail
  clear RA RB HT
  refine (CS.out _ FW.out).mono ?_
  rintro e w4 ⟨aS, cS, rfl, IS, F4⟩
  replace P := Lib.hid (P.out.fr (F4.alloc (.cells #[.bool bS, .slice aS (lims nS).length cS] 52)))
  replace fP0 := P.out.c0
  replace fP1 := P.out.c1
  replace fPl := P.out.lt
  replace Q := Lib.hid (Q.out.fr (F4.alloc (.cells #[.bool bS, .slice aS (lims nS).length cS] 52)))
  replace fQ0 := Q.out.c0
  replace fQ1 := Q.out.c1
  replace fQl := Q.out.lt
  replace FW := Lib.hid (FW.out.same (F4.alloc (.cells #[.bool bS, .slice aS (lims nS).length cS] 52)))
  have IS := Lib.hid (IS.keep ((Fr.refl [] _).alloc (.cells #[.bool bS, .slice aS (lims nS).length cS] 52)))
  have BS := Lib.hid (Bx.new w4 (.bool bS) (.slice aS (lims nS).length cS))
  have fBS0 := BS.out.c0
  have fBS1 := BS.out.c1
  have fBSl := BS.out.lt
  clear F4
  go_wp2_with fail
  refine (CD.out _ FW.out).mono ?_
  rintro e w5 ⟨aD, cD, rfl, ID, F5⟩
  replace P := Lib.hid (P.out.fr (F5.alloc (.cells #[.bool bD, .slice aD (lims nD).length cD] 52)))
  replace fP0 := P.out.c0
  replace fP1 := P.out.c1
  replace fPl := P.out.lt
  replace Q := Lib.hid (Q.out.fr (F5.alloc (.cells #[.bool bD, .slice aD (lims nD).length cD] 52)))
  replace fQ0 := Q.out.c0
  replace fQ1 := Q.out.c1
  replace fQl := Q.out.lt
  replace BS := Lib.hid (BS.out.fr (F5.alloc (.cells #[.bool bD, .slice aD (lims nD).length cD] 52)))
  replace fBS0 := BS.out.c0
  replace fBS1 := BS.out.c1
  replace fBSl := BS.out.lt
  replace IS := Lib.hid (IS.out.keep (F5.alloc (.cells #[.bool bD, .slice aD (lims nD).length cD] 52)))
  replace FW := Lib.hid (FW.out.same (F5.alloc (.cells #[.bool bD, .slice aD (lims nD).length cD] 52)))
  have ID := Lib.hid (ID.keep ((Fr.refl [] _).alloc (.cells #[.bool bD, .slice aD (lims nD).length cD] 52)))
  have BD := Lib.hid (Bx.new w5 (.bool bD) (.slice aD (lims nD).length cD))
  have fBD0 := BD.out.c0
  have fBD1 := BD.out.c1
  have fBDl := BD.out.lt
  clear F5
  go_wp2_with fail
  refine (CM.out _ FW.out).mono ?_
  rintro e w6 ⟨aM, cM, rfl, IM, F6⟩
  replace P := Lib.hid (P.out.fr (F6.alloc (.cells #[.bool bM, .slice aM (lims nM).length cM] 52)))
  replace fP0 := P.out.c0
  replace fP1 := P.out.c1
  replace fPl := P.out.lt
  replace Q := Lib.hid (Q.out.fr (F6.alloc (.cells #[.bool bM, .slice aM (lims nM).length cM] 52)))
  replace fQ0 := Q.out.c0
  replace fQ1 := Q.out.c1
  replace fQl := Q.out.lt
  replace BS := Lib.hid (BS.out.fr (F6.alloc (.cells #[.bool bM, .slice aM (lims nM).length cM] 52)))
  replace fBS0 := BS.out.c0
  replace fBS1 := BS.out.c1
  replace fBSl := BS.out.lt
  replace BD := Lib.hid (BD.out.fr (F6.alloc (.cells #[.bool bM, .slice aM (lims nM).length cM] 52)))
  replace fBD0 := BD.out.c0
  replace fBD1 := BD.out.c1
  replace fBDl := BD.out.lt
  replace IS := Lib.hid (IS.out.keep (F6.alloc (.cells #[.bool bM, .slice aM (lims nM).length cM] 52)))
  replace ID := Lib.hid (ID.out.keep (F6.alloc (.cells #[.bool bM, .slice aM (lims nM).length cM] 52)))
  replace FW := Lib.hid (FW.out.same (F6.alloc (.cells #[.bool bM, .slice aM (lims nM).length cM] 52)))
  have IM := Lib.hid (IM.keep ((Fr.refl [] _).alloc (.cells #[.bool bM, .slice aM (lims nM).length cM] 52)))
  have BM := Lib.hid (Bx.new w6 (.bool bM) (.slice aM (lims nM).length cM))
  have fBM0 := BM.out.c0
  have fBM1 := BM.out.c1
  have fBMl := BM.out.lt
  clear F6
  go_wp2_with fail
  refine (ES.out _ FW.out).mono ?_
  rintro e w7 ⟨aT, cT, rfl, IT, F7⟩
  replace P := Lib.hid (P.out.fr (F7.alloc (.cells #[.bool bS, .slice aT (lims nS).length cT] 52)))
  replace fP0 := P.out.c0
  replace fP1 := P.out.c1
  replace fPl := P.out.lt
  replace Q := Lib.hid (Q.out.fr (F7.alloc (.cells #[.bool bS, .slice aT (lims nS).length cT] 52)))
  replace fQ0 := Q.out.c0
  replace fQ1 := Q.out.c1
  replace fQl := Q.out.lt
  replace BS := Lib.hid (BS.out.fr (F7.alloc (.cells #[.bool bS, .slice aT (lims nS).length cT] 52)))
  replace fBS0 := BS.out.c0
  replace fBS1 := BS.out.c1
  replace fBSl := BS.out.lt
  replace BD := Lib.hid (BD.out.fr (F7.alloc (.cells #[.bool bS, .slice aT (lims nS).length cT] 52)))
  replace fBD0 := BD.out.c0
  replace fBD1 := BD.out.c1
  replace fBDl := BD.out.lt
  replace BM := Lib.hid (BM.out.fr (F7.alloc (.cells #[.bool bS, .slice aT (lims nS).length cT] 52)))
  replace fBM0 := BM.out.c0
  replace fBM1 := BM.out.c1
  replace fBMl := BM.out.lt
  replace IS := Lib.hid (IS.out.keep (F7.alloc (.cells #[.bool bS, .slice aT (lims nS).length cT] 52)))
  replace ID := Lib.hid (ID.out.keep (F7.alloc (.cells #[.bool bS, .slice aT (lims nS).length cT] 52)))
  replace IM := Lib.hid (IM.out.keep (F7.alloc (.cells #[.bool bS, .slice aT (lims nS).length cT] 52)))
  replace FW := Lib.hid (FW.out.same (F7.alloc (.cells #[.bool bS, .slice aT (lims nS).length cT] 52)))
  have IT := Lib.hid (IT.keep ((Fr.refl [] _).alloc (.cells #[.bool bS, .slice aT (lims nS).length cT] 52)))
  have BT := Lib.hid (Bx.new w7 (.bool bS) (.slice aT (lims nS).length cT))
  have fBT0 := BT.out.c0
  have fBT1 := BT.out.c1
  have fBTl := BT.out.lt
  clear F7
  go_wp2_with fail
  refine (ED.out _ FW.out).mono ?_
  rintro e w8 ⟨aU, cU, rfl, IU, F8⟩
  replace P := Lib.hid (P.out.fr (F8.alloc (.cells #[.bool bD, .slice aU (lims nD).length cU] 52)))
  replace fP0 := P.out.c0
  replace fP1 := P.out.c1
  replace fPl := P.out.lt
  replace Q := Lib.hid (Q.out.fr (F8.alloc (.cells #[.bool bD, .slice aU (lims nD).length cU] 52)))
  replace fQ0 := Q.out.c0
  replace fQ1 := Q.out.c1
  replace fQl := Q.out.lt
  replace BS := Lib.hid (BS.out.fr (F8.alloc (.cells #[.bool bD, .slice aU (lims nD).length cU] 52)))
  replace fBS0 := BS.out.c0
  replace fBS1 := BS.out.c1
  replace fBSl := BS.out.lt
  replace BD := Lib.hid (BD.out.fr (F8.alloc (.cells #[.bool bD, .slice aU (lims nD).length cU] 52)))
  replace fBD0 := BD.out.c0
  replace fBD1 := BD.out.c1
  replace fBDl := BD.out.lt
  replace BM := Lib.hid (BM.out.fr (F8.alloc (.cells #[.bool bD, .slice aU (lims nD).length cU] 52)))
  replace fBM0 := BM.out.c0
  replace fBM1 := BM.out.c1
  replace fBMl := BM.out.lt
  replace BT := Lib.hid (BT.out.fr (F8.alloc (.cells #[.bool bD, .slice aU (lims nD).length cU] 52)))
  replace fBT0 := BT.out.c0
  replace fBT1 := BT.out.c1
  replace fBTl := BT.out.lt
  replace IS := Lib.hid (IS.out.keep (F8.alloc (.cells #[.bool bD, .slice aU (lims nD).length cU] 52)))
  replace ID := Lib.hid (ID.out.keep (F8.alloc (.cells #[.bool bD, .slice aU (lims nD).length cU] 52)))
  replace IM := Lib.hid (IM.out.keep (F8.alloc (.cells #[.bool bD, .slice aU (lims nD).length cU] 52)))
  replace IT := Lib.hid (IT.out.keep (F8.alloc (.cells #[.bool bD, .slice aU (lims nD).length cU] 52)))
  replace FW := Lib.hid (FW.out.same (F8.alloc (.cells #[.bool bD, .slice aU (lims nD).length cU] 52)))
  have IU := Lib.hid (IU.keep ((Fr.refl [] _).alloc (.cells #[.bool bD, .slice aU (lims nD).length cU] 52)))
  have BU := Lib.hid (Bx.new w8 (.bool bD) (.slice aU (lims nD).length cU))
  have fBU0 := BU.out.c0
  have fBU1 := BU.out.c1
  have fBUl := BU.out.lt
  clear F8
  go_wp2_with fail
  refine (EM.out _ FW.out).mono ?_
  rintro e w9 ⟨aV, cV, rfl, IV, F9⟩
  replace P := Lib.hid (P.out.fr (F9.alloc (.cells #[.bool bM, .slice aV (lims nM).length cV] 52)))
  replace fP0 := P.out.c0
  replace fP1 := P.out.c1
  replace fPl := P.out.lt
  replace Q := Lib.hid (Q.out.fr (F9.alloc (.cells #[.bool bM, .slice aV (lims nM).length cV] 52)))
  replace fQ0 := Q.out.c0
  replace fQ1 := Q.out.c1
  replace fQl := Q.out.lt
  replace BS := Lib.hid (BS.out.fr (F9.alloc (.cells #[.bool bM, .slice aV (lims nM).length cV] 52)))
  replace fBS0 := BS.out.c0
  replace fBS1 := BS.out.c1
  replace fBSl := BS.out.lt
  replace BD := Lib.hid (BD.out.fr (F9.alloc (.cells #[.bool bM, .slice aV (lims nM).length cV] 52)))
  replace fBD0 := BD.out.c0
  replace fBD1 := BD.out.c1
  replace fBDl := BD.out.lt
  replace BM := Lib.hid (BM.out.fr (F9.alloc (.cells #[.bool bM, .slice aV (lims nM).length cV] 52)))
  replace fBM0 := BM.out.c0
  replace fBM1 := BM.out.c1
  replace fBMl := BM.out.lt
  replace BT := Lib.hid (BT.out.fr (F9.alloc (.cells #[.bool bM, .slice aV (lims nM).length cV] 52)))
  replace fBT0 := BT.out.c0
  replace fBT1 := BT.out.c1
  replace fBTl := BT.out.lt
  replace BU := Lib.hid (BU.out.fr (F9.alloc (.cells #[.bool bM, .slice aV (lims nM).length cV] 52)))
  replace fBU0 := BU.out.c0
  replace fBU1 := BU.out.c1
  replace fBUl := BU.out.lt
  replace IS := Lib.hid (IS.out.keep (F9.alloc (.cells #[.bool bM, .slice aV (lims nM).length cV] 52)))
  replace ID := Lib.hid (ID.out.keep (F9.alloc (.cells #[.bool bM, .slice aV (lims nM).length cV] 52)))
  replace IM := Lib.hid (IM.out.keep (F9.alloc (.cells #[.bool bM, .slice aV (lims nM).length cV] 52)))
  replace IT := Lib.hid (IT.out.keep (F9.alloc (.cells #[.bool bM, .slice aV (lims nM).length cV] 52)))
  replace IU := Lib.hid (IU.out.keep (F9.alloc (.cells #[.bool bM, .slice aV (lims nM).length cV] 52)))
  replace FW := Lib.hid (FW.out.same (F9.alloc (.cells #[.bool bM, .slice aV (lims nM).length cV] 52)))
  have IV := Lib.hid (IV.keep ((Fr.refl [] _).alloc (.cells #[.bool bM, .slice aV (lims nM).length cV] 52)))
  have BV := Lib.hid (Bx.new w9 (.bool bM) (.slice aV (lims nM).length cV))
  have fBV0 := BV.out.c0
  have fBV1 := BV.out.c1
  have fBVl := BV.out.lt
  clear F9
  have KEEP : Hid (∀ w_, Fr [] (w9.alloc (.cells #[.bool bM, .slice aV (lims nM).length cV] 52)) w_ → (w_.cell? ⟨W.heap.size, 0, none⟩ = some (.bool s) ∧ w_.cell? ⟨W.heap.size, 1, none⟩ = some (.slice a (lims n).length cap) ∧ w_.cell? ⟨W.heap.size + 1, 0, none⟩ = some (.bool s2) ∧ w_.cell? ⟨W.heap.size + 1, 1, none⟩ = some (.slice b (lims m).length cap2) ∧ w_.cell? ⟨w4.heap.size, 0, none⟩ = some (.bool bS) ∧ w_.cell? ⟨w4.heap.size, 1, none⟩ = some (.slice aS (lims nS).length cS) ∧ w_.cell? ⟨w5.heap.size, 0, none⟩ = some (.bool bD) ∧ w_.cell? ⟨w5.heap.size, 1, none⟩ = some (.slice aD (lims nD).length cD) ∧ w_.cell? ⟨w6.heap.size, 0, none⟩ = some (.bool bM) ∧ w_.cell? ⟨w6.heap.size, 1, none⟩ = some (.slice aM (lims nM).length cM) ∧ w_.cell? ⟨w7.heap.size, 0, none⟩ = some (.bool bS) ∧ w_.cell? ⟨w7.heap.size, 1, none⟩ = some (.slice aT (lims nS).length cT) ∧ w_.cell? ⟨w8.heap.size, 0, none⟩ = some (.bool bD) ∧ w_.cell? ⟨w8.heap.size, 1, none⟩ = some (.slice aU (lims nD).length cU) ∧ w_.cell? ⟨w9.heap.size, 0, none⟩ = some (.bool bM) ∧ w_.cell? ⟨w9.heap.size, 1, none⟩ = some (.slice aV (lims nM).length cV))) := Lib.hid (fun w_ h => ⟨(P.out.fr h).c0, (P.out.fr h).c1, (Q.out.fr h).c0, (Q.out.fr h).c1, (BS.out.fr h).c0, (BS.out.fr h).c1, (BD.out.fr h).c0, (BD.out.fr h).c1, (BM.out.fr h).c0, (BM.out.fr h).c1, (BT.out.fr h).c0, (BT.out.fr h).c1, (BU.out.fr h).c0, (BU.out.fr h).c1, (BV.out.fr h).c0, (BV.out.fr h).c1⟩)
  have FZ : Hid (∀ w_, Fr [] (w9.alloc (.cells #[.bool bM, .slice aV (lims nM).length cV] 52)) w_ → Fr [] W w_) := Lib.hid (fun w_ h => FW.out.same h)
  have SSS : Hid (∀ w_, Fr [] (w9.alloc (.cells #[.bool bM, .slice aV (lims nM).length cV] 52)) w_ → Calls Tryd.prog 49 #[.agg #[.bool bS, .slice aS (lims nS).length cS], .agg #[.bool bS, .slice aT (lims nS).length cT]] w_ fun e w' => e = .returned (.bool true) ∧ Fr [] w_ w') := Lib.hid (fun w_ h => SAME.out _ _ _ _ _ _ _ (IS.out.keep h) (IT.out.keep h))
  have SSD : Hid (∀ w_, Fr [] (w9.alloc (.cells #[.bool bM, .slice aV (lims nM).length cV] 52)) w_ → Calls Tryd.prog 49 #[.agg #[.bool bD, .slice aD (lims nD).length cD], .agg #[.bool bD, .slice aU (lims nD).length cU]] w_ fun e w' => e = .returned (.bool true) ∧ Fr [] w_ w') := Lib.hid (fun w_ h => SAME.out _ _ _ _ _ _ _ (ID.out.keep h) (IU.out.keep h))
  have SSM : Hid (∀ w_, Fr [] (w9.alloc (.cells #[.bool bM, .slice aV (lims nM).length cV] 52)) w_ → Calls Tryd.prog 49 #[.agg #[.bool bM, .slice aM (lims nM).length cM], .agg #[.bool bM, .slice aV (lims nM).length cV]] w_ fun e w' => e = .returned (.bool true) ∧ Fr [] w_ w') := Lib.hid (fun w_ h => SAME.out _ _ _ _ _ _ _ (IM.out.keep h) (IV.out.keep h))
  go_wp2_with fail
  go_region_held3 (fun w_ => w_.cell? ⟨W.heap.size, 0, none⟩ = some (.bool s) ∧ w_.cell? ⟨W.heap.size, 1, none⟩ = some (.slice a (lims n).length cap) ∧ w_.cell? ⟨W.heap.size + 1, 0, none⟩ = some (.bool s2) ∧ w_.cell? ⟨W.heap.size + 1, 1, none⟩ = some (.slice b (lims m).length cap2) ∧ w_.cell? ⟨w4.heap.size, 0, none⟩ = some (.bool bS) ∧ w_.cell? ⟨w4.heap.size, 1, none⟩ = some (.slice aS (lims nS).length cS) ∧ w_.cell? ⟨w5.heap.size, 0, none⟩ = some (.bool bD) ∧ w_.cell? ⟨w5.heap.size, 1, none⟩ = some (.slice aD (lims nD).length cD) ∧ w_.cell? ⟨w6.heap.size, 0, none⟩ = some (.bool bM) ∧ w_.cell? ⟨w6.heap.size, 1, none⟩ = some (.slice aM (lims nM).length cM) ∧ w_.cell? ⟨w7.heap.size, 0, none⟩ = some (.bool bS) ∧ w_.cell? ⟨w7.heap.size, 1, none⟩ = some (.slice aT (lims nS).length cT) ∧ w_.cell? ⟨w8.heap.size, 0, none⟩ = some (.bool bD) ∧ w_.cell? ⟨w8.heap.size, 1, none⟩ = some (.slice aU (lims nD).length cU) ∧ w_.cell? ⟨w9.heap.size, 0, none⟩ = some (.bool bM) ∧ w_.cell? ⟨w9.heap.size, 1, none⟩ = some (.slice aV (lims nM).length cV)) (with_reducible first | exact KEEP.out _ ((Fr.refl [] _).drew) | exact KEEP.out _ K10.out | exact KEEP.out _ K9.out | exact KEEP.out _ K8.out | exact KEEP.out _ K7.out | exact KEEP.out _ K6.out | exact KEEP.out _ K5.out | exact KEEP.out _ K4.out | exact KEEP.out _ K3.out | exact KEEP.out _ K2.out | exact KEEP.out _ K1.out) (first | (go_at_call_of 49 aS; refine Calls.mono (SSS.out _ ((Fr.refl [] (w9.alloc (.cells #[.bool bM, .slice aV (lims nM).length cV] 52))).drew)) ?_; rintro e u1 ⟨rfl, G1⟩; have K1 := Lib.hid (((Fr.refl [] (w9.alloc (.cells #[.bool bM, .slice aV (lims nM).length cV] 52))).drew).same G1)) | (go_at_call_of 49 aD; refine Calls.mono (SSD.out _ K1.out) ?_; rintro e u2 ⟨rfl, G2⟩; have K2 := Lib.hid (K1.out.same G2)) | (go_at_call_of 49 aM; refine Calls.mono (SSM.out _ K2.out) ?_; rintro e u3 ⟨rfl, G3⟩; have K3 := Lib.hid (K2.out.same G3)) | (go_at_call 52; refine Calls.mono (CC.out _ (FZ.out _ K3.out)) ?_; rintro e u4 ⟨rfl, G4⟩; have K4 := Lib.hid (K3.out.same G4)) | (go_at_call 70; refine Calls.mono (EC.out _ (FZ.out _ K4.out)) ?_; rintro e u5 ⟨rfl, G5⟩; have K5 := Lib.hid (K4.out.same G5)) | (go_at_call 53; refine Calls.mono (CE.out _ (FZ.out _ K5.out)) ?_; rintro e u6 ⟨rfl, G6⟩; have K6 := Lib.hid (K5.out.same G6)) | (go_at_call_of 49 a; refine Calls.mono (EE.out _ (FZ.out _ K6.out)) ?_; rintro e u7 ⟨rfl, G7⟩; have K7 := Lib.hid (K6.out.same G7)) | (go_at_call 54; refine Calls.mono (CN.out _ (FZ.out _ K7.out)) ?_; rintro e u8 ⟨aN, cN, rfl, IN, G8⟩; have K8 := Lib.hid (K7.out.same G8)) | (go_at_call 71; refine Calls.mono (EN.out _ (FZ.out _ K8.out)) ?_; rintro e u9 ⟨aO, cO, rfl, IO, G9⟩; have K9 := Lib.hid (K8.out.same G9)) | (go_at_call_of 49 aN; refine Calls.mono (SAME.out _ _ _ _ _ _ _ (IN.keep G9) IO) ?_; rintro e u10 ⟨rfl, G10⟩; have K10 := Lib.hid (K9.out.same G10)))
  all_goals
    go_wp2
    go_ret
    exact ⟨rfl, (FZ.out _ K10.out).below⟩
theorem walk (z1 z2 : IA) (W : World) (h1 : InI W z1) (h2 : InI W z2) (hT : Tab W) :
    Calls Tryd.prog 17 #[.agg #[.bool z1.s, .slice z1.a z1.len z1.cap], .agg #[.bool z2.s, .slice z2.a z2.len z2.cap]] W fun e W' => e = .returned (.bool true) ∧ Below W.heap.size W W' := by
  obtain ⟨s, a, ln, cap⟩ := z1
  obtain ⟨s2, b, lm, cap2⟩ := z2
  obtain ⟨L, hL⟩ := h1
  obtain ⟨M, hM⟩ := h2
  have hL : InA W a ln cap L := hL
  have hM : InA W b lm cap2 M := hM
  cases hr : (rightP s L && rightP s2 M) with
  | false => exact walk_left s a ln cap s2 b lm cap2 L M W hL hM hT hr
  | true =>
    have hr1 : rightP s L = true := by simp at hr; exact hr.1
    have hr2 : rightP s2 M = true := by simp at hr; exact hr.2
    obtain ⟨n, e1, I1, hfn, hsn, hln⟩ := right_open hL hr1
    obtain ⟨m, e2, I2, hfm, hsm, hlm⟩ := right_open hM hr2
    subst e1
    subst e2
    exact walk_both s a n cap s2 b m cap2 W I1 I2 hfn hfm hsn hsm hln hlm hT (Lib.hid (fun W' h => by rw [← hr1]; exact r2right_any W' s _ (hL.keep h))) (Lib.hid (fun W' h => by rw [← hr2]; exact r2right_any W' s2 _ (hM.keep h)))
set_option maxRecDepth 100000 in
theorem lifted (os : Os) (started : os.Started) (H : Type) (enc : TypeId × Value → H) :
    ReturnsInHanded {} Tryd.checked os 17 .any (fun w args => (Rows.exactSumsSpec.pre enc Tryd.prog Tryd.f17 [] false w args ∧ laidMetH Tryd.prog listed w) ∧ sizedMet enc Tryd.prog Tryd.f17 (OpenSpec.ofChange Rows.exactSumsSpec) false w args) (Rows.exactSumsSpec.post enc Tryd.prog Tryd.f17 false true false false) := by
  refine returnsInHanded_of_change_and (C := Tryd.checked) (X := fun w _ => laidMetH Tryd.prog listed w) (fun _ _ _ hh h => h.of_heap hh) own started (by kernel_rfl) Tryd.func17
    (ChangeSpec.witness_shaped (enc := enc) (C := Tryd.checked) (os := os) (X := fun w _ => laidMetH Tryd.prog listed w) false (World.doorLaid Tryd.prog 24 os) #[zeroI, zeroI] 8 rfl (World.shaped_of_RefB (by kernel_rfl) (by kernel_rfl)) (by kernel_rfl) (by kernel_rfl) (by kernel_rfl) (door_met os _)) ?_
  intro W base args ds gs before hval0 hW _ _ hL _
  have hT := tab_of_laid hL
  have hval : ∀ (j : Nat) t v, Tryd.f17.params[j]? = some t → args[j]? = some v → Value.okWide Tryd.prog W .any base t v := hval0
  have hW' := hW
  obtain ⟨p, q, hA0, hV, rfl, hfz, hnd⟩ := hW
  have hA : DataW.TrodAll enc Tryd.prog W 0 (fun _ => true) true Tryd.f17.params.toList args.toList ds p := hA0
  rw [Tryd.params17] at hA hval
  obtain ⟨v0, vs0, d0, ds0, p0, q0, hargs, rfl, rfl, h0, r0⟩ := trodAll_cons hA
  obtain ⟨v1, vs1, d1, ds1, p1, q1, rfl, rfl, rfl, h1, r1⟩ := trodAll_cons r0
  obtain ⟨rfl, rfl, rfl⟩ := trodAll_nil r1
  obtain rfl : args = #[v0, v1] := by cases args; simp_all
  obtain ⟨rfl, rfl⟩ := trodVars_none hV
  have k0 := h0
  have lt0 : ∀ x ∈ p0, x.block < W.heap.size := by obtain ⟨m, hm⟩ := k0; exact DataW.trod_lt m _ _ _ hm
  obtain ⟨z0, rfl, w0⟩ := open_iv (hval 0 52 v0 rfl rfl) h0
  have k1 := h1
  have lt1 : ∀ x ∈ p1, x.block < W.heap.size := by obtain ⟨m, hm⟩ := k1; exact DataW.trod_lt m _ _ _ hm
  obtain ⟨z1, rfl, w1⟩ := open_iv (hval 1 52 v1 rfl rfl) h1
  clear hA0 hval0
  refine (walk z0 z1 W w0 w1 hT).mono fun e W' ⟨he, bel⟩ => ?_
  subst he
  exact ⟨_, rfl, _, _, _, [], _, [], hW', trodAll_mk1 (shut_bool Tryd.underlying4 _), (trodAll_cons_mk (Below.trod laidOut (by kernel_rfl) (of_decide_eq_true (by kernel_rfl)) k0 bel lt0) (trodAll_cons_mk (Below.trod laidOut (by kernel_rfl) (of_decide_eq_true (by kernel_rfl)) k1 bel lt1) trodAll_mk0)), rfl, bel.frame _, fun h => by cases h⟩
theorem over : Rows.exactSumsRow.holds Tryd.pinned (OpenSpec.ofChange Rows.exactSumsSpec) :=
  OpenClaim.holds_of_wide 17 Tryd.f17 rfl rfl rfl rfl rfl rfl rfl ⟨rfl, rfl, rfl, rfl, rfl⟩ rfl rfl rfl rfl rfl (by kernel_rfl) Tryd.func17 (by kernel_rfl)
    (of_decide_eq_true (by kernel_rfl)) (by unfold Func.isWrapper; first | (rw [if_pos (by decide +kernel)]; kernel_rfl) | (rw [if_neg (by decide +kernel)]; exact ⟨rfl, rfl⟩))
    (fun os started H enc _ => lifted os started H enc)
/-- THE STATEMENT -/
theorem proved : Rows.ExactSumsCardSaid :=
  Claim7.holds_tied_plain_at .later [] [.data, .data, .data] true (true, "ea8df5c1a0e302ec682270425c9a8cf6ae00272b589ccfc6cc1f4d10a9599452") false
    over (fun _ h => by cases h) (by kernel_rfl) (fun _ h => by cases h) exactSums_row_tie rfl ⟨rfl, rfl⟩ (by kernel_rfl) rfl
    (fun f fn hf hfn => by
      obtain rfl : f = 17 := Option.some.inj ((show Tryd.prog.funcNamed "distaff/distafflaw02.ExactSums" = some 17 by kernel_rfl).symm.trans hf) |>.symm
      obtain rfl : fn = Tryd.f17 := (Option.some.inj (Tryd.func17.symm.trans hfn)).symm
      exact ⟨by kernel_rfl, fun j t ht => by
        rw [Tryd.params17] at ht
        have hm : t ∈ [52, 52] := by simpa using Array.mem_of_getElem? ht
        have hall : ([52, 52].all fun u => !Tryd.prog.wantsStandIn u) = true := by kernel_rfl
        exact (show Tryd.prog.wantsStandIn t = false by simpa using List.all_eq_true.1 hall t hm)⟩)
    (by kernel_rfl)
#print axioms proved
end Go.Proofs.YtladhmbidicncaaDoor.exactSums
