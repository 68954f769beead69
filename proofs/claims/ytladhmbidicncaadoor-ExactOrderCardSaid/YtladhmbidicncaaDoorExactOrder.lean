/- exactOrder. -/
import Derived.Test.YtladhmbidicncaaDoorExaO
namespace Go.Proofs.YtladhmbidicncaaDoor.exactOrder
open Go.ChangeShapes Go.WideShapes Go.RowKit Go.Proofs.YtladhmbidicncaaDoor
/-- A number with a sign, as a number. -/
def zI (s : Bool) (n : Nat) : Int := match s with | true => -(n : Int) | false => (n : Int)
def cmpZ (x y : Int) : Int := if x < y then -1 else if y < x then 1 else 0
theorem cmpN_z (n m : Nat) : cmpN n m = cmpZ n m := by
  unfold cmpN cmpZ
  have e1 : ((n : Int) < (m : Int)) = (n < m) := propext (by omega)
  have e2 : ((m : Int) < (n : Int)) = (m < n) := propext (by omega)
  simp only [e1, e2]
theorem cmpZ_neg (x y : Int) : cmpZ (-x) (-y) = cmpZ y x := by
  unfold cmpZ
  by_cases h : y < x
  · rw [if_pos (by omega), if_pos h]
  · rw [if_neg (by omega), if_neg h]
    by_cases h2 : x < y
    · rw [if_pos (by omega), if_pos h2]
    · rw [if_neg (by omega), if_neg h2]
theorem cmpP_z {s s2 : Bool} {n m : Nat} (h : s = true → n ≠ 0) (h2 : s2 = true → m ≠ 0) : cmpP s n s2 m = cmpZ (zI s n) (zI s2 m) := by
  cases s <;> cases s2
  · exact cmpN_z n m
  · have := h2 rfl
    show (1 : Int) = cmpZ n (-(m : Int))
    unfold cmpZ; rw [if_neg (by omega), if_pos (by omega)]
  · have := h rfl
    show (-1 : Int) = cmpZ (-(n : Int)) m
    unfold cmpZ; rw [if_pos (by omega)]
  · show cmpN m n = cmpZ (-(n : Int)) (-(m : Int))
    rw [cmpN_z, cmpZ_neg]
theorem sg_ne {s : Bool} {n : Nat} (h : sg s n = true) : n ≠ 0 := by unfold sg at h; simp at h; exact h.2
theorem zI_sg (s : Bool) (n : Nat) : zI (sg s n) n = zI s n := by
  by_cases h : n = 0
  · rw [h, sg_zero]; cases s <;> rfl
  · rw [sg_pos s h]
theorem zI_not (s : Bool) (n : Nat) : zI (!s) n = - zI s n := by cases s <;> simp [zI]
theorem zI_add (s s2 : Bool) (n m : Nat) : zI (addP s n s2 m).1 (addP s n s2 m).2 = zI s n + zI s2 m := by
  by_cases hs : s = s2
  · subst hs
    rw [addP_same]
    show zI (sg s (n + m)) (n + m) = _
    rw [zI_sg]
    cases s <;> simp [zI] <;> omega
  · have e : s2 = !s := by cases s <;> cases s2 <;> simp at hs ⊢
    by_cases h : m ≤ n
    · rw [addP_ge hs h]
      show zI (sg s (n - m)) (n - m) = _
      rw [zI_sg, e]
      cases s <;> simp [zI] <;> omega
    · rw [addP_lt hs h]
      show zI (sg s2 (m - n)) (m - n) = _
      rw [zI_sg, e]
      cases s <;> simp [zI] <;> omega
theorem addP_ne (s s2 : Bool) (n m : Nat) : (addP s n s2 m).1 = true → (addP s n s2 m).2 ≠ 0 := by
  unfold addP
  split
  · exact sg_ne
  · split <;> exact sg_ne
theorem cmpZ_swap (x y : Int) : cmpZ y x = - cmpZ x y := by
  unfold cmpZ
  by_cases h : y < x
  · rw [if_pos h, if_neg (by omega), if_pos h]
  · rw [if_neg h]
    by_cases h2 : x < y
    · rw [if_pos h2, if_pos h2]; rfl
    · rw [if_neg h2, if_neg h2, if_neg h]; rfl
theorem cmpZ_three (x y : Int) : cmpZ x y = -1 ∨ cmpZ x y = 0 ∨ cmpZ x y = 1 := by
  unfold cmpZ
  split
  · simp
  · split <;> simp
theorem cmpZ_lt {x y : Int} : cmpZ x y < 0 ↔ x < y := by
  unfold cmpZ
  by_cases h : x < y
  · rw [if_pos h]; simp [h]
  · rw [if_neg h]
    split <;> simp [h]
theorem cmpZ_eq {x y : Int} : cmpZ x y = 0 ↔ x = y := by
  unfold cmpZ
  by_cases h : x < y
  · rw [if_pos h]; simp; omega
  · rw [if_neg h]
    by_cases h2 : y < x
    · rw [if_pos h2]; simp; omega
    · rw [if_neg h2]; simp; omega
theorem cmpZ_add (x y z : Int) : cmpZ (x + z) (y + z) = cmpZ x y := by
  unfold cmpZ
  by_cases h : x < y
  · rw [if_pos (by omega), if_pos h]
  · rw [if_neg (by omega), if_neg h]
    by_cases h2 : y < x
    · rw [if_pos (by omega), if_pos h2]
    · rw [if_neg (by omega), if_neg h2]
theorem zI_inj {s s2 : Bool} {n m : Nat} (h : s = true → n ≠ 0) (h2 : s2 = true → m ≠ 0) : zI s n = zI s2 m ↔ (s = s2 ∧ n = m) := by
  cases s <;> cases s2 <;> simp [zI] at h h2 ⊢ <;> omega
set_option maxRecDepth 100000 in
set_option maxHeartbeats 16000000 in
theorem walk_left (s : Bool) (a : Option Addr) (ln cap : Nat) (s2 : Bool) (b : Option Addr) (lm cap2 : Nat) (s3 : Bool) (d : Option Addr) (lk cap3 : Nat) (L M N : List Nat) (W : World) (hL : InA W a ln cap L) (hM : InA W b lm cap2 M) (hN : InA W d lk cap3 N) (hT : Tab W) (hr : (rightP s L && rightP s2 M && rightP s3 N) = false) :
    Calls Tryd.prog 14 #[.agg #[.bool s, .slice a ln cap], .agg #[.bool s2, .slice b lm cap2], .agg #[.bool s3, .slice d lk cap3]] W fun e W' => e = .returned (.bool true) ∧ Below W.heap.size W W' := by
  have HT := Lib.hid hT
  clear hT
  have RA : Hid (∀ g, rightP s L = g → ∀ W', Fr [] W W' → Calls Tryd.prog 44 #[.agg #[.bool s, .slice a ln cap]] W' fun e w' => e = .returned (.bool g) ∧ Fr [] W' w') := Lib.hid (fun g e W' h => by rw [← e]; exact r2right_any W' s ln (hL.keep h))
  have RB : Hid (∀ g, rightP s2 M = g → ∀ W', Fr [] W W' → Calls Tryd.prog 44 #[.agg #[.bool s2, .slice b lm cap2]] W' fun e w' => e = .returned (.bool g) ∧ Fr [] W' w') := Lib.hid (fun g e W' h => by rw [← e]; exact r2right_any W' s2 lm (hM.keep h))
  have RC : Hid (∀ g, rightP s3 N = g → ∀ W', Fr [] W W' → Calls Tryd.prog 44 #[.agg #[.bool s3, .slice d lk cap3]] W' fun e w' => e = .returned (.bool g) ∧ Fr [] W' w') := Lib.hid (fun g e W' h => by rw [← e]; exact r2right_any W' s3 lk (hN.keep h))
  cases hp : rightP s L with
  | false =>
    have RA := Lib.hid (RA.out _ hp)
    clear RB RC hp hL hM hN hr
    have FW : Hid (Fr [] W (((W.alloc (.cells #[.bool s, .slice a ln cap] 52)).alloc (.cells #[.bool s2, .slice b lm cap2] 52)).alloc (.cells #[.bool s3, .slice d lk cap3] 52))) := Lib.hid ((((Fr.refl [] W).alloc _).alloc _).alloc _)
    have P := Lib.hid ((Bx.new W (.bool s) (.slice a ln cap)).fr (((Fr.refl [] _).alloc (.cells #[.bool s2, .slice b lm cap2] 52)).alloc (.cells #[.bool s3, .slice d lk cap3] 52)))
    have fP0 := P.out.c0
    have fP1 := P.out.c1
    have fPl := P.out.lt
    have Q := Lib.hid (((Bx.new (W.alloc (.cells #[.bool s, .slice a ln cap] 52)) (.bool s2) (.slice b lm cap2)).eq (k' := W.heap.size + 1) (by simp)).fr ((Fr.refl [] _).alloc (.cells #[.bool s3, .slice d lk cap3] 52)))
    have fQ0 := Q.out.c0
    have fQ1 := Q.out.c1
    have fQl := Q.out.lt
    have R := Lib.hid ((Bx.new ((W.alloc (.cells #[.bool s, .slice a ln cap] 52)).alloc (.cells #[.bool s2, .slice b lm cap2] 52)) (.bool s3) (.slice d lk cap3)).eq (k' := W.heap.size + 2) (by simp))
    have fR0 := R.out.c0
    have fR1 := R.out.c1
    have fRl := R.out.lt
    go_enter Tryd.func14, Tryd.ntmps14
    go_wp2_with fail
    refine (exactAlive_c _ (HT.out.fr FW.out)).mono ?_
    rintro e w1 ⟨rfl, F1⟩
    replace P := Lib.hid (P.out.fr F1)
    replace fP0 := P.out.c0
    replace fP1 := P.out.c1
    replace fPl := P.out.lt
    replace Q := Lib.hid (Q.out.fr F1)
    replace fQ0 := Q.out.c0
    replace fQ1 := Q.out.c1
    replace fQl := Q.out.lt
    replace R := Lib.hid (R.out.fr F1)
    replace fR0 := R.out.c0
    replace fR1 := R.out.c1
    replace fRl := R.out.lt
    replace FW := Lib.hid (FW.out.same F1)
    clear F1
    go_wp2_with fail
    refine (RA.out _ FW.out).mono ?_
    rintro e w2 ⟨rfl, F2⟩
    replace P := Lib.hid (P.out.fr F2)
    replace fP0 := P.out.c0
    replace fP1 := P.out.c1
    replace fPl := P.out.lt
    replace Q := Lib.hid (Q.out.fr F2)
    replace fQ0 := Q.out.c0
    replace fQ1 := Q.out.c1
    replace fQl := Q.out.lt
    replace R := Lib.hid (R.out.fr F2)
    replace fR0 := R.out.c0
    replace fR1 := R.out.c1
    replace fRl := R.out.lt
    replace FW := Lib.hid (FW.out.same F2)
    clear F2
    go_wp2_with fail
    go_ret
    exact ⟨rfl, FW.out.below⟩
  | true =>
    have RA := Lib.hid (RA.out _ hp)
    cases hq : rightP s2 M with
    | false =>
      have RB := Lib.hid (RB.out _ hq)
      clear RC hp hq hL hM hN hr
      have FW : Hid (Fr [] W (((W.alloc (.cells #[.bool s, .slice a ln cap] 52)).alloc (.cells #[.bool s2, .slice b lm cap2] 52)).alloc (.cells #[.bool s3, .slice d lk cap3] 52))) := Lib.hid ((((Fr.refl [] W).alloc _).alloc _).alloc _)
      have P := Lib.hid ((Bx.new W (.bool s) (.slice a ln cap)).fr (((Fr.refl [] _).alloc (.cells #[.bool s2, .slice b lm cap2] 52)).alloc (.cells #[.bool s3, .slice d lk cap3] 52)))
      have fP0 := P.out.c0
      have fP1 := P.out.c1
      have fPl := P.out.lt
      have Q := Lib.hid (((Bx.new (W.alloc (.cells #[.bool s, .slice a ln cap] 52)) (.bool s2) (.slice b lm cap2)).eq (k' := W.heap.size + 1) (by simp)).fr ((Fr.refl [] _).alloc (.cells #[.bool s3, .slice d lk cap3] 52)))
      have fQ0 := Q.out.c0
      have fQ1 := Q.out.c1
      have fQl := Q.out.lt
      have R := Lib.hid ((Bx.new ((W.alloc (.cells #[.bool s, .slice a ln cap] 52)).alloc (.cells #[.bool s2, .slice b lm cap2] 52)) (.bool s3) (.slice d lk cap3)).eq (k' := W.heap.size + 2) (by simp))
      have fR0 := R.out.c0
      have fR1 := R.out.c1
      have fRl := R.out.lt
      go_enter Tryd.func14, Tryd.ntmps14
      go_wp2_with fail
      refine (exactAlive_c _ (HT.out.fr FW.out)).mono ?_
      rintro e w1 ⟨rfl, F1⟩
      replace P := Lib.hid (P.out.fr F1)
      replace fP0 := P.out.c0
      replace fP1 := P.out.c1
      replace fPl := P.out.lt
      replace Q := Lib.hid (Q.out.fr F1)
      replace fQ0 := Q.out.c0
      replace fQ1 := Q.out.c1
      replace fQl := Q.out.lt
      replace R := Lib.hid (R.out.fr F1)
      replace fR0 := R.out.c0
      replace fR1 := R.out.c1
      replace fRl := R.out.lt
      replace FW := Lib.hid (FW.out.same F1)
      clear F1
      go_wp2_with fail
      refine (RA.out _ FW.out).mono ?_
      rintro e w2 ⟨rfl, F2⟩
      replace P := Lib.hid (P.out.fr F2)
      replace fP0 := P.out.c0
      replace fP1 := P.out.c1
      replace fPl := P.out.lt
      replace Q := Lib.hid (Q.out.fr F2)
      replace fQ0 := Q.out.c0
      replace fQ1 := Q.out.c1
      replace fQl := Q.out.lt
      replace R := Lib.hid (R.out.fr F2)
      replace fR0 := R.out.c0
      replace fR1 := R.out.c1
      replace fRl := R.out.lt
      replace FW := Lib.hid (FW.out.same F2)
      clear F2
      go_wp2_with fail
      refine (RB.out _ FW.out).mono ?_
      rintro e w3 ⟨rfl, F3⟩
      replace P := Lib.hid (P.out.fr F3)
      replace fP0 := P.out.c0
      replace fP1 := P.out.c1
      replace fPl := P.out.lt
      replace Q := Lib.hid (Q.out.fr F3)
      replace fQ0 := Q.out.c0
      replace fQ1 := Q.out.c1
      replace fQl := Q.out.lt
      replace R := Lib.hid (R.out.fr F3)
      replace fR0 := R.out.c0
      replace fR1 := R.out.c1
      replace fRl := R.out.lt
      replace FW := Lib.hid (FW.out.same F3)
      clear F3
      go_wp2_with fail
      go_ret
      exact ⟨rfl, FW.out.below⟩
    | true =>
      have RB := Lib.hid (RB.out _ hq)
      have RC := Lib.hid (RC.out false (by rw [hp, hq] at hr; simpa using hr))
      clear hp hq hL hM hN hr
      have FW : Hid (Fr [] W (((W.alloc (.cells #[.bool s, .slice a ln cap] 52)).alloc (.cells #[.bool s2, .slice b lm cap2] 52)).alloc (.cells #[.bool s3, .slice d lk cap3] 52))) := Lib.hid ((((Fr.refl [] W).alloc _).alloc _).alloc _)
      have P := Lib.hid ((Bx.new W (.bool s) (.slice a ln cap)).fr (((Fr.refl [] _).alloc (.cells #[.bool s2, .slice b lm cap2] 52)).alloc (.cells #[.bool s3, .slice d lk cap3] 52)))
      have fP0 := P.out.c0
      have fP1 := P.out.c1
      have fPl := P.out.lt
      have Q := Lib.hid (((Bx.new (W.alloc (.cells #[.bool s, .slice a ln cap] 52)) (.bool s2) (.slice b lm cap2)).eq (k' := W.heap.size + 1) (by simp)).fr ((Fr.refl [] _).alloc (.cells #[.bool s3, .slice d lk cap3] 52)))
      have fQ0 := Q.out.c0
      have fQ1 := Q.out.c1
      have fQl := Q.out.lt
      have R := Lib.hid ((Bx.new ((W.alloc (.cells #[.bool s, .slice a ln cap] 52)).alloc (.cells #[.bool s2, .slice b lm cap2] 52)) (.bool s3) (.slice d lk cap3)).eq (k' := W.heap.size + 2) (by simp))
      have fR0 := R.out.c0
      have fR1 := R.out.c1
      have fRl := R.out.lt
      go_enter Tryd.func14, Tryd.ntmps14
      go_wp2_with fail
      refine (exactAlive_c _ (HT.out.fr FW.out)).mono ?_
      rintro e w1 ⟨rfl, F1⟩
      replace P := Lib.hid (P.out.fr F1)
      replace fP0 := P.out.c0
      replace fP1 := P.out.c1
      replace fPl := P.out.lt
      replace Q := Lib.hid (Q.out.fr F1)
      replace fQ0 := Q.out.c0
      replace fQ1 := Q.out.c1
      replace fQl := Q.out.lt
      replace R := Lib.hid (R.out.fr F1)
      replace fR0 := R.out.c0
      replace fR1 := R.out.c1
      replace fRl := R.out.lt
      replace FW := Lib.hid (FW.out.same F1)
      clear F1
      go_wp2_with fail
      refine (RA.out _ FW.out).mono ?_
      rintro e w2 ⟨rfl, F2⟩
      replace P := Lib.hid (P.out.fr F2)
      replace fP0 := P.out.c0
      replace fP1 := P.out.c1
      replace fPl := P.out.lt
      replace Q := Lib.hid (Q.out.fr F2)
      replace fQ0 := Q.out.c0
      replace fQ1 := Q.out.c1
      replace fQl := Q.out.lt
      replace R := Lib.hid (R.out.fr F2)
      replace fR0 := R.out.c0
      replace fR1 := R.out.c1
      replace fRl := R.out.lt
      replace FW := Lib.hid (FW.out.same F2)
      clear F2
      go_wp2_with fail
      refine (RB.out _ FW.out).mono ?_
      rintro e w3 ⟨rfl, F3⟩
      replace P := Lib.hid (P.out.fr F3)
      replace fP0 := P.out.c0
      replace fP1 := P.out.c1
      replace fPl := P.out.lt
      replace Q := Lib.hid (Q.out.fr F3)
      replace fQ0 := Q.out.c0
      replace fQ1 := Q.out.c1
      replace fQl := Q.out.lt
      replace R := Lib.hid (R.out.fr F3)
      replace fR0 := R.out.c0
      replace fR1 := R.out.c1
      replace fRl := R.out.lt
      replace FW := Lib.hid (FW.out.same F3)
      clear F3
      go_wp2_with fail
      refine (RC.out _ FW.out).mono ?_
      rintro e w4 ⟨rfl, F4⟩
      replace P := Lib.hid (P.out.fr F4)
      replace fP0 := P.out.c0
      replace fP1 := P.out.c1
      replace fPl := P.out.lt
      replace Q := Lib.hid (Q.out.fr F4)
      replace fQ0 := Q.out.c0
      replace fQ1 := Q.out.c1
      replace fQl := Q.out.lt
      replace R := Lib.hid (R.out.fr F4)
      replace fR0 := R.out.c0
      replace fR1 := R.out.c1
      replace fRl := R.out.lt
      replace FW := Lib.hid (FW.out.same F4)
      clear F4
      go_wp2_with fail
      go_ret
      exact ⟨rfl, FW.out.below⟩
set_option maxRecDepth 100000 in
set_option maxHeartbeats 16000000 in
theorem walk_all (s : Bool) (a : Option Addr) (n cap : Nat) (s2 : Bool) (b : Option Addr) (m cap2 : Nat) (s3 : Bool) (d : Option Addr) (k cap3 : Nat) (W : World) (I1 : In W a cap (lims n)) (I2 : In W b cap2 (lims m)) (I3 : In W d cap3 (lims k)) (hfn : fits n = true) (hfm : fits m = true) (hfk : fits k = true) (hsn : s = true → n ≠ 0) (hsm : s2 = true → m ≠ 0) (hsk : s3 = true → k ≠ 0) (hT : Tab W) (RA : Hid (∀ W', Fr [] W W' → Calls Tryd.prog 44 #[.agg #[.bool s, .slice a (lims n).length cap]] W' fun e w' => e = .returned (.bool true) ∧ Fr [] W' w')) (RB : Hid (∀ W', Fr [] W W' → Calls Tryd.prog 44 #[.agg #[.bool s2, .slice b (lims m).length cap2]] W' fun e w' => e = .returned (.bool true) ∧ Fr [] W' w')) (RC : Hid (∀ W', Fr [] W W' → Calls Tryd.prog 44 #[.agg #[.bool s3, .slice d (lims k).length cap3]] W' fun e w' => e = .returned (.bool true) ∧ Fr [] W' w')) :
    Calls Tryd.prog 14 #[.agg #[.bool s, .slice a (lims n).length cap], .agg #[.bool s2, .slice b (lims m).length cap2], .agg #[.bool s3, .slice d (lims k).length cap3]] W fun e W' => e = .returned (.bool true) ∧ Below W.heap.size W W' := by
  have HT := Lib.hid hT
  clear hT
  have CO : Hid (∀ W', Fr [] W W' → Calls Tryd.prog 52 #[.agg #[.bool s, .slice a (lims n).length cap], .agg #[.bool s2, .slice b (lims m).length cap2]] W' fun e w' => e = .returned (.int .i64 (cmpZ (zI s n) (zI s2 m))) ∧ Fr [] W' w') := Lib.hid (fun W' h => by
    have := ecmp_c W' s s2 n m (I1.keep h) (I2.keep h)
    rwa [cmpP_z hsn hsm] at this)
  have CP : Hid (∀ W', Fr [] W W' → Calls Tryd.prog 52 #[.agg #[.bool s2, .slice b (lims m).length cap2], .agg #[.bool s, .slice a (lims n).length cap]] W' fun e w' => e = .returned (.int .i64 (cmpZ (zI s2 m) (zI s n))) ∧ Fr [] W' w') := Lib.hid (fun W' h => by
    have := ecmp_c W' s2 s m n (I2.keep h) (I1.keep h)
    rwa [cmpP_z hsm hsn] at this)
  have CQ : Hid (∀ W', Fr [] W W' → Calls Tryd.prog 52 #[.agg #[.bool s2, .slice b (lims m).length cap2], .agg #[.bool s3, .slice d (lims k).length cap3]] W' fun e w' => e = .returned (.int .i64 (cmpZ (zI s2 m) (zI s3 k))) ∧ Fr [] W' w') := Lib.hid (fun W' h => by
    have := ecmp_c W' s2 s3 m k (I2.keep h) (I3.keep h)
    rwa [cmpP_z hsm hsk] at this)
  have CR : Hid (∀ W', Fr [] W W' → Calls Tryd.prog 52 #[.agg #[.bool s, .slice a (lims n).length cap], .agg #[.bool s3, .slice d (lims k).length cap3]] W' fun e w' => e = .returned (.int .i64 (cmpZ (zI s n) (zI s3 k))) ∧ Fr [] W' w') := Lib.hid (fun W' h => by
    have := ecmp_c W' s s3 n k (I1.keep h) (I3.keep h)
    rwa [cmpP_z hsn hsk] at this)
  have CS : Hid (∀ W', Fr [] W W' → Calls Tryd.prog 53 #[.agg #[.bool s, .slice a (lims n).length cap], .agg #[.bool s2, .slice b (lims m).length cap2]] W' fun e w' => e = .returned (.bool (cmpZ (zI s n) (zI s2 m) == 0)) ∧ Fr [] W' w') := Lib.hid (fun W' h => by
    have := esame_c W' s s2 n m (I1.keep h) (I2.keep h)
    have e : decide (s = s2 ∧ n = m) = (cmpZ (zI s n) (zI s2 m) == 0) := by rw [Bool.eq_iff_iff, decide_eq_true_eq, beq_iff_eq, cmpZ_eq, zI_inj hsn hsm]
    rwa [e] at this)
  have CN : Hid (∀ W', Fr [] W W' → Calls Tryd.prog 54 #[.agg #[.bool s2, .slice b (lims m).length cap2]] W' (GivesI W' (sg (!s2) m) m)) := Lib.hid (fun W' h => eneg_c W' s2 m (I2.keep h))
  have CM : Hid (∀ W', Fr [] W W' → Calls Tryd.prog 54 #[.agg #[.bool s, .slice a (lims n).length cap]] W' (GivesI W' (sg (!s) n) n)) := Lib.hid (fun W' h => eneg_c W' s n (I1.keep h))
  have CT : Hid (∀ W' x c y c', In W' x c (lims m) → In W' y c' (lims n) → Calls Tryd.prog 52 #[.agg #[.bool (sg (!s2) m), .slice x (lims m).length c], .agg #[.bool (sg (!s) n), .slice y (lims n).length c']] W' fun e w' => e = .returned (.int .i64 (cmpZ (zI s n) (zI s2 m))) ∧ Fr [] W' w') := Lib.hid (fun W' x c y c' h h2 => by
    have := ecmp_c W' (sg (!s2) m) (sg (!s) n) m n h h2
    rwa [cmpP_z sg_ne sg_ne, zI_sg, zI_sg, zI_not, zI_not, cmpZ_neg] at this)
  have CX : Hid (∀ W', Fr [] W W' → Calls Tryd.prog 55 #[.agg #[.bool s, .slice a (lims n).length cap], .agg #[.bool s3, .slice d (lims k).length cap3]] W' fun e w' => ∃ a cap, e = .returned (.tuple #[.agg #[.bool ((fits (addP s n s3 k).2) && (addP s n s3 k).1), .slice a (lims (capN (fits (addP s n s3 k).2) (addP s n s3 k).2)).length cap], .int .i64 (capE (fits (addP s n s3 k).2))]) ∧ In w' a cap (lims (capN (fits (addP s n s3 k).2) (addP s n s3 k).2)) ∧ Fr [] W' w') := Lib.hid (fun W' h => (eadd_c W' s s3 n k (I1.keep h) (I3.keep h) hfn hfk).mono (fun e w' h => capI_flat h))
  have CY : Hid (∀ W', Fr [] W W' → Calls Tryd.prog 55 #[.agg #[.bool s2, .slice b (lims m).length cap2], .agg #[.bool s3, .slice d (lims k).length cap3]] W' fun e w' => ∃ a cap, e = .returned (.tuple #[.agg #[.bool ((fits (addP s2 m s3 k).2) && (addP s2 m s3 k).1), .slice a (lims (capN (fits (addP s2 m s3 k).2) (addP s2 m s3 k).2)).length cap], .int .i64 (capE (fits (addP s2 m s3 k).2))]) ∧ In w' a cap (lims (capN (fits (addP s2 m s3 k).2) (addP s2 m s3 k).2)) ∧ Fr [] W' w') := Lib.hid (fun W' h => (eadd_c W' s2 s3 m k (I2.keep h) (I3.keep h) hfm hfk).mono (fun e w' h => capI_flat h))
  have CZ : Hid (∀ W' x c y c', In W' x c (lims (capN (fits (addP s n s3 k).2) (addP s n s3 k).2)) → In W' y c' (lims (capN (fits (addP s2 m s3 k).2) (addP s2 m s3 k).2)) → capE (fits (addP s n s3 k).2) = 0 → capE (fits (addP s2 m s3 k).2) = 0 → Calls Tryd.prog 52 #[.agg #[.bool (fits (addP s n s3 k).2 && (addP s n s3 k).1), .slice x (lims (capN (fits (addP s n s3 k).2) (addP s n s3 k).2)).length c], .agg #[.bool (fits (addP s2 m s3 k).2 && (addP s2 m s3 k).1), .slice y (lims (capN (fits (addP s2 m s3 k).2) (addP s2 m s3 k).2)).length c']] W' fun e w' => e = .returned (.int .i64 (cmpZ (zI s n) (zI s2 m))) ∧ Fr [] W' w') := Lib.hid (fun W' x c y c' h h2 e1 e2 => by
    have g1 : fits (addP s n s3 k).2 = true := by cases h : fits (addP s n s3 k).2 with | true => rfl | false => rw [h] at e1; exact absurd e1 (by decide)
    have g2 : fits (addP s2 m s3 k).2 = true := by cases h : fits (addP s2 m s3 k).2 with | true => rfl | false => rw [h] at e2; exact absurd e2 (by decide)
    rw [g1] at h ⊢
    rw [g2] at h2 ⊢
    have := ecmp_c W' (addP s n s3 k).1 (addP s2 m s3 k).1 (addP s n s3 k).2 (addP s2 m s3 k).2 h h2
    rwa [cmpP_z (addP_ne _ _ _ _) (addP_ne _ _ _ _), zI_add, zI_add, cmpZ_add] at this)
  have hneg : IntKind.i64.wrap (-(cmpZ (zI s2 m) (zI s n))) = cmpZ (zI s n) (zI s2 m) := by
    rw [cmpZ_swap (zI s n) (zI s2 m)]
    rcases cmpZ_three (zI s n) (zI s2 m) with h | h | h <;> rw [h] <;> rfl
  have TR : Hid (cmpZ (zI s n) (zI s2 m) < 0 → cmpZ (zI s2 m) (zI s3 k) < 0 → cmpZ (zI s n) (zI s3 k) < 0) := Lib.hid (fun h1 h2 => by rw [cmpZ_lt] at *; omega)
  generalize cmpZ (zI s n) (zI s2 m) = oc at *
  generalize cmpZ (zI s2 m) (zI s n) = ob at *
  generalize cmpZ (zI s2 m) (zI s3 k) = o2 at *
  generalize cmpZ (zI s n) (zI s3 k) = o3 at *
  generalize capN (fits (addP s n s3 k).2) (addP s n s3 k).2 = nX at *
  generalize capE (fits (addP s n s3 k).2) = eX at *
  generalize (fits (addP s n s3 k).2 && (addP s n s3 k).1) = bX at *
  generalize capN (fits (addP s2 m s3 k).2) (addP s2 m s3 k).2 = nY at *
  generalize capE (fits (addP s2 m s3 k).2) = eY at *
  generalize (fits (addP s2 m s3 k).2 && (addP s2 m s3 k).1) = bY at *
  generalize sg (!s2) m = sm at *
  generalize sg (!s) n = sn at *
  clear I1 I2 I3 hfn hfm hfk hsn hsm hsk
  have FW : Hid (Fr [] W (((W.alloc (.cells #[.bool s, .slice a (lims n).length cap] 52)).alloc (.cells #[.bool s2, .slice b (lims m).length cap2] 52)).alloc (.cells #[.bool s3, .slice d (lims k).length cap3] 52))) := Lib.hid ((((Fr.refl [] W).alloc _).alloc _).alloc _)
  have P := Lib.hid ((Bx.new W (.bool s) (.slice a (lims n).length cap)).fr (((Fr.refl [] _).alloc (.cells #[.bool s2, .slice b (lims m).length cap2] 52)).alloc (.cells #[.bool s3, .slice d (lims k).length cap3] 52)))
  have fP0 := P.out.c0
  have fP1 := P.out.c1
  have fPl := P.out.lt
  have Q := Lib.hid (((Bx.new (W.alloc (.cells #[.bool s, .slice a (lims n).length cap] 52)) (.bool s2) (.slice b (lims m).length cap2)).eq (k' := W.heap.size + 1) (by simp)).fr ((Fr.refl [] _).alloc (.cells #[.bool s3, .slice d (lims k).length cap3] 52)))
  have fQ0 := Q.out.c0
  have fQ1 := Q.out.c1
  have fQl := Q.out.lt
  have R := Lib.hid ((Bx.new ((W.alloc (.cells #[.bool s, .slice a (lims n).length cap] 52)).alloc (.cells #[.bool s2, .slice b (lims m).length cap2] 52)) (.bool s3) (.slice d (lims k).length cap3)).eq (k' := W.heap.size + 2) (by simp))
  have fR0 := R.out.c0
  have fR1 := R.out.c1
  have fRl := R.out.lt
  go_enter Tryd.func14, Tryd.ntmps14
  go_wp2_with fail
  refine (exactAlive_c _ (HT.out.fr FW.out)).mono ?_
  rintro e w1 ⟨rfl, F1⟩
  replace P := Lib.hid (P.out.fr F1)
  replace fP0 := P.out.c0
  replace fP1 := P.out.c1
  replace fPl := P.out.lt
  replace Q := Lib.hid (Q.out.fr F1)
  replace fQ0 := Q.out.c0
  replace fQ1 := Q.out.c1
  replace fQl := Q.out.lt
  replace R := Lib.hid (R.out.fr F1)
  replace fR0 := R.out.c0
  replace fR1 := R.out.c1
  replace fRl := R.out.lt
  replace FW := Lib.hid (FW.out.same F1)
  clear F1
  go_wp2_with fail
  refine (RA.out _ FW.out).mono ?_
  rintro e w2 ⟨rfl, F2⟩
  replace P := Lib.hid (P.out.fr F2)
  replace fP0 := P.out.c0
  replace fP1 := P.out.c1
  replace fPl := P.out.lt
  replace Q := Lib.hid (Q.out.fr F2)
  replace fQ0 := Q.out.c0
  replace fQ1 := Q.out.c1
  replace fQl := Q.out.lt
  replace R := Lib.hid (R.out.fr F2)
  replace fR0 := R.out.c0
  replace fR1 := R.out.c1
  replace fRl := R.out.lt
  replace FW := Lib.hid (FW.out.same F2)
  clear F2
  go_wp2_with fail
  refine (RB.out _ FW.out).mono ?_
  rintro e w3 ⟨rfl, F3⟩
  replace P := Lib.hid (P.out.fr F3)
  replace fP0 := P.out.c0
  replace fP1 := P.out.c1
  replace fPl := P.out.lt
  replace Q := Lib.hid (Q.out.fr F3)
  replace fQ0 := Q.out.c0
  replace fQ1 := Q.out.c1
  replace fQl := Q.out.lt
  replace R := Lib.hid (R.out.fr F3)
  replace fR0 := R.out.c0
  replace fR1 := R.out.c1
  replace fRl := R.out.lt
  replace FW := Lib.hid (FW.out.same F3)
  clear F3
  go_wp2_with fail
  refine (RC.out _ FW.out).mono ?_
  rintro e w4 ⟨rfl, F4⟩
  replace P := Lib.hid (P.out.fr F4)
  replace fP0 := P.out.c0
  replace fP1 := P.out.c1
  replace fPl := P.out.lt
  replace Q := Lib.hid (Q.out.fr F4)
  replace fQ0 := Q.out.c0
  replace fQ1 := Q.out.c1
  replace fQl := Q.out.lt
  replace R := Lib.hid (R.out.fr F4)
  replace fR0 := R.out.c0
  replace fR1 := R.out.c1
  replace fRl := R.out.lt
  replace FW := Lib.hid (FW.out.same F4)
  clear F4
  go_wp2_with fail
  clear RA RB RC HT
  refine (CO.out _ FW.out).mono ?_
  rintro e w5 ⟨rfl, F5⟩
  replace P := Lib.hid (P.out.fr F5)
  replace fP0 := P.out.c0
  replace fP1 := P.out.c1
  replace fPl := P.out.lt
  replace Q := Lib.hid (Q.out.fr F5)
  replace fQ0 := Q.out.c0
  replace fQ1 := Q.out.c1
  replace fQl := Q.out.lt
  replace R := Lib.hid (R.out.fr F5)
  replace fR0 := R.out.c0
  replace fR1 := R.out.c1
  replace fRl := R.out.lt
  replace FW := Lib.hid (FW.out.same F5)
  clear F5
  have KEEP : Hid (∀ w_, Fr [] w5 w_ → (w_.cell? ⟨W.heap.size, 0, none⟩ = some (.bool s) ∧ w_.cell? ⟨W.heap.size, 1, none⟩ = some (.slice a (lims n).length cap) ∧ w_.cell? ⟨W.heap.size + 1, 0, none⟩ = some (.bool s2) ∧ w_.cell? ⟨W.heap.size + 1, 1, none⟩ = some (.slice b (lims m).length cap2))) := Lib.hid (fun w_ h => ⟨(P.out.fr h).c0, (P.out.fr h).c1, (Q.out.fr h).c0, (Q.out.fr h).c1⟩)
  have FZ : Hid (∀ w_, Fr [] w5 w_ → Fr [] W w_) := Lib.hid (fun w_ h => FW.out.same h)
  go_wp2_with fail
  go_region_held3 (fun w_ => w_.cell? ⟨W.heap.size, 0, none⟩ = some (.bool s) ∧ w_.cell? ⟨W.heap.size, 1, none⟩ = some (.slice a (lims n).length cap) ∧ w_.cell? ⟨W.heap.size + 1, 0, none⟩ = some (.bool s2) ∧ w_.cell? ⟨W.heap.size + 1, 1, none⟩ = some (.slice b (lims m).length cap2)) (with_reducible first | exact KEEP.out _ ((Fr.refl [] _).drew) | exact KEEP.out _ K5.out | exact KEEP.out _ K4.out | exact KEEP.out _ K3.out | exact KEEP.out _ K2.out | exact KEEP.out _ K1.out) (first | (go_at_call_of 52 b; refine Calls.mono (CP.out _ (FZ.out _ (Fr.refl [] w5).drew)) ?_; rintro e u1 ⟨rfl, G1⟩; have K1 := Lib.hid ((Fr.refl [] w5).drew.same G1)) | (go_at_call 53; refine Calls.mono (CS.out _ (FZ.out _ K1.out)) ?_; rintro e u2 ⟨rfl, G2⟩; have K2 := Lib.hid (K1.out.same G2)) | (go_at_call_of 54 b; refine Calls.mono (CN.out _ (FZ.out _ K2.out)) ?_; rintro e u3 ⟨aN, cN, rfl, IN, G3⟩; have K3 := Lib.hid (K2.out.same G3)) | (go_at_call_of 54 a; refine Calls.mono (CM.out _ (FZ.out _ K3.out)) ?_; rintro e u4 ⟨aO, cO, rfl, IO, G4⟩; have K4 := Lib.hid (K3.out.same G4)) | (go_at_call_of 52 aN; refine Calls.mono (CT.out _ _ _ _ _ (IN.keep G4) IO) ?_; rintro e u5 ⟨rfl, G5⟩; have K5 := Lib.hid (K4.out.same G5)))
  all_goals
    clear KEEP FZ CO CP CS CN CM CT
    replace P := Lib.hid (P.out.fr K5.out)
    replace fP0 := P.out.c0
    replace fP1 := P.out.c1
    replace fPl := P.out.lt
    replace Q := Lib.hid (Q.out.fr K5.out)
    replace fQ0 := Q.out.c0
    replace fQ1 := Q.out.c1
    replace fQl := Q.out.lt
    replace R := Lib.hid (R.out.fr K5.out)
    replace fR0 := R.out.c0
    replace fR1 := R.out.c1
    replace fRl := R.out.lt
    replace FW := Lib.hid (FW.out.same K5.out)
    by_cases h1 : oc < 0
    · have d1 : decide (oc < 0) = true := decide_eq_true h1
      by_cases h2 : o2 < 0
      · have d2 : decide (o2 < 0) = true := decide_eq_true h2
        have h3 := TR.out h1 h2
        have d3 : decide (0 ≤ o3) = false := decide_eq_false (by omega)
        clear h1 h2 TR
        go_wp2_with fail
        refine (CQ.out _ FW.out).mono ?_
        rintro e w6 ⟨rfl, F6⟩
        replace P := Lib.hid (P.out.fr F6)
        replace fP0 := P.out.c0
        replace fP1 := P.out.c1
        replace fPl := P.out.lt
        replace Q := Lib.hid (Q.out.fr F6)
        replace fQ0 := Q.out.c0
        replace fQ1 := Q.out.c1
        replace fQl := Q.out.lt
        replace R := Lib.hid (R.out.fr F6)
        replace fR0 := R.out.c0
        replace fR1 := R.out.c1
        replace fRl := R.out.lt
        replace FW := Lib.hid (FW.out.same F6)
        clear F6
        go_wp2_with fail
        refine (CR.out _ FW.out).mono ?_
        rintro e w7 ⟨rfl, F7⟩
        replace P := Lib.hid (P.out.fr F7)
        replace fP0 := P.out.c0
        replace fP1 := P.out.c1
        replace fPl := P.out.lt
        replace Q := Lib.hid (Q.out.fr F7)
        replace fQ0 := Q.out.c0
        replace fQ1 := Q.out.c1
        replace fQl := Q.out.lt
        replace R := Lib.hid (R.out.fr F7)
        replace fR0 := R.out.c0
        replace fR1 := R.out.c1
        replace fRl := R.out.lt
        replace FW := Lib.hid (FW.out.same F7)
        clear F7
        go_wp2_with fail
        refine (CX.out _ FW.out).mono ?_
        rintro e w8 ⟨aX, cX, rfl, IX, F8⟩
        replace P := Lib.hid (P.out.fr (F8.alloc (.cells #[.bool bX, .slice aX (lims nX).length cX] 52)))
        replace fP0 := P.out.c0
        replace fP1 := P.out.c1
        replace fPl := P.out.lt
        replace Q := Lib.hid (Q.out.fr (F8.alloc (.cells #[.bool bX, .slice aX (lims nX).length cX] 52)))
        replace fQ0 := Q.out.c0
        replace fQ1 := Q.out.c1
        replace fQl := Q.out.lt
        replace R := Lib.hid (R.out.fr (F8.alloc (.cells #[.bool bX, .slice aX (lims nX).length cX] 52)))
        replace fR0 := R.out.c0
        replace fR1 := R.out.c1
        replace fRl := R.out.lt
        replace FW := Lib.hid (FW.out.same (F8.alloc (.cells #[.bool bX, .slice aX (lims nX).length cX] 52)))
        have IX := Lib.hid (IX.keep ((Fr.refl [] _).alloc (.cells #[.bool bX, .slice aX (lims nX).length cX] 52)))
        have BX := Lib.hid (Bx.new w8 (.bool bX) (.slice aX (lims nX).length cX))
        have fBX0 := BX.out.c0
        have fBX1 := BX.out.c1
        have fBXl := BX.out.lt
        clear F8
        go_wp2_with fail
        refine (CY.out _ FW.out).mono ?_
        rintro e w9 ⟨aY, cY, rfl, IY, F9⟩
        replace P := Lib.hid (P.out.fr (F9.alloc (.cells #[.bool bY, .slice aY (lims nY).length cY] 52)))
        replace fP0 := P.out.c0
        replace fP1 := P.out.c1
        replace fPl := P.out.lt
        replace Q := Lib.hid (Q.out.fr (F9.alloc (.cells #[.bool bY, .slice aY (lims nY).length cY] 52)))
        replace fQ0 := Q.out.c0
        replace fQ1 := Q.out.c1
        replace fQl := Q.out.lt
        replace R := Lib.hid (R.out.fr (F9.alloc (.cells #[.bool bY, .slice aY (lims nY).length cY] 52)))
        replace fR0 := R.out.c0
        replace fR1 := R.out.c1
        replace fRl := R.out.lt
        replace BX := Lib.hid (BX.out.fr (F9.alloc (.cells #[.bool bY, .slice aY (lims nY).length cY] 52)))
        replace fBX0 := BX.out.c0
        replace fBX1 := BX.out.c1
        replace fBXl := BX.out.lt
        replace IX := Lib.hid (IX.out.keep (F9.alloc (.cells #[.bool bY, .slice aY (lims nY).length cY] 52)))
        replace FW := Lib.hid (FW.out.same (F9.alloc (.cells #[.bool bY, .slice aY (lims nY).length cY] 52)))
        have IY := Lib.hid (IY.keep ((Fr.refl [] _).alloc (.cells #[.bool bY, .slice aY (lims nY).length cY] 52)))
        have BY := Lib.hid (Bx.new w9 (.bool bY) (.slice aY (lims nY).length cY))
        have fBY0 := BY.out.c0
        have fBY1 := BY.out.c1
        have fBYl := BY.out.lt
        clear F9
        by_cases hx : eX = 0
        · by_cases hy : eY = 0
          · have CZ2 := Lib.hid (CZ.out _ _ _ _ _ IX.out IY.out hx hy)
            subst hx
            subst hy
            go_wp2_with fail
            refine CZ2.out.mono ?_
            rintro e wz ⟨rfl, Fz⟩
            go_wp2
            go_ret
            exact ⟨rfl, (FW.out.same Fz).below⟩
          · have hy2 : (eY == 0) = false := beq_eq_false_iff_ne.2 hy
            clear CZ
            subst hx
            go_wp2
            go_ret
            exact ⟨rfl, FW.out.below⟩
        · have hx2 : (eX == 0) = false := beq_eq_false_iff_ne.2 hx
          clear CZ
          go_wp2
          go_ret
          exact ⟨rfl, FW.out.below⟩
      · have d2 : decide (o2 < 0) = false := decide_eq_false h2
        clear h1 h2 TR CR
        go_wp2_with fail
        refine (CQ.out _ FW.out).mono ?_
        rintro e w6 ⟨rfl, F6⟩
        replace P := Lib.hid (P.out.fr F6)
        replace fP0 := P.out.c0
        replace fP1 := P.out.c1
        replace fPl := P.out.lt
        replace Q := Lib.hid (Q.out.fr F6)
        replace fQ0 := Q.out.c0
        replace fQ1 := Q.out.c1
        replace fQl := Q.out.lt
        replace R := Lib.hid (R.out.fr F6)
        replace fR0 := R.out.c0
        replace fR1 := R.out.c1
        replace fRl := R.out.lt
        replace FW := Lib.hid (FW.out.same F6)
        clear F6
        go_wp2_with fail
        refine (CX.out _ FW.out).mono ?_
        rintro e w8 ⟨aX, cX, rfl, IX, F8⟩
        replace P := Lib.hid (P.out.fr (F8.alloc (.cells #[.bool bX, .slice aX (lims nX).length cX] 52)))
        replace fP0 := P.out.c0
        replace fP1 := P.out.c1
        replace fPl := P.out.lt
        replace Q := Lib.hid (Q.out.fr (F8.alloc (.cells #[.bool bX, .slice aX (lims nX).length cX] 52)))
        replace fQ0 := Q.out.c0
        replace fQ1 := Q.out.c1
        replace fQl := Q.out.lt
        replace R := Lib.hid (R.out.fr (F8.alloc (.cells #[.bool bX, .slice aX (lims nX).length cX] 52)))
        replace fR0 := R.out.c0
        replace fR1 := R.out.c1
        replace fRl := R.out.lt
        replace FW := Lib.hid (FW.out.same (F8.alloc (.cells #[.bool bX, .slice aX (lims nX).length cX] 52)))
        have IX := Lib.hid (IX.keep ((Fr.refl [] _).alloc (.cells #[.bool bX, .slice aX (lims nX).length cX] 52)))
        have BX := Lib.hid (Bx.new w8 (.bool bX) (.slice aX (lims nX).length cX))
        have fBX0 := BX.out.c0
        have fBX1 := BX.out.c1
        have fBXl := BX.out.lt
        clear F8
        go_wp2_with fail
        refine (CY.out _ FW.out).mono ?_
        rintro e w9 ⟨aY, cY, rfl, IY, F9⟩
        replace P := Lib.hid (P.out.fr (F9.alloc (.cells #[.bool bY, .slice aY (lims nY).length cY] 52)))
        replace fP0 := P.out.c0
        replace fP1 := P.out.c1
        replace fPl := P.out.lt
        replace Q := Lib.hid (Q.out.fr (F9.alloc (.cells #[.bool bY, .slice aY (lims nY).length cY] 52)))
        replace fQ0 := Q.out.c0
        replace fQ1 := Q.out.c1
        replace fQl := Q.out.lt
        replace R := Lib.hid (R.out.fr (F9.alloc (.cells #[.bool bY, .slice aY (lims nY).length cY] 52)))
        replace fR0 := R.out.c0
        replace fR1 := R.out.c1
        replace fRl := R.out.lt
        replace BX := Lib.hid (BX.out.fr (F9.alloc (.cells #[.bool bY, .slice aY (lims nY).length cY] 52)))
        replace fBX0 := BX.out.c0
        replace fBX1 := BX.out.c1
        replace fBXl := BX.out.lt
        replace IX := Lib.hid (IX.out.keep (F9.alloc (.cells #[.bool bY, .slice aY (lims nY).length cY] 52)))
        replace FW := Lib.hid (FW.out.same (F9.alloc (.cells #[.bool bY, .slice aY (lims nY).length cY] 52)))
        have IY := Lib.hid (IY.keep ((Fr.refl [] _).alloc (.cells #[.bool bY, .slice aY (lims nY).length cY] 52)))
        have BY := Lib.hid (Bx.new w9 (.bool bY) (.slice aY (lims nY).length cY))
        have fBY0 := BY.out.c0
        have fBY1 := BY.out.c1
        have fBYl := BY.out.lt
        clear F9
        by_cases hx : eX = 0
        · by_cases hy : eY = 0
          · have CZ2 := Lib.hid (CZ.out _ _ _ _ _ IX.out IY.out hx hy)
            subst hx
            subst hy
            go_wp2_with fail
            refine CZ2.out.mono ?_
            rintro e wz ⟨rfl, Fz⟩
            go_wp2
            go_ret
            exact ⟨rfl, (FW.out.same Fz).below⟩
          · have hy2 : (eY == 0) = false := beq_eq_false_iff_ne.2 hy
            clear CZ
            subst hx
            go_wp2
            go_ret
            exact ⟨rfl, FW.out.below⟩
        · have hx2 : (eX == 0) = false := beq_eq_false_iff_ne.2 hx
          clear CZ
          go_wp2
          go_ret
          exact ⟨rfl, FW.out.below⟩
    · have d1 : decide (oc < 0) = false := decide_eq_false h1
      clear h1 TR CQ CR
      go_wp2_with fail
      refine (CX.out _ FW.out).mono ?_
      rintro e w8 ⟨aX, cX, rfl, IX, F8⟩
      replace P := Lib.hid (P.out.fr (F8.alloc (.cells #[.bool bX, .slice aX (lims nX).length cX] 52)))
      replace fP0 := P.out.c0
      replace fP1 := P.out.c1
      replace fPl := P.out.lt
      replace Q := Lib.hid (Q.out.fr (F8.alloc (.cells #[.bool bX, .slice aX (lims nX).length cX] 52)))
      replace fQ0 := Q.out.c0
      replace fQ1 := Q.out.c1
      replace fQl := Q.out.lt
      replace R := Lib.hid (R.out.fr (F8.alloc (.cells #[.bool bX, .slice aX (lims nX).length cX] 52)))
      replace fR0 := R.out.c0
      replace fR1 := R.out.c1
      replace fRl := R.out.lt
      replace FW := Lib.hid (FW.out.same (F8.alloc (.cells #[.bool bX, .slice aX (lims nX).length cX] 52)))
      have IX := Lib.hid (IX.keep ((Fr.refl [] _).alloc (.cells #[.bool bX, .slice aX (lims nX).length cX] 52)))
      have BX := Lib.hid (Bx.new w8 (.bool bX) (.slice aX (lims nX).length cX))
      have fBX0 := BX.out.c0
      have fBX1 := BX.out.c1
      have fBXl := BX.out.lt
      clear F8
      go_wp2_with fail
      refine (CY.out _ FW.out).mono ?_
      rintro e w9 ⟨aY, cY, rfl, IY, F9⟩
      replace P := Lib.hid (P.out.fr (F9.alloc (.cells #[.bool bY, .slice aY (lims nY).length cY] 52)))
      replace fP0 := P.out.c0
      replace fP1 := P.out.c1
      replace fPl := P.out.lt
      replace Q := Lib.hid (Q.out.fr (F9.alloc (.cells #[.bool bY, .slice aY (lims nY).length cY] 52)))
      replace fQ0 := Q.out.c0
      replace fQ1 := Q.out.c1
      replace fQl := Q.out.lt
      replace R := Lib.hid (R.out.fr (F9.alloc (.cells #[.bool bY, .slice aY (lims nY).length cY] 52)))
      replace fR0 := R.out.c0
      replace fR1 := R.out.c1
      replace fRl := R.out.lt
      replace BX := Lib.hid (BX.out.fr (F9.alloc (.cells #[.bool bY, .slice aY (lims nY).length cY] 52)))
      replace fBX0 := BX.out.c0
      replace fBX1 := BX.out.c1
      replace fBXl := BX.out.lt
      replace IX := Lib.hid (IX.out.keep (F9.alloc (.cells #[.bool bY, .slice aY (lims nY).length cY] 52)))
      replace FW := Lib.hid (FW.out.same (F9.alloc (.cells #[.bool bY, .slice aY (lims nY).length cY] 52)))
      have IY := Lib.hid (IY.keep ((Fr.refl [] _).alloc (.cells #[.bool bY, .slice aY (lims nY).length cY] 52)))
      have BY := Lib.hid (Bx.new w9 (.bool bY) (.slice aY (lims nY).length cY))
      have fBY0 := BY.out.c0
      have fBY1 := BY.out.c1
      have fBYl := BY.out.lt
      clear F9
      by_cases hx : eX = 0
      · by_cases hy : eY = 0
        · have CZ2 := Lib.hid (CZ.out _ _ _ _ _ IX.out IY.out hx hy)
          subst hx
          subst hy
          go_wp2_with fail
          refine CZ2.out.mono ?_
          rintro e wz ⟨rfl, Fz⟩
          go_wp2
          go_ret
          exact ⟨rfl, (FW.out.same Fz).below⟩
        · have hy2 : (eY == 0) = false := beq_eq_false_iff_ne.2 hy
          clear CZ
          subst hx
          go_wp2
          go_ret
          exact ⟨rfl, FW.out.below⟩
      · have hx2 : (eX == 0) = false := beq_eq_false_iff_ne.2 hx
        clear CZ
        go_wp2
        go_ret
        exact ⟨rfl, FW.out.below⟩
theorem walk (z1 z2 z3 : IA) (W : World) (h1 : InI W z1) (h2 : InI W z2) (h3 : InI W z3) (hT : Tab W) :
    Calls Tryd.prog 14 #[.agg #[.bool z1.s, .slice z1.a z1.len z1.cap], .agg #[.bool z2.s, .slice z2.a z2.len z2.cap], .agg #[.bool z3.s, .slice z3.a z3.len z3.cap]] W fun e W' => e = .returned (.bool true) ∧ Below W.heap.size W W' := by
  obtain ⟨s, a, ln, cap⟩ := z1
  obtain ⟨s2, b, lm, cap2⟩ := z2
  obtain ⟨s3, d, lk, cap3⟩ := z3
  obtain ⟨L, hL⟩ := h1
  obtain ⟨M, hM⟩ := h2
  obtain ⟨N, hN⟩ := h3
  have hL : InA W a ln cap L := hL
  have hM : InA W b lm cap2 M := hM
  have hN : InA W d lk cap3 N := hN
  cases hr : (rightP s L && rightP s2 M && rightP s3 N) with
  | false => exact walk_left s a ln cap s2 b lm cap2 s3 d lk cap3 L M N W hL hM hN hT hr
  | true =>
    have hr1 : rightP s L = true := by simp at hr; exact hr.1.1
    have hr2 : rightP s2 M = true := by simp at hr; exact hr.1.2
    have hr3 : rightP s3 N = true := by simp at hr; exact hr.2
    obtain ⟨n, e1, I1, hfn, hsn, _⟩ := right_open hL hr1
    obtain ⟨m, e2, I2, hfm, hsm, _⟩ := right_open hM hr2
    obtain ⟨k, e3, I3, hfk, hsk, _⟩ := right_open hN hr3
    subst e1
    subst e2
    subst e3
    exact walk_all s a n cap s2 b m cap2 s3 d k cap3 W I1 I2 I3 hfn hfm hfk hsn hsm hsk hT (Lib.hid (fun W' h => by rw [← hr1]; exact r2right_any W' s _ (hL.keep h))) (Lib.hid (fun W' h => by rw [← hr2]; exact r2right_any W' s2 _ (hM.keep h))) (Lib.hid (fun W' h => by rw [← hr3]; exact r2right_any W' s3 _ (hN.keep h)))
set_option maxRecDepth 100000 in
theorem lifted (os : Os) (started : os.Started) (H : Type) (enc : TypeId × Value → H) :
    ReturnsInHanded {} Tryd.checked os 14 .any (fun w args => (Rows.exactOrderSpec.pre enc Tryd.prog Tryd.f14 [] false w args ∧ laidMetH Tryd.prog listed w) ∧ sizedMet enc Tryd.prog Tryd.f14 (OpenSpec.ofChange Rows.exactOrderSpec) false w args) (Rows.exactOrderSpec.post enc Tryd.prog Tryd.f14 false true false false) := by
  refine returnsInHanded_of_change_and (C := Tryd.checked) (X := fun w _ => laidMetH Tryd.prog listed w) (fun _ _ _ hh h => h.of_heap hh) own started (by kernel_rfl) Tryd.func14
    (ChangeSpec.witness_shaped (enc := enc) (C := Tryd.checked) (os := os) (X := fun w _ => laidMetH Tryd.prog listed w) false (World.doorLaid Tryd.prog 24 os) #[zeroI, zeroI, zeroI] 8 rfl (World.shaped_of_RefB (by kernel_rfl) (by kernel_rfl)) (by kernel_rfl) (by kernel_rfl) (by kernel_rfl) (door_met os _)) ?_
  intro W base args ds gs before hval0 hW _ _ hL _
  have hT := tab_of_laid hL
  have hval : ∀ (j : Nat) t v, Tryd.f14.params[j]? = some t → args[j]? = some v → Value.okWide Tryd.prog W .any base t v := hval0
  have hW' := hW
  obtain ⟨p, q, hA0, hV, rfl, hfz, hnd⟩ := hW
  have hA : DataW.TrodAll enc Tryd.prog W 0 (fun _ => true) true Tryd.f14.params.toList args.toList ds p := hA0
  rw [Tryd.params14] at hA hval
  obtain ⟨v0, vs0, d0, ds0, p0, q0, hargs, rfl, rfl, h0, r0⟩ := trodAll_cons hA
  obtain ⟨v1, vs1, d1, ds1, p1, q1, rfl, rfl, rfl, h1, r1⟩ := trodAll_cons r0
  obtain ⟨v2, vs2, d2, ds2, p2, q2, rfl, rfl, rfl, h2, r2⟩ := trodAll_cons r1
  obtain ⟨rfl, rfl, rfl⟩ := trodAll_nil r2
  obtain rfl : args = #[v0, v1, v2] := by cases args; simp_all
  obtain ⟨rfl, rfl⟩ := trodVars_none hV
  have k0 := h0
  have lt0 : ∀ x ∈ p0, x.block < W.heap.size := by obtain ⟨m, hm⟩ := k0; exact DataW.trod_lt m _ _ _ hm
  obtain ⟨z0, rfl, w0⟩ := open_iv (hval 0 52 v0 rfl rfl) h0
  have k1 := h1
  have lt1 : ∀ x ∈ p1, x.block < W.heap.size := by obtain ⟨m, hm⟩ := k1; exact DataW.trod_lt m _ _ _ hm
  obtain ⟨z1, rfl, w1⟩ := open_iv (hval 1 52 v1 rfl rfl) h1
  have k2 := h2
  have lt2 : ∀ x ∈ p2, x.block < W.heap.size := by obtain ⟨m, hm⟩ := k2; exact DataW.trod_lt m _ _ _ hm
  obtain ⟨z2, rfl, w2⟩ := open_iv (hval 2 52 v2 rfl rfl) h2
  clear hA0 hval0
  refine (walk z0 z1 z2 W w0 w1 w2 hT).mono fun e W' ⟨he, bel⟩ => ?_
  subst he
  exact ⟨_, rfl, _, _, _, [], _, [], hW', trodAll_mk1 (shut_bool Tryd.underlying4 _), (trodAll_cons_mk (Below.trod laidOut (by kernel_rfl) (of_decide_eq_true (by kernel_rfl)) k0 bel lt0) (trodAll_cons_mk (Below.trod laidOut (by kernel_rfl) (of_decide_eq_true (by kernel_rfl)) k1 bel lt1) (trodAll_cons_mk (Below.trod laidOut (by kernel_rfl) (of_decide_eq_true (by kernel_rfl)) k2 bel lt2) trodAll_mk0))), rfl, bel.frame _, fun h => by cases h⟩
theorem over : Rows.exactOrderRow.holds Tryd.pinned (OpenSpec.ofChange Rows.exactOrderSpec) :=
  OpenClaim.holds_of_wide 14 Tryd.f14 rfl rfl rfl rfl rfl rfl rfl ⟨rfl, rfl, rfl, rfl, rfl⟩ rfl rfl rfl rfl rfl (by kernel_rfl) Tryd.func14 (by kernel_rfl)
    (of_decide_eq_true (by kernel_rfl)) (by unfold Func.isWrapper; first | (rw [if_pos (by decide +kernel)]; kernel_rfl) | (rw [if_neg (by decide +kernel)]; exact ⟨rfl, rfl⟩))
    (fun os started H enc _ => lifted os started H enc)
/-- THE STATEMENT -/
theorem proved : Rows.ExactOrderCardSaid :=
  Claim7.holds_tied_plain_at .later [] [.data, .data, .data] true (true, "ea8df5c1a0e302ec682270425c9a8cf6ae00272b589ccfc6cc1f4d10a9599452") false
    over (fun _ h => by cases h) (by kernel_rfl) (fun _ h => by cases h) exactOrder_row_tie rfl ⟨rfl, rfl⟩ (by kernel_rfl) rfl
    (fun f fn hf hfn => by
      obtain rfl : f = 14 := Option.some.inj ((show Tryd.prog.funcNamed "distaff/distafflaw02.ExactOrder" = some 14 by kernel_rfl).symm.trans hf) |>.symm
      obtain rfl : fn = Tryd.f14 := (Option.some.inj (Tryd.func14.symm.trans hfn)).symm
      exact ⟨by kernel_rfl, fun j t ht => by
        rw [Tryd.params14] at ht
        have hm : t ∈ [52, 52, 52] := by simpa using Array.mem_of_getElem? ht
        have hall : ([52, 52, 52].all fun u => !Tryd.prog.wantsStandIn u) = true := by kernel_rfl
        exact (show Tryd.prog.wantsStandIn t = false by simpa using List.all_eq_true.1 hall t hm)⟩)
    (by kernel_rfl)
#print axioms proved
end Go.Proofs.YtladhmbidicncaaDoor.exactOrder
