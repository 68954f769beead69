/- exactBack. -/
import Derived.Test.YtladhmbidicncaaDoorExaU
namespace Go.Proofs.YtladhmbidicncaaDoor.exactBack
open Go.ChangeShapes Go.WideShapes Go.RowKit Go.Proofs.YtladhmbidicncaaDoor
theorem cut_text {s : Bool} {n : Nat} (h : fits n = true) : negS (textI s n) = s ∧ cutS (textI s n) = Lib.decDigits n := by
  have e : textOf n = Lib.decDigits n := by unfold textOf; rw [if_pos h]
  unfold textI
  rw [e]
  have hl := dec_ne n
  have hd := dec_dig n
  cases s with
  | true =>
    rw [if_pos rfl]
    have h45 : (45 : UInt8).toNat = 43 ∨ (45 : UInt8).toNat = 45 := by decide
    exact ⟨rfl, by unfold cutS; exact if_pos h45⟩
  | false =>
    rw [if_neg Bool.false_ne_true]
    generalize Lib.decDigits n = l at *
    cases l with
    | nil => simp at hl
    | cons c t =>
      have hc := hd c (by simp)
      unfold isDig at hc
      rw [decide_eq_true_eq] at hc
      exact ⟨decide_eq_false (by omega), if_neg (by omega)⟩
theorem parse_dec {n : Nat} (h : fits n = true) : parseE (Lib.decDigits n) = 0 := by
  have h1 := fits_dec h
  have h2 := dec_ne n
  unfold parseE
  rw [if_neg, numOf_dec, h, if_pos rfl]
  rintro (h3 | h3 | h3)
  · omega
  · omega
  · unfold allDig at h3
    rw [List.all_eq_false] at h3
    obtain ⟨c, hc, hn⟩ := h3
    exact hn (dec_dig n c hc)
theorem sg_self {s : Bool} {n : Nat} (h : s = true → n ≠ 0) : sg s n = s := by
  cases s with
  | false => exact sg_false n
  | true => exact sg_pos true (h rfl)
theorem back_mul (s s2 : Bool) (q m : Nat) (hm : m ≠ 0) : sg (sg (s != s2) q != s2) (q * m) = sg s (q * m) := by
  by_cases hq : q = 0
  · rw [hq, Nat.zero_mul, sg_zero, sg_zero]
  · have : q * m ≠ 0 := Nat.mul_ne_zero hq hm
    rw [sg_pos _ hq, sg_pos _ this, sg_pos _ this]
    cases s <;> cases s2 <;> rfl
theorem back_add {s : Bool} {p r n : Nat} (hn : s = true → n ≠ 0) (e : p + r = n) : addP (sg s p) p (sg s r) r = (s, n) := by
  by_cases hp : p = 0
  · by_cases hr : r = 0
    · have h0 : n = 0 := by omega
      have hs : s = false := by cases s with | false => rfl | true => exact absurd h0 (hn rfl)
      rw [hp, hr, hs, sg_zero, h0, addP_same]; rfl
    · have h0 : n = r := by omega
      rw [hp, sg_zero, sg_pos s hr, h0]
      cases s with
      | false => rw [addP_same, sg_false, Nat.zero_add]
      | true => rw [addP_lt (by decide) (by omega), Nat.sub_zero, sg_pos _ hr]
  · by_cases hr : r = 0
    · have h0 : n = p := by omega
      rw [hr, sg_zero, sg_pos s hp, h0]
      cases s with
      | false => rw [addP_same, sg_false, Nat.add_zero]
      | true => rw [addP_ge (by decide) (by omega), Nat.sub_zero, sg_pos _ hp]
    · rw [sg_pos s hp, sg_pos s hr, addP_same, e, sg_self hn]
set_option maxRecDepth 100000 in
set_option maxHeartbeats 16000000 in
theorem walk_left (s : Bool) (a : Option Addr) (ln cap : Nat) (s2 : Bool) (b : Option Addr) (lm cap2 : Nat) (L M : List Nat) (W : World) (hL : InA W a ln cap L) (hM : InA W b lm cap2 M) (hT : Tab W) (hr : (rightP s L && rightP s2 M) = false) :
    Calls Tryd.prog 20 #[.agg #[.bool s, .slice a ln cap], .agg #[.bool s2, .slice b lm cap2]] W fun e W' => e = .returned (.bool true) ∧ Below W.heap.size W W' := by
  have HT := Lib.hid hT
  clear hT
  have RA : Hid (∀ g, rightP s L = g → ∀ W', Fr [] W W' → Calls Tryd.prog 44 #[.agg #[.bool s, .slice a ln cap]] W' fun e w' => e = .returned (.bool g) ∧ Fr [] W' w') := Lib.hid (fun g e W' h => by rw [← e]; exact r2right_any W' s ln (hL.keep h))
  have RB : Hid (∀ g, rightP s2 M = g → ∀ W', Fr [] W W' → Calls Tryd.prog 44 #[.agg #[.bool s2, .slice b lm cap2]] W' fun e w' => e = .returned (.bool g) ∧ Fr [] W' w') := Lib.hid (fun g e W' h => by rw [← e]; exact r2right_any W' s2 lm (hM.keep h))
  cases hp : rightP s L with
  | false =>
    have RA := Lib.hid (RA.out _ hp)
    clear RB hp hL hM hr
    have FW : Hid (Fr [] W ((W.alloc (.cells #[.bool s, .slice a ln cap] 52)).alloc (.cells #[.bool s2, .slice b lm cap2] 52))) := Lib.hid (((Fr.refl [] W).alloc _).alloc _)
    have P := Lib.hid ((Bx.new W (.bool s) (.slice a ln cap)).fr ((Fr.refl [] _).alloc (.cells #[.bool s2, .slice b lm cap2] 52)))
    have fP0 := P.out.c0
    have fP1 := P.out.c1
    have fPl := P.out.lt
    have Q := Lib.hid ((Bx.new (W.alloc (.cells #[.bool s, .slice a ln cap] 52)) (.bool s2) (.slice b lm cap2)).eq (k' := W.heap.size + 1) (by simp))
    have fQ0 := Q.out.c0
    have fQ1 := Q.out.c1
    have fQl := Q.out.lt
    go_enter Tryd.func20, Tryd.ntmps20
    go_wp2_with fail
    refine (exactAlive_c _ (HT.out.fr FW.out)).mono ?_
    rintro e w1 ⟨rfl, F1⟩
    replace P := Lib.hid (P.out.fr F1)
    replace fP0 := P.out.c0
    replace fP1 := P.out.c1
    replace fPl := P.out.lt
    replace Q := Lib.hid (Q.out.fr F1)
    replace fQ0 := Q.out.c0
    replace fQ1 := Q.out.c1
    replace fQl := Q.out.lt
    replace FW := Lib.hid (FW.out.same F1)
    clear F1
    go_wp2_with fail
    refine (RA.out _ FW.out).mono ?_
    rintro e w2 ⟨rfl, F2⟩
    replace P := Lib.hid (P.out.fr F2)
    replace fP0 := P.out.c0
    replace fP1 := P.out.c1
    replace fPl := P.out.lt
    replace Q := Lib.hid (Q.out.fr F2)
    replace fQ0 := Q.out.c0
    replace fQ1 := Q.out.c1
    replace fQl := Q.out.lt
    replace FW := Lib.hid (FW.out.same F2)
    clear F2
    go_wp2_with fail
    go_ret
    exact ⟨rfl, FW.out.below⟩
  | true =>
    have hq : rightP s2 M = false := by rw [hp] at hr; simpa using hr
    have RA := Lib.hid (RA.out _ hp)
    have RB := Lib.hid (RB.out _ hq)
    clear hp hq hL hM hr
    have FW : Hid (Fr [] W ((W.alloc (.cells #[.bool s, .slice a ln cap] 52)).alloc (.cells #[.bool s2, .slice b lm cap2] 52))) := Lib.hid (((Fr.refl [] W).alloc _).alloc _)
    have P := Lib.hid ((Bx.new W (.bool s) (.slice a ln cap)).fr ((Fr.refl [] _).alloc (.cells #[.bool s2, .slice b lm cap2] 52)))
    have fP0 := P.out.c0
    have fP1 := P.out.c1
    have fPl := P.out.lt
    have Q := Lib.hid ((Bx.new (W.alloc (.cells #[.bool s, .slice a ln cap] 52)) (.bool s2) (.slice b lm cap2)).eq (k' := W.heap.size + 1) (by simp))
    have fQ0 := Q.out.c0
    have fQ1 := Q.out.c1
    have fQl := Q.out.lt
    go_enter Tryd.func20, Tryd.ntmps20
    go_wp2_with fail
    refine (exactAlive_c _ (HT.out.fr FW.out)).mono ?_
    rintro e w1 ⟨rfl, F1⟩
    replace P := Lib.hid (P.out.fr F1)
    replace fP0 := P.out.c0
    replace fP1 := P.out.c1
    replace fPl := P.out.lt
    replace Q := Lib.hid (Q.out.fr F1)
    replace fQ0 := Q.out.c0
    replace fQ1 := Q.out.c1
    replace fQl := Q.out.lt
    replace FW := Lib.hid (FW.out.same F1)
    clear F1
    go_wp2_with fail
    refine (RA.out _ FW.out).mono ?_
    rintro e w2 ⟨rfl, F2⟩
    replace P := Lib.hid (P.out.fr F2)
    replace fP0 := P.out.c0
    replace fP1 := P.out.c1
    replace fPl := P.out.lt
    replace Q := Lib.hid (Q.out.fr F2)
    replace fQ0 := Q.out.c0
    replace fQ1 := Q.out.c1
    replace fQl := Q.out.lt
    replace FW := Lib.hid (FW.out.same F2)
    clear F2
    go_wp2_with fail
    refine (RB.out _ FW.out).mono ?_
    rintro e w3 ⟨rfl, F3⟩
    replace P := Lib.hid (P.out.fr F3)
    replace fP0 := P.out.c0
    replace fP1 := P.out.c1
    replace fPl := P.out.lt
    replace Q := Lib.hid (Q.out.fr F3)
    replace fQ0 := Q.out.c0
    replace fQ1 := Q.out.c1
    replace fQl := Q.out.lt
    replace FW := Lib.hid (FW.out.same F3)
    clear F3
    go_wp2_with fail
    go_ret
    exact ⟨rfl, FW.out.below⟩
set_option maxRecDepth 100000 in
set_option maxHeartbeats 16000000 in
theorem walk_zero (s : Bool) (a : Option Addr) (n cap : Nat) (s2 : Bool) (b : Option Addr) (m cap2 : Nat) (W : World) (I1 : In W a cap (lims n)) (I2 : In W b cap2 (lims m)) (hfn : fits n = true) (hfm : fits m = true) (hsn : s = true → n ≠ 0) (hm : m = 0) (hT : Tab W)
    (RA : Hid (∀ W', Fr [] W W' → Calls Tryd.prog 44 #[.agg #[.bool s, .slice a (lims n).length cap]] W' fun e w' => e = .returned (.bool true) ∧ Fr [] W' w')) (RB : Hid (∀ W', Fr [] W W' → Calls Tryd.prog 44 #[.agg #[.bool s2, .slice b (lims m).length cap2]] W' fun e w' => e = .returned (.bool true) ∧ Fr [] W' w')) :
    Calls Tryd.prog 20 #[.agg #[.bool s, .slice a (lims n).length cap], .agg #[.bool s2, .slice b (lims m).length cap2]] W fun e W' => e = .returned (.bool true) ∧ Below W.heap.size W W' := by
  have HT := Lib.hid hT
  clear hT
  obtain ⟨tx, htx⟩ : ∃ tx : ByteArray, tx = ⟨(textI s n).toArray⟩ := ⟨_, rfl⟩
  have CT : Hid (∀ W', Fr [] W W' → Calls Tryd.prog 58 #[.agg #[.bool s, .slice a (lims n).length cap]] W' fun e w' => e = .returned (.string tx) ∧ Fr [] W' w') := Lib.hid (fun W' h => by rw [htx]; exact etext_c W' s n (I1.keep h) (HT.out.fr h))
  have CP : Hid (∀ W', Calls Tryd.prog 56 #[.string tx] W' fun e w' => ∃ a c, e = .returned (.tuple #[.agg #[.bool s, .slice a (lims n).length c], .int .i64 0]) ∧ In w' a c (lims n) ∧ Fr [] W' w') := Lib.hid (fun W' => by
    have hl : (textI s n).length ≤ 100000 := by have := textOf_len n; unfold textI; split <;> simp <;> omega
    have := eparse_c W' (textI s n) hl
    rw [(cut_text hfn).1, (cut_text hfn).2, ← htx] at this
    refine this.mono ?_
    intro e w' h
    unfold ParseI at h
    rwa [parse_dec hfn, if_pos rfl, numOf_dec, sg_self hsn] at h)
  have CS : Hid (∀ W' x c, Fr [] W W' → In W' x c (lims n) → Calls Tryd.prog 53 #[.agg #[.bool s, .slice x (lims n).length c], .agg #[.bool s, .slice a (lims n).length cap]] W' fun e w' => e = .returned (.bool true) ∧ Fr [] W' w') := Lib.hid (fun W' x c h hI => by
    have := esame_c W' s s n n hI (I1.keep h)
    rwa [decide_eq_true (⟨rfl, rfl⟩ : s = s ∧ n = n)] at this)
  have CC : Hid (∀ W', Fr [] W W' → Calls Tryd.prog 52 #[.agg #[.bool s, .slice a (lims n).length cap], .agg #[.bool s, .slice a (lims n).length cap]] W' fun e w' => e = .returned (.int .i64 0) ∧ Fr [] W' w') := Lib.hid (fun W' h => by
    have := ecmp_c W' s s n n (I1.keep h) (I1.keep h)
    have e : cmpP s n s n = 0 := by cases s <;> exact cmpN_eq n
    rwa [e] at this)
  have CQ : Hid (∀ W', Fr [] W W' → Calls Tryd.prog 45 #[.agg #[.bool s, .slice a (lims n).length cap], .agg #[.bool s2, .slice b (lims m).length cap2]] W' fun e w' => e = .returned (.tuple #[.agg #[.bool false, .slice none 0 0], .agg #[.bool false, .slice none 0 0], .int .i64 12]) ∧ Fr [] W' w') := Lib.hid (fun W' h => (equo_c W' s s2 n m (I1.keep h) (I2.keep h) hfn hfm).mono (fun e w' hr => by unfold QuoI at hr; rwa [if_pos hm] at hr))
  have hz : (((lims m).length : Int) == 0) = true := by rw [hm]; rfl
  clear I1 I2 hfn hfm hsn hm htx
  have FW : Hid (Fr [] W ((W.alloc (.cells #[.bool s, .slice a (lims n).length cap] 52)).alloc (.cells #[.bool s2, .slice b (lims m).length cap2] 52))) := Lib.hid (((Fr.refl [] W).alloc _).alloc _)
  have P := Lib.hid ((Bx.new W (.bool s) (.slice a (lims n).length cap)).fr ((Fr.refl [] _).alloc (.cells #[.bool s2, .slice b (lims m).length cap2] 52)))
  have fP0 := P.out.c0
  have fP1 := P.out.c1
  have fPl := P.out.lt
  have Q := Lib.hid ((Bx.new (W.alloc (.cells #[.bool s, .slice a (lims n).length cap] 52)) (.bool s2) (.slice b (lims m).length cap2)).eq (k' := W.heap.size + 1) (by simp))
  have fQ0 := Q.out.c0
  have fQ1 := Q.out.c1
  have fQl := Q.out.lt
  go_enter Tryd.func20, Tryd.ntmps20
  go_wp2_with fail
  refine (exactAlive_c _ (HT.out.fr FW.out)).mono ?_
  rintro e w1 ⟨rfl, F1⟩
  replace P := Lib.hid (P.out.fr F1)
  replace fP0 := P.out.c0
  replace fP1 := P.out.c1
  replace fPl := P.out.lt
  replace Q := Lib.hid (Q.out.fr F1)
  replace fQ0 := Q.out.c0
  replace fQ1 := Q.out.c1
  replace fQl := Q.out.lt
  replace FW := Lib.hid (FW.out.same F1)
  clear F1
  go_wp2_with fail
  refine (RA.out _ FW.out).mono ?_
  rintro e w2 ⟨rfl, F2⟩
  replace P := Lib.hid (P.out.fr F2)
  replace fP0 := P.out.c0
  replace fP1 := P.out.c1
  replace fPl := P.out.lt
  replace Q := Lib.hid (Q.out.fr F2)
  replace fQ0 := Q.out.c0
  replace fQ1 := Q.out.c1
  replace fQl := Q.out.lt
  replace FW := Lib.hid (FW.out.same F2)
  clear F2
  go_wp2_with fail
  refine (RB.out _ FW.out).mono ?_
  rintro e w3 ⟨rfl, F3⟩
  replace P := Lib.hid (P.out.fr F3)
  replace fP0 := P.out.c0
  replace fP1 := P.out.c1
  replace fPl := P.out.lt
  replace Q := Lib.hid (Q.out.fr F3)
  replace fQ0 := Q.out.c0
  replace fQ1 := Q.out.c1
  replace fQl := Q.out.lt
  replace FW := Lib.hid (FW.out.same F3)
  clear F3
  go_wp2_with fail
  clear RA RB HT
  refine (CT.out _ FW.out).mono ?_
  rintro e w4 ⟨rfl, F4⟩
  replace P := Lib.hid (P.out.fr F4)
  replace fP0 := P.out.c0
  replace fP1 := P.out.c1
  replace fPl := P.out.lt
  replace Q := Lib.hid (Q.out.fr F4)
  replace fQ0 := Q.out.c0
  replace fQ1 := Q.out.c1
  replace fQl := Q.out.lt
  replace FW := Lib.hid (FW.out.same F4)
  clear F4
  go_wp2_with fail
  refine (CP.out _).mono ?_
  rintro e w5 ⟨aT, cT, rfl, IT, F5⟩
  replace P := Lib.hid (P.out.fr (F5.alloc (.cells #[.bool s, .slice aT (lims n).length cT] 52)))
  replace fP0 := P.out.c0
  replace fP1 := P.out.c1
  replace fPl := P.out.lt
  replace Q := Lib.hid (Q.out.fr (F5.alloc (.cells #[.bool s, .slice aT (lims n).length cT] 52)))
  replace fQ0 := Q.out.c0
  replace fQ1 := Q.out.c1
  replace fQl := Q.out.lt
  replace FW := Lib.hid (FW.out.same (F5.alloc (.cells #[.bool s, .slice aT (lims n).length cT] 52)))
  have IT := Lib.hid (IT.keep ((Fr.refl [] _).alloc (.cells #[.bool s, .slice aT (lims n).length cT] 52)))
  have BT := Lib.hid (Bx.new w5 (.bool s) (.slice aT (lims n).length cT))
  have fBT0 := BT.out.c0
  have fBT1 := BT.out.c1
  have fBTl := BT.out.lt
  clear F5
  go_wp2_with fail
  refine (CS.out _ _ _ FW.out IT.out).mono ?_
  rintro e w6 ⟨rfl, F6⟩
  replace P := Lib.hid (P.out.fr F6)
  replace fP0 := P.out.c0
  replace fP1 := P.out.c1
  replace fPl := P.out.lt
  replace Q := Lib.hid (Q.out.fr F6)
  replace fQ0 := Q.out.c0
  replace fQ1 := Q.out.c1
  replace fQl := Q.out.lt
  replace BT := Lib.hid (BT.out.fr F6)
  replace fBT0 := BT.out.c0
  replace fBT1 := BT.out.c1
  replace fBTl := BT.out.lt
  replace IT := Lib.hid (IT.out.keep F6)
  replace FW := Lib.hid (FW.out.same F6)
  clear F6
  go_wp2_with fail
  refine (CC.out _ FW.out).mono ?_
  rintro e w7 ⟨rfl, F7⟩
  replace P := Lib.hid (P.out.fr F7)
  replace fP0 := P.out.c0
  replace fP1 := P.out.c1
  replace fPl := P.out.lt
  replace Q := Lib.hid (Q.out.fr F7)
  replace fQ0 := Q.out.c0
  replace fQ1 := Q.out.c1
  replace fQl := Q.out.lt
  replace BT := Lib.hid (BT.out.fr F7)
  replace fBT0 := BT.out.c0
  replace fBT1 := BT.out.c1
  replace fBTl := BT.out.lt
  replace IT := Lib.hid (IT.out.keep F7)
  replace FW := Lib.hid (FW.out.same F7)
  clear F7
  go_wp2_with fail
  refine (CQ.out _ FW.out).mono ?_
  rintro e w8 ⟨rfl, F8⟩
  replace P := Lib.hid (P.out.fr F8)
  replace fP0 := P.out.c0
  replace fP1 := P.out.c1
  replace fPl := P.out.lt
  replace Q := Lib.hid (Q.out.fr F8)
  replace fQ0 := Q.out.c0
  replace fQ1 := Q.out.c1
  replace fQl := Q.out.lt
  replace BT := Lib.hid (BT.out.fr F8)
  replace fBT0 := BT.out.c0
  replace fBT1 := BT.out.c1
  replace fBTl := BT.out.lt
  replace IT := Lib.hid (IT.out.keep F8)
  replace FW := Lib.hid (FW.out.same F8)
  clear F8
  go_wp2
  go_ret
  exact ⟨rfl, ((FW.out.alloc _).alloc _).below⟩
set_option maxRecDepth 100000 in
set_option maxHeartbeats 16000000 in
theorem walk_r0 (s : Bool) (a : Option Addr) (n cap : Nat) (s2 : Bool) (b : Option Addr) (m cap2 : Nat) (W : World) (I1 : In W a cap (lims n)) (I2 : In W b cap2 (lims m)) (hfn : fits n = true) (hfm : fits m = true) (hsn : s = true → n ≠ 0) (hm : m ≠ 0) (hr : n % m = 0) (hT : Tab W)
    (RA : Hid (∀ W', Fr [] W W' → Calls Tryd.prog 44 #[.agg #[.bool s, .slice a (lims n).length cap]] W' fun e w' => e = .returned (.bool true) ∧ Fr [] W' w')) (RB : Hid (∀ W', Fr [] W W' → Calls Tryd.prog 44 #[.agg #[.bool s2, .slice b (lims m).length cap2]] W' fun e w' => e = .returned (.bool true) ∧ Fr [] W' w')) :
    Calls Tryd.prog 20 #[.agg #[.bool s, .slice a (lims n).length cap], .agg #[.bool s2, .slice b (lims m).length cap2]] W fun e W' => e = .returned (.bool true) ∧ Below W.heap.size W W' := by
  have HT := Lib.hid hT
  clear hT
  obtain ⟨tx, htx⟩ : ∃ tx : ByteArray, tx = ⟨(textI s n).toArray⟩ := ⟨_, rfl⟩
  have CT : Hid (∀ W', Fr [] W W' → Calls Tryd.prog 58 #[.agg #[.bool s, .slice a (lims n).length cap]] W' fun e w' => e = .returned (.string tx) ∧ Fr [] W' w') := Lib.hid (fun W' h => by rw [htx]; exact etext_c W' s n (I1.keep h) (HT.out.fr h))
  have CP : Hid (∀ W', Calls Tryd.prog 56 #[.string tx] W' fun e w' => ∃ a c, e = .returned (.tuple #[.agg #[.bool s, .slice a (lims n).length c], .int .i64 0]) ∧ In w' a c (lims n) ∧ Fr [] W' w') := Lib.hid (fun W' => by
    have hl : (textI s n).length ≤ 100000 := by have := textOf_len n; unfold textI; split <;> simp <;> omega
    have := eparse_c W' (textI s n) hl
    rw [(cut_text hfn).1, (cut_text hfn).2, ← htx] at this
    refine this.mono ?_
    intro e w' h
    unfold ParseI at h
    rwa [parse_dec hfn, if_pos rfl, numOf_dec, sg_self hsn] at h)
  have CS : Hid (∀ W' x c, Fr [] W W' → In W' x c (lims n) → Calls Tryd.prog 53 #[.agg #[.bool s, .slice x (lims n).length c], .agg #[.bool s, .slice a (lims n).length cap]] W' fun e w' => e = .returned (.bool true) ∧ Fr [] W' w') := Lib.hid (fun W' x c h hI => by
    have := esame_c W' s s n n hI (I1.keep h)
    rwa [decide_eq_true (⟨rfl, rfl⟩ : s = s ∧ n = n)] at this)
  have CC : Hid (∀ W', Fr [] W W' → Calls Tryd.prog 52 #[.agg #[.bool s, .slice a (lims n).length cap], .agg #[.bool s, .slice a (lims n).length cap]] W' fun e w' => e = .returned (.int .i64 0) ∧ Fr [] W' w') := Lib.hid (fun W' h => by
    have := ecmp_c W' s s n n (I1.keep h) (I1.keep h)
    have e : cmpP s n s n = 0 := by cases s <;> exact cmpN_eq n
    rwa [e] at this)
  have hqm : n / m * m + n % m = n := by rw [Nat.mul_comm]; exact Nat.div_add_mod n m
  have hlt : n % m < m := Nat.mod_lt _ (Nat.pos_of_ne_zero hm)
  have sR : sg s (n % m) = false := by rw [hr, sg_zero]
  have eM : modP s n s2 m = (false, 0) := by unfold modP; rw [if_pos (.inl hr), hr, sg_zero]
  have sM : (modP s n s2 m).1 = false := by rw [eM]
  have hM0 : (modP s n s2 m).2 = 0 := by rw [eM]
  have CQ : Hid (∀ W', Fr [] W W' → Calls Tryd.prog 45 #[.agg #[.bool s, .slice a (lims n).length cap], .agg #[.bool s2, .slice b (lims m).length cap2]] W' fun e w' => ∃ a c a2 c2, e = .returned (.tuple #[.agg #[.bool (sg (s != s2) (n / m)), .slice a (lims (n / m)).length c], .agg #[.bool false, .slice a2 (lims (n % m)).length c2], .int .i64 0]) ∧ In w' a c (lims (n / m)) ∧ In w' a2 c2 (lims (n % m)) ∧ Fr [] W' w') := Lib.hid (fun W' h => (equo_c W' s s2 n m (I1.keep h) (I2.keep h) hfn hfm).mono (fun e w' hr2 => by unfold QuoI at hr2; rwa [if_neg hm, sR] at hr2))
  have CM : Hid (∀ W' x c, Fr [] W W' → In W' x c (lims (n / m)) → Calls Tryd.prog 66 #[.agg #[.bool (sg (s != s2) (n / m)), .slice x (lims (n / m)).length c], .agg #[.bool s2, .slice b (lims m).length cap2]] W' fun e w' => ∃ a c, e = .returned (.tuple #[.agg #[.bool (sg s (n / m * m)), .slice a (lims (n / m * m)).length c], .int .i64 0]) ∧ In w' a c (lims (n / m * m)) ∧ Fr [] W' w') := Lib.hid (fun W' x c h hI => by
    have := emul_c W' (sg (s != s2) (n / m)) s2 (n / m) m hI (I2.keep h) (fits_le (Nat.div_le_self n m) hfn) hfm
    unfold MulI at this
    rwa [fits_le (by omega : n / m * m ≤ n) hfn, back_mul s s2 _ _ hm] at this)
  have CA : Hid (∀ W' x c y d, In W' x c (lims (n / m * m)) → In W' y d (lims (n % m)) → Calls Tryd.prog 55 #[.agg #[.bool (sg s (n / m * m)), .slice x (lims (n / m * m)).length c], .agg #[.bool false, .slice y (lims (n % m)).length d]] W' fun e w' => ∃ a c, e = .returned (.tuple #[.agg #[.bool s, .slice a (lims n).length c], .int .i64 0]) ∧ In w' a c (lims n) ∧ Fr [] W' w') := Lib.hid (fun W' x c y d hI hJ => by
    have := eadd_c W' (sg s (n / m * m)) (sg s (n % m)) (n / m * m) (n % m) hI hJ (fits_le (by omega) hfn) (fits_le (by omega) hfn)
    unfold AddI at this
    rw [back_add hsn hqm, sR] at this
    rwa [hfn] at this)
  have CD : Hid (∀ W', Fr [] W W' → Calls Tryd.prog 46 #[.agg #[.bool s, .slice a (lims n).length cap], .agg #[.bool s2, .slice b (lims m).length cap2]] W' fun e w' => ∃ a c, e = .returned (.tuple #[.agg #[.bool false, .slice a (lims (modP s n s2 m).2).length c], .int .i64 0]) ∧ In w' a c (lims (modP s n s2 m).2) ∧ Fr [] W' w') := Lib.hid (fun W' h => (emod_c W' s s2 n m (I1.keep h) (I2.keep h) hfn hfm).mono (fun e w' hr2 => by unfold ModI at hr2; rwa [if_neg hm, sM] at hr2))
  have hz : (((lims (n % m)).length : Int) == 0) = true := by rw [hr]; rfl
  have hzp : ¬ (0 : Int) < ((lims (n % m)).length : Int) := by rw [hr]; decide
  have hy : (((lims (modP s n s2 m).2).length : Int) == 0) = true := by rw [hM0]; rfl
  clear eM
  generalize (modP s n s2 m).2 = nM at *
  generalize sg (s != s2) (n / m) = bQ at *
  generalize sg s (n / m * m) = bP at *
  generalize n / m * m = nP at *
  generalize n / m = nQ at *
  generalize sg s (n % m) = bR at *
  generalize n % m = nR at *
  clear I1 I2 hfn hfm hsn hm hr htx hqm hlt sR sM hM0
  have FW : Hid (Fr [] W ((W.alloc (.cells #[.bool s, .slice a (lims n).length cap] 52)).alloc (.cells #[.bool s2, .slice b (lims m).length cap2] 52))) := Lib.hid (((Fr.refl [] W).alloc _).alloc _)
  have P := Lib.hid ((Bx.new W (.bool s) (.slice a (lims n).length cap)).fr ((Fr.refl [] _).alloc (.cells #[.bool s2, .slice b (lims m).length cap2] 52)))
  have fP0 := P.out.c0
  have fP1 := P.out.c1
  have fPl := P.out.lt
  have Q := Lib.hid ((Bx.new (W.alloc (.cells #[.bool s, .slice a (lims n).length cap] 52)) (.bool s2) (.slice b (lims m).length cap2)).eq (k' := W.heap.size + 1) (by simp))
  have fQ0 := Q.out.c0
  have fQ1 := Q.out.c1
  have fQl := Q.out.lt
  go_enter Tryd.func20, Tryd.ntmps20
  go_wp2_with fail
  refine (exactAlive_c _ (HT.out.fr FW.out)).mono ?_
  rintro e w1 ⟨rfl, F1⟩
  replace P := Lib.hid (P.out.fr F1)
  replace fP0 := P.out.c0
  replace fP1 := P.out.c1
  replace fPl := P.out.lt
  replace Q := Lib.hid (Q.out.fr F1)
  replace fQ0 := Q.out.c0
  replace fQ1 := Q.out.c1
  replace fQl := Q.out.lt
  replace FW := Lib.hid (FW.out.same F1)
  clear F1
  go_wp2_with fail
  refine (RA.out _ FW.out).mono ?_
  rintro e w2 ⟨rfl, F2⟩
  replace P := Lib.hid (P.out.fr F2)
  replace fP0 := P.out.c0
  replace fP1 := P.out.c1
  replace fPl := P.out.lt
  replace Q := Lib.hid (Q.out.fr F2)
  replace fQ0 := Q.out.c0
  replace fQ1 := Q.out.c1
  replace fQl := Q.out.lt
  replace FW := Lib.hid (FW.out.same F2)
  clear F2
  go_wp2_with fail
  refine (RB.out _ FW.out).mono ?_
  rintro e w3 ⟨rfl, F3⟩
  replace P := Lib.hid (P.out.fr F3)
  replace fP0 := P.out.c0
  replace fP1 := P.out.c1
  replace fPl := P.out.lt
  replace Q := Lib.hid (Q.out.fr F3)
  replace fQ0 := Q.out.c0
  replace fQ1 := Q.out.c1
  replace fQl := Q.out.lt
  replace FW := Lib.hid (FW.out.same F3)
  clear F3
  go_wp2_with fail
  clear RA RB HT
  refine (CT.out _ FW.out).mono ?_
  rintro e w4 ⟨rfl, F4⟩
  replace P := Lib.hid (P.out.fr F4)
  replace fP0 := P.out.c0
  replace fP1 := P.out.c1
  replace fPl := P.out.lt
  replace Q := Lib.hid (Q.out.fr F4)
  replace fQ0 := Q.out.c0
  replace fQ1 := Q.out.c1
  replace fQl := Q.out.lt
  replace FW := Lib.hid (FW.out.same F4)
  clear F4
  go_wp2_with fail
  refine (CP.out _).mono ?_
  rintro e w5 ⟨aT, cT, rfl, IT, F5⟩
  replace P := Lib.hid (P.out.fr (F5.alloc (.cells #[.bool s, .slice aT (lims n).length cT] 52)))
  replace fP0 := P.out.c0
  replace fP1 := P.out.c1
  replace fPl := P.out.lt
  replace Q := Lib.hid (Q.out.fr (F5.alloc (.cells #[.bool s, .slice aT (lims n).length cT] 52)))
  replace fQ0 := Q.out.c0
  replace fQ1 := Q.out.c1
  replace fQl := Q.out.lt
  replace FW := Lib.hid (FW.out.same (F5.alloc (.cells #[.bool s, .slice aT (lims n).length cT] 52)))
  have IT := Lib.hid (IT.keep ((Fr.refl [] _).alloc (.cells #[.bool s, .slice aT (lims n).length cT] 52)))
  have BT := Lib.hid (Bx.new w5 (.bool s) (.slice aT (lims n).length cT))
  have fBT0 := BT.out.c0
  have fBT1 := BT.out.c1
  have fBTl := BT.out.lt
  clear F5
  go_wp2_with fail
  refine (CS.out _ _ _ FW.out IT.out).mono ?_
  rintro e w6 ⟨rfl, F6⟩
  replace P := Lib.hid (P.out.fr F6)
  replace fP0 := P.out.c0
  replace fP1 := P.out.c1
  replace fPl := P.out.lt
  replace Q := Lib.hid (Q.out.fr F6)
  replace fQ0 := Q.out.c0
  replace fQ1 := Q.out.c1
  replace fQl := Q.out.lt
  replace BT := Lib.hid (BT.out.fr F6)
  replace fBT0 := BT.out.c0
  replace fBT1 := BT.out.c1
  replace fBTl := BT.out.lt
  replace IT := Lib.hid (IT.out.keep F6)
  replace FW := Lib.hid (FW.out.same F6)
  clear F6
  go_wp2_with fail
  refine (CC.out _ FW.out).mono ?_
  rintro e w7 ⟨rfl, F7⟩
  replace P := Lib.hid (P.out.fr F7)
  replace fP0 := P.out.c0
  replace fP1 := P.out.c1
  replace fPl := P.out.lt
  replace Q := Lib.hid (Q.out.fr F7)
  replace fQ0 := Q.out.c0
  replace fQ1 := Q.out.c1
  replace fQl := Q.out.lt
  replace BT := Lib.hid (BT.out.fr F7)
  replace fBT0 := BT.out.c0
  replace fBT1 := BT.out.c1
  replace fBTl := BT.out.lt
  replace IT := Lib.hid (IT.out.keep F7)
  replace FW := Lib.hid (FW.out.same F7)
  clear F7
  go_wp2_with fail
  refine (CQ.out _ FW.out).mono ?_
  rintro e w8 ⟨aQ, cQ, aR, cR, rfl, IQ, IR, F8⟩
  replace P := Lib.hid (P.out.fr ((F8.alloc (.cells #[.bool bQ, .slice aQ (lims nQ).length cQ] 52)).alloc (.cells #[.bool false, .slice aR (lims nR).length cR] 52)))
  replace fP0 := P.out.c0
  replace fP1 := P.out.c1
  replace fPl := P.out.lt
  replace Q := Lib.hid (Q.out.fr ((F8.alloc (.cells #[.bool bQ, .slice aQ (lims nQ).length cQ] 52)).alloc (.cells #[.bool false, .slice aR (lims nR).length cR] 52)))
  replace fQ0 := Q.out.c0
  replace fQ1 := Q.out.c1
  replace fQl := Q.out.lt
  replace BT := Lib.hid (BT.out.fr ((F8.alloc (.cells #[.bool bQ, .slice aQ (lims nQ).length cQ] 52)).alloc (.cells #[.bool false, .slice aR (lims nR).length cR] 52)))
  replace fBT0 := BT.out.c0
  replace fBT1 := BT.out.c1
  replace fBTl := BT.out.lt
  replace IT := Lib.hid (IT.out.keep ((F8.alloc (.cells #[.bool bQ, .slice aQ (lims nQ).length cQ] 52)).alloc (.cells #[.bool false, .slice aR (lims nR).length cR] 52)))
  replace FW := Lib.hid (FW.out.same ((F8.alloc (.cells #[.bool bQ, .slice aQ (lims nQ).length cQ] 52)).alloc (.cells #[.bool false, .slice aR (lims nR).length cR] 52)))
  have IQ := Lib.hid (IQ.keep (((Fr.refl [] _).alloc (.cells #[.bool bQ, .slice aQ (lims nQ).length cQ] 52)).alloc (.cells #[.bool false, .slice aR (lims nR).length cR] 52)))
  have IR := Lib.hid (IR.keep (((Fr.refl [] _).alloc (.cells #[.bool bQ, .slice aQ (lims nQ).length cQ] 52)).alloc (.cells #[.bool false, .slice aR (lims nR).length cR] 52)))
  have BQ := Lib.hid ((Bx.new w8 (.bool bQ) (.slice aQ (lims nQ).length cQ)).fr ((Fr.refl [] _).alloc (.cells #[.bool false, .slice aR (lims nR).length cR] 52)))
  have fBQ0 := BQ.out.c0
  have fBQ1 := BQ.out.c1
  have fBQl := BQ.out.lt
  have BR := Lib.hid ((Bx.new (w8.alloc (.cells #[.bool bQ, .slice aQ (lims nQ).length cQ] 52)) (.bool false) (.slice aR (lims nR).length cR)).eq (k' := w8.heap.size + 1) (by simp))
  have fBR0 := BR.out.c0
  have fBR1 := BR.out.c1
  have fBRl := BR.out.lt
  clear F8
  go_wp2_with fail
  refine (CM.out _ _ _ FW.out IQ.out).mono ?_
  rintro e w9 ⟨aP, cP, rfl, IP, F9⟩
  replace P := Lib.hid (P.out.fr (F9.alloc (.cells #[.bool bP, .slice aP (lims nP).length cP] 52)))
  replace fP0 := P.out.c0
  replace fP1 := P.out.c1
  replace fPl := P.out.lt
  replace Q := Lib.hid (Q.out.fr (F9.alloc (.cells #[.bool bP, .slice aP (lims nP).length cP] 52)))
  replace fQ0 := Q.out.c0
  replace fQ1 := Q.out.c1
  replace fQl := Q.out.lt
  replace BT := Lib.hid (BT.out.fr (F9.alloc (.cells #[.bool bP, .slice aP (lims nP).length cP] 52)))
  replace fBT0 := BT.out.c0
  replace fBT1 := BT.out.c1
  replace fBTl := BT.out.lt
  replace BQ := Lib.hid (BQ.out.fr (F9.alloc (.cells #[.bool bP, .slice aP (lims nP).length cP] 52)))
  replace fBQ0 := BQ.out.c0
  replace fBQ1 := BQ.out.c1
  replace fBQl := BQ.out.lt
  replace BR := Lib.hid (BR.out.fr (F9.alloc (.cells #[.bool bP, .slice aP (lims nP).length cP] 52)))
  replace fBR0 := BR.out.c0
  replace fBR1 := BR.out.c1
  replace fBRl := BR.out.lt
  replace IT := Lib.hid (IT.out.keep (F9.alloc (.cells #[.bool bP, .slice aP (lims nP).length cP] 52)))
  replace IQ := Lib.hid (IQ.out.keep (F9.alloc (.cells #[.bool bP, .slice aP (lims nP).length cP] 52)))
  replace IR := Lib.hid (IR.out.keep (F9.alloc (.cells #[.bool bP, .slice aP (lims nP).length cP] 52)))
  replace FW := Lib.hid (FW.out.same (F9.alloc (.cells #[.bool bP, .slice aP (lims nP).length cP] 52)))
  have IP := Lib.hid (IP.keep ((Fr.refl [] _).alloc (.cells #[.bool bP, .slice aP (lims nP).length cP] 52)))
  have BP := Lib.hid (Bx.new w9 (.bool bP) (.slice aP (lims nP).length cP))
  have fBP0 := BP.out.c0
  have fBP1 := BP.out.c1
  have fBPl := BP.out.lt
  clear F9
  go_wp2_with fail
  refine (CA.out _ _ _ _ _ IP.out IR.out).mono ?_
  rintro e w10 ⟨aS, cS, rfl, IS, F10⟩
  replace P := Lib.hid (P.out.fr (F10.alloc (.cells #[.bool s, .slice aS (lims n).length cS] 52)))
  replace fP0 := P.out.c0
  replace fP1 := P.out.c1
  replace fPl := P.out.lt
  replace Q := Lib.hid (Q.out.fr (F10.alloc (.cells #[.bool s, .slice aS (lims n).length cS] 52)))
  replace fQ0 := Q.out.c0
  replace fQ1 := Q.out.c1
  replace fQl := Q.out.lt
  replace BT := Lib.hid (BT.out.fr (F10.alloc (.cells #[.bool s, .slice aS (lims n).length cS] 52)))
  replace fBT0 := BT.out.c0
  replace fBT1 := BT.out.c1
  replace fBTl := BT.out.lt
  replace BQ := Lib.hid (BQ.out.fr (F10.alloc (.cells #[.bool s, .slice aS (lims n).length cS] 52)))
  replace fBQ0 := BQ.out.c0
  replace fBQ1 := BQ.out.c1
  replace fBQl := BQ.out.lt
  replace BR := Lib.hid (BR.out.fr (F10.alloc (.cells #[.bool s, .slice aS (lims n).length cS] 52)))
  replace fBR0 := BR.out.c0
  replace fBR1 := BR.out.c1
  replace fBRl := BR.out.lt
  replace BP := Lib.hid (BP.out.fr (F10.alloc (.cells #[.bool s, .slice aS (lims n).length cS] 52)))
  replace fBP0 := BP.out.c0
  replace fBP1 := BP.out.c1
  replace fBPl := BP.out.lt
  replace IT := Lib.hid (IT.out.keep (F10.alloc (.cells #[.bool s, .slice aS (lims n).length cS] 52)))
  replace IQ := Lib.hid (IQ.out.keep (F10.alloc (.cells #[.bool s, .slice aS (lims n).length cS] 52)))
  replace IR := Lib.hid (IR.out.keep (F10.alloc (.cells #[.bool s, .slice aS (lims n).length cS] 52)))
  replace IP := Lib.hid (IP.out.keep (F10.alloc (.cells #[.bool s, .slice aS (lims n).length cS] 52)))
  replace FW := Lib.hid (FW.out.same (F10.alloc (.cells #[.bool s, .slice aS (lims n).length cS] 52)))
  have IS := Lib.hid (IS.keep ((Fr.refl [] _).alloc (.cells #[.bool s, .slice aS (lims n).length cS] 52)))
  have BS := Lib.hid (Bx.new w10 (.bool s) (.slice aS (lims n).length cS))
  have fBS0 := BS.out.c0
  have fBS1 := BS.out.c1
  have fBSl := BS.out.lt
  clear F10
  go_wp2_with fail
  refine (CD.out _ FW.out).mono ?_
  rintro e w11 ⟨aM, cM, rfl, IM, F11⟩
  replace P := Lib.hid (P.out.fr (F11.alloc (.cells #[.bool false, .slice aM (lims nM).length cM] 52)))
  replace fP0 := P.out.c0
  replace fP1 := P.out.c1
  replace fPl := P.out.lt
  replace Q := Lib.hid (Q.out.fr (F11.alloc (.cells #[.bool false, .slice aM (lims nM).length cM] 52)))
  replace fQ0 := Q.out.c0
  replace fQ1 := Q.out.c1
  replace fQl := Q.out.lt
  replace BT := Lib.hid (BT.out.fr (F11.alloc (.cells #[.bool false, .slice aM (lims nM).length cM] 52)))
  replace fBT0 := BT.out.c0
  replace fBT1 := BT.out.c1
  replace fBTl := BT.out.lt
  replace BQ := Lib.hid (BQ.out.fr (F11.alloc (.cells #[.bool false, .slice aM (lims nM).length cM] 52)))
  replace fBQ0 := BQ.out.c0
  replace fBQ1 := BQ.out.c1
  replace fBQl := BQ.out.lt
  replace BR := Lib.hid (BR.out.fr (F11.alloc (.cells #[.bool false, .slice aM (lims nM).length cM] 52)))
  replace fBR0 := BR.out.c0
  replace fBR1 := BR.out.c1
  replace fBRl := BR.out.lt
  replace BP := Lib.hid (BP.out.fr (F11.alloc (.cells #[.bool false, .slice aM (lims nM).length cM] 52)))
  replace fBP0 := BP.out.c0
  replace fBP1 := BP.out.c1
  replace fBPl := BP.out.lt
  replace BS := Lib.hid (BS.out.fr (F11.alloc (.cells #[.bool false, .slice aM (lims nM).length cM] 52)))
  replace fBS0 := BS.out.c0
  replace fBS1 := BS.out.c1
  replace fBSl := BS.out.lt
  replace IT := Lib.hid (IT.out.keep (F11.alloc (.cells #[.bool false, .slice aM (lims nM).length cM] 52)))
  replace IQ := Lib.hid (IQ.out.keep (F11.alloc (.cells #[.bool false, .slice aM (lims nM).length cM] 52)))
  replace IR := Lib.hid (IR.out.keep (F11.alloc (.cells #[.bool false, .slice aM (lims nM).length cM] 52)))
  replace IP := Lib.hid (IP.out.keep (F11.alloc (.cells #[.bool false, .slice aM (lims nM).length cM] 52)))
  replace IS := Lib.hid (IS.out.keep (F11.alloc (.cells #[.bool false, .slice aM (lims nM).length cM] 52)))
  replace FW := Lib.hid (FW.out.same (F11.alloc (.cells #[.bool false, .slice aM (lims nM).length cM] 52)))
  have IM := Lib.hid (IM.keep ((Fr.refl [] _).alloc (.cells #[.bool false, .slice aM (lims nM).length cM] 52)))
  have BM := Lib.hid (Bx.new w11 (.bool false) (.slice aM (lims nM).length cM))
  have fBM0 := BM.out.c0
  have fBM1 := BM.out.c1
  have fBMl := BM.out.lt
  clear F11
  go_wp2_with fail
  refine (CS.out _ _ _ FW.out IS.out).mono ?_
  rintro e w12 ⟨rfl, F12⟩
  replace P := Lib.hid (P.out.fr F12)
  replace fP0 := P.out.c0
  replace fP1 := P.out.c1
  replace fPl := P.out.lt
  replace Q := Lib.hid (Q.out.fr F12)
  replace fQ0 := Q.out.c0
  replace fQ1 := Q.out.c1
  replace fQl := Q.out.lt
  replace BT := Lib.hid (BT.out.fr F12)
  replace fBT0 := BT.out.c0
  replace fBT1 := BT.out.c1
  replace fBTl := BT.out.lt
  replace BQ := Lib.hid (BQ.out.fr F12)
  replace fBQ0 := BQ.out.c0
  replace fBQ1 := BQ.out.c1
  replace fBQl := BQ.out.lt
  replace BR := Lib.hid (BR.out.fr F12)
  replace fBR0 := BR.out.c0
  replace fBR1 := BR.out.c1
  replace fBRl := BR.out.lt
  replace BP := Lib.hid (BP.out.fr F12)
  replace fBP0 := BP.out.c0
  replace fBP1 := BP.out.c1
  replace fBPl := BP.out.lt
  replace BS := Lib.hid (BS.out.fr F12)
  replace fBS0 := BS.out.c0
  replace fBS1 := BS.out.c1
  replace fBSl := BS.out.lt
  replace BM := Lib.hid (BM.out.fr F12)
  replace fBM0 := BM.out.c0
  replace fBM1 := BM.out.c1
  replace fBMl := BM.out.lt
  replace IT := Lib.hid (IT.out.keep F12)
  replace IQ := Lib.hid (IQ.out.keep F12)
  replace IR := Lib.hid (IR.out.keep F12)
  replace IP := Lib.hid (IP.out.keep F12)
  replace IS := Lib.hid (IS.out.keep F12)
  replace IM := Lib.hid (IM.out.keep F12)
  replace FW := Lib.hid (FW.out.same F12)
  clear F12
  go_wp2
  go_ret
  exact ⟨rfl, FW.out.below⟩
set_option maxRecDepth 100000 in
set_option maxHeartbeats 16000000 in
theorem walk_r1 (s : Bool) (a : Option Addr) (n cap : Nat) (s2 : Bool) (b : Option Addr) (m cap2 : Nat) (W : World) (I1 : In W a cap (lims n)) (I2 : In W b cap2 (lims m)) (hfn : fits n = true) (hfm : fits m = true) (hsn : s = true → n ≠ 0) (hm : m ≠ 0) (hr : n % m ≠ 0) (hT : Tab W)
    (RA : Hid (∀ W', Fr [] W W' → Calls Tryd.prog 44 #[.agg #[.bool s, .slice a (lims n).length cap]] W' fun e w' => e = .returned (.bool true) ∧ Fr [] W' w')) (RB : Hid (∀ W', Fr [] W W' → Calls Tryd.prog 44 #[.agg #[.bool s2, .slice b (lims m).length cap2]] W' fun e w' => e = .returned (.bool true) ∧ Fr [] W' w')) :
    Calls Tryd.prog 20 #[.agg #[.bool s, .slice a (lims n).length cap], .agg #[.bool s2, .slice b (lims m).length cap2]] W fun e W' => e = .returned (.bool true) ∧ Below W.heap.size W W' := by
  have HT := Lib.hid hT
  clear hT
  obtain ⟨tx, htx⟩ : ∃ tx : ByteArray, tx = ⟨(textI s n).toArray⟩ := ⟨_, rfl⟩
  have CT : Hid (∀ W', Fr [] W W' → Calls Tryd.prog 58 #[.agg #[.bool s, .slice a (lims n).length cap]] W' fun e w' => e = .returned (.string tx) ∧ Fr [] W' w') := Lib.hid (fun W' h => by rw [htx]; exact etext_c W' s n (I1.keep h) (HT.out.fr h))
  have CP : Hid (∀ W', Calls Tryd.prog 56 #[.string tx] W' fun e w' => ∃ a c, e = .returned (.tuple #[.agg #[.bool s, .slice a (lims n).length c], .int .i64 0]) ∧ In w' a c (lims n) ∧ Fr [] W' w') := Lib.hid (fun W' => by
    have hl : (textI s n).length ≤ 100000 := by have := textOf_len n; unfold textI; split <;> simp <;> omega
    have := eparse_c W' (textI s n) hl
    rw [(cut_text hfn).1, (cut_text hfn).2, ← htx] at this
    refine this.mono ?_
    intro e w' h
    unfold ParseI at h
    rwa [parse_dec hfn, if_pos rfl, numOf_dec, sg_self hsn] at h)
  have CS : Hid (∀ W' x c, Fr [] W W' → In W' x c (lims n) → Calls Tryd.prog 53 #[.agg #[.bool s, .slice x (lims n).length c], .agg #[.bool s, .slice a (lims n).length cap]] W' fun e w' => e = .returned (.bool true) ∧ Fr [] W' w') := Lib.hid (fun W' x c h hI => by
    have := esame_c W' s s n n hI (I1.keep h)
    rwa [decide_eq_true (⟨rfl, rfl⟩ : s = s ∧ n = n)] at this)
  have CC : Hid (∀ W', Fr [] W W' → Calls Tryd.prog 52 #[.agg #[.bool s, .slice a (lims n).length cap], .agg #[.bool s, .slice a (lims n).length cap]] W' fun e w' => e = .returned (.int .i64 0) ∧ Fr [] W' w') := Lib.hid (fun W' h => by
    have := ecmp_c W' s s n n (I1.keep h) (I1.keep h)
    have e : cmpP s n s n = 0 := by cases s <;> exact cmpN_eq n
    rwa [e] at this)
  have hqm : n / m * m + n % m = n := by rw [Nat.mul_comm]; exact Nat.div_add_mod n m
  have hlt : n % m < m := Nat.mod_lt _ (Nat.pos_of_ne_zero hm)
  have sR : sg s (n % m) = s := by rw [sg_pos _ hr]
  have hM : (modP s n s2 m).1 = s2 ∧ (modP s n s2 m).2 ≠ 0 ∧ (modP s n s2 m).2 < m := by
    unfold modP
    by_cases h : n % m = 0 ∨ sg s (n % m) = s2
    · rw [if_pos h]; exact ⟨h.resolve_left hr, hr, hlt⟩
    · rw [if_neg h, addP_lt (fun e => h (.inr e)) (by omega)]
      exact ⟨sg_pos _ (by omega), by show m - n % m ≠ 0; omega, by show m - n % m < m; omega⟩
  have sM := hM.1
  have hM0 := hM.2.1
  have hMl := hM.2.2
  have CQ : Hid (∀ W', Fr [] W W' → Calls Tryd.prog 45 #[.agg #[.bool s, .slice a (lims n).length cap], .agg #[.bool s2, .slice b (lims m).length cap2]] W' fun e w' => ∃ a c a2 c2, e = .returned (.tuple #[.agg #[.bool (sg (s != s2) (n / m)), .slice a (lims (n / m)).length c], .agg #[.bool s, .slice a2 (lims (n % m)).length c2], .int .i64 0]) ∧ In w' a c (lims (n / m)) ∧ In w' a2 c2 (lims (n % m)) ∧ Fr [] W' w') := Lib.hid (fun W' h => (equo_c W' s s2 n m (I1.keep h) (I2.keep h) hfn hfm).mono (fun e w' hr2 => by unfold QuoI at hr2; rwa [if_neg hm, sR] at hr2))
  have CM : Hid (∀ W' x c, Fr [] W W' → In W' x c (lims (n / m)) → Calls Tryd.prog 66 #[.agg #[.bool (sg (s != s2) (n / m)), .slice x (lims (n / m)).length c], .agg #[.bool s2, .slice b (lims m).length cap2]] W' fun e w' => ∃ a c, e = .returned (.tuple #[.agg #[.bool (sg s (n / m * m)), .slice a (lims (n / m * m)).length c], .int .i64 0]) ∧ In w' a c (lims (n / m * m)) ∧ Fr [] W' w') := Lib.hid (fun W' x c h hI => by
    have := emul_c W' (sg (s != s2) (n / m)) s2 (n / m) m hI (I2.keep h) (fits_le (Nat.div_le_self n m) hfn) hfm
    unfold MulI at this
    rwa [fits_le (by omega : n / m * m ≤ n) hfn, back_mul s s2 _ _ hm] at this)
  have CA : Hid (∀ W' x c y d, In W' x c (lims (n / m * m)) → In W' y d (lims (n % m)) → Calls Tryd.prog 55 #[.agg #[.bool (sg s (n / m * m)), .slice x (lims (n / m * m)).length c], .agg #[.bool s, .slice y (lims (n % m)).length d]] W' fun e w' => ∃ a c, e = .returned (.tuple #[.agg #[.bool s, .slice a (lims n).length c], .int .i64 0]) ∧ In w' a c (lims n) ∧ Fr [] W' w') := Lib.hid (fun W' x c y d hI hJ => by
    have := eadd_c W' (sg s (n / m * m)) (sg s (n % m)) (n / m * m) (n % m) hI hJ (fits_le (by omega) hfn) (fits_le (by omega) hfn)
    unfold AddI at this
    rw [back_add hsn hqm, sR] at this
    rwa [hfn] at this)
  have CD : Hid (∀ W', Fr [] W W' → Calls Tryd.prog 46 #[.agg #[.bool s, .slice a (lims n).length cap], .agg #[.bool s2, .slice b (lims m).length cap2]] W' fun e w' => ∃ a c, e = .returned (.tuple #[.agg #[.bool s2, .slice a (lims (modP s n s2 m).2).length c], .int .i64 0]) ∧ In w' a c (lims (modP s n s2 m).2) ∧ Fr [] W' w') := Lib.hid (fun W' h => (emod_c W' s s2 n m (I1.keep h) (I2.keep h) hfn hfm).mono (fun e w' hr2 => by unfold ModI at hr2; rwa [if_neg hm, sM] at hr2))
  have CK : Hid (∀ W' x c, Fr [] W W' → In W' x c (lims (modP s n s2 m).2) → Calls Tryd.prog 52 #[.agg #[.bool false, .slice x (lims (modP s n s2 m).2).length c], .agg #[.bool false, .slice b (lims m).length cap2]] W' fun e w' => e = .returned (.int .i64 (-1)) ∧ Fr [] W' w') := Lib.hid (fun W' x c h hI => by
    have := ecmp_c W' false false (modP s n s2 m).2 m hI (I2.keep h)
    have e : cmpP false (modP s n s2 m).2 false m = -1 := cmpN_lt hMl
    rwa [e] at this)
  have hz : (((lims (n % m)).length : Int) == 0) = false := by have := lims_len_pos.2 hr; rw [beq_eq_false_iff_ne]; omega
  have hzp : (0 : Int) < ((lims (n % m)).length : Int) := by have := lims_len_pos.2 hr; omega
  have hy : (((lims (modP s n s2 m).2).length : Int) == 0) = false := by have := lims_len_pos.2 hM0; rw [beq_eq_false_iff_ne]; omega
  have hyp : (0 : Int) < ((lims (modP s n s2 m).2).length : Int) := by have := lims_len_pos.2 hM0; omega
  have ES : (s == s) = true := beq_self_eq_true s
  have ES2 : (s2 == s2) = true := beq_self_eq_true s2
  clear hM hMl
  generalize (modP s n s2 m).2 = nM at *
  generalize sg (s != s2) (n / m) = bQ at *
  generalize sg s (n / m * m) = bP at *
  generalize n / m * m = nP at *
  generalize n / m = nQ at *
  generalize sg s (n % m) = bR at *
  generalize n % m = nR at *
  clear I1 I2 hfn hfm hsn hm hr htx hqm hlt sR sM hM0
  have FW : Hid (Fr [] W ((W.alloc (.cells #[.bool s, .slice a (lims n).length cap] 52)).alloc (.cells #[.bool s2, .slice b (lims m).length cap2] 52))) := Lib.hid (((Fr.refl [] W).alloc _).alloc _)
  have P := Lib.hid ((Bx.new W (.bool s) (.slice a (lims n).length cap)).fr ((Fr.refl [] _).alloc (.cells #[.bool s2, .slice b (lims m).length cap2] 52)))
  have fP0 := P.out.c0
  have fP1 := P.out.c1
  have fPl := P.out.lt
  have Q := Lib.hid ((Bx.new (W.alloc (.cells #[.bool s, .slice a (lims n).length cap] 52)) (.bool s2) (.slice b (lims m).length cap2)).eq (k' := W.heap.size + 1) (by simp))
  have fQ0 := Q.out.c0
  have fQ1 := Q.out.c1
  have fQl := Q.out.lt
  go_enter Tryd.func20, Tryd.ntmps20
  go_wp2_with fail
  refine (exactAlive_c _ (HT.out.fr FW.out)).mono ?_
  rintro e w1 ⟨rfl, F1⟩
  replace P := Lib.hid (P.out.fr F1)
  replace fP0 := P.out.c0
  replace fP1 := P.out.c1
  replace fPl := P.out.lt
  replace Q := Lib.hid (Q.out.fr F1)
  replace fQ0 := Q.out.c0
  replace fQ1 := Q.out.c1
  replace fQl := Q.out.lt
  replace FW := Lib.hid (FW.out.same F1)
  clear F1
  go_wp2_with fail
  refine (RA.out _ FW.out).mono ?_
  rintro e w2 ⟨rfl, F2⟩
  replace P := Lib.hid (P.out.fr F2)
  replace fP0 := P.out.c0
  replace fP1 := P.out.c1
  replace fPl := P.out.lt
  replace Q := Lib.hid (Q.out.fr F2)
  replace fQ0 := Q.out.c0
  replace fQ1 := Q.out.c1
  replace fQl := Q.out.lt
  replace FW := Lib.hid (FW.out.same F2)
  clear F2
  go_wp2_with fail
  refine (RB.out _ FW.out).mono ?_
  rintro e w3 ⟨rfl, F3⟩
  replace P := Lib.hid (P.out.fr F3)
  replace fP0 := P.out.c0
  replace fP1 := P.out.c1
  replace fPl := P.out.lt
  replace Q := Lib.hid (Q.out.fr F3)
  replace fQ0 := Q.out.c0
  replace fQ1 := Q.out.c1
  replace fQl := Q.out.lt
  replace FW := Lib.hid (FW.out.same F3)
  clear F3
  go_wp2_with fail
  clear RA RB HT
  refine (CT.out _ FW.out).mono ?_
  rintro e w4 ⟨rfl, F4⟩
  replace P := Lib.hid (P.out.fr F4)
  replace fP0 := P.out.c0
  replace fP1 := P.out.c1
  replace fPl := P.out.lt
  replace Q := Lib.hid (Q.out.fr F4)
  replace fQ0 := Q.out.c0
  replace fQ1 := Q.out.c1
  replace fQl := Q.out.lt
  replace FW := Lib.hid (FW.out.same F4)
  clear F4
  go_wp2_with fail
  refine (CP.out _).mono ?_
  rintro e w5 ⟨aT, cT, rfl, IT, F5⟩
  replace P := Lib.hid (P.out.fr (F5.alloc (.cells #[.bool s, .slice aT (lims n).length cT] 52)))
  replace fP0 := P.out.c0
  replace fP1 := P.out.c1
  replace fPl := P.out.lt
  replace Q := Lib.hid (Q.out.fr (F5.alloc (.cells #[.bool s, .slice aT (lims n).length cT] 52)))
  replace fQ0 := Q.out.c0
  replace fQ1 := Q.out.c1
  replace fQl := Q.out.lt
  replace FW := Lib.hid (FW.out.same (F5.alloc (.cells #[.bool s, .slice aT (lims n).length cT] 52)))
  have IT := Lib.hid (IT.keep ((Fr.refl [] _).alloc (.cells #[.bool s, .slice aT (lims n).length cT] 52)))
  have BT := Lib.hid (Bx.new w5 (.bool s) (.slice aT (lims n).length cT))
  have fBT0 := BT.out.c0
  have fBT1 := BT.out.c1
  have fBTl := BT.out.lt
  clear F5
  go_wp2_with fail
  refine (CS.out _ _ _ FW.out IT.out).mono ?_
  rintro e w6 ⟨rfl, F6⟩
  replace P := Lib.hid (P.out.fr F6)
  replace fP0 := P.out.c0
  replace fP1 := P.out.c1
  replace fPl := P.out.lt
  replace Q := Lib.hid (Q.out.fr F6)
  replace fQ0 := Q.out.c0
  replace fQ1 := Q.out.c1
  replace fQl := Q.out.lt
  replace BT := Lib.hid (BT.out.fr F6)
  replace fBT0 := BT.out.c0
  replace fBT1 := BT.out.c1
  replace fBTl := BT.out.lt
  replace IT := Lib.hid (IT.out.keep F6)
  replace FW := Lib.hid (FW.out.same F6)
  clear F6
  go_wp2_with fail
  refine (CC.out _ FW.out).mono ?_
  rintro e w7 ⟨rfl, F7⟩
  replace P := Lib.hid (P.out.fr F7)
  replace fP0 := P.out.c0
  replace fP1 := P.out.c1
  replace fPl := P.out.lt
  replace Q := Lib.hid (Q.out.fr F7)
  replace fQ0 := Q.out.c0
  replace fQ1 := Q.out.c1
  replace fQl := Q.out.lt
  replace BT := Lib.hid (BT.out.fr F7)
  replace fBT0 := BT.out.c0
  replace fBT1 := BT.out.c1
  replace fBTl := BT.out.lt
  replace IT := Lib.hid (IT.out.keep F7)
  replace FW := Lib.hid (FW.out.same F7)
  clear F7
  go_wp2_with fail
  refine (CQ.out _ FW.out).mono ?_
  rintro e w8 ⟨aQ, cQ, aR, cR, rfl, IQ, IR, F8⟩
  replace P := Lib.hid (P.out.fr ((F8.alloc (.cells #[.bool bQ, .slice aQ (lims nQ).length cQ] 52)).alloc (.cells #[.bool s, .slice aR (lims nR).length cR] 52)))
  replace fP0 := P.out.c0
  replace fP1 := P.out.c1
  replace fPl := P.out.lt
  replace Q := Lib.hid (Q.out.fr ((F8.alloc (.cells #[.bool bQ, .slice aQ (lims nQ).length cQ] 52)).alloc (.cells #[.bool s, .slice aR (lims nR).length cR] 52)))
  replace fQ0 := Q.out.c0
  replace fQ1 := Q.out.c1
  replace fQl := Q.out.lt
  replace BT := Lib.hid (BT.out.fr ((F8.alloc (.cells #[.bool bQ, .slice aQ (lims nQ).length cQ] 52)).alloc (.cells #[.bool s, .slice aR (lims nR).length cR] 52)))
  replace fBT0 := BT.out.c0
  replace fBT1 := BT.out.c1
  replace fBTl := BT.out.lt
  replace IT := Lib.hid (IT.out.keep ((F8.alloc (.cells #[.bool bQ, .slice aQ (lims nQ).length cQ] 52)).alloc (.cells #[.bool s, .slice aR (lims nR).length cR] 52)))
  replace FW := Lib.hid (FW.out.same ((F8.alloc (.cells #[.bool bQ, .slice aQ (lims nQ).length cQ] 52)).alloc (.cells #[.bool s, .slice aR (lims nR).length cR] 52)))
  have IQ := Lib.hid (IQ.keep (((Fr.refl [] _).alloc (.cells #[.bool bQ, .slice aQ (lims nQ).length cQ] 52)).alloc (.cells #[.bool s, .slice aR (lims nR).length cR] 52)))
  have IR := Lib.hid (IR.keep (((Fr.refl [] _).alloc (.cells #[.bool bQ, .slice aQ (lims nQ).length cQ] 52)).alloc (.cells #[.bool s, .slice aR (lims nR).length cR] 52)))
  have BQ := Lib.hid ((Bx.new w8 (.bool bQ) (.slice aQ (lims nQ).length cQ)).fr ((Fr.refl [] _).alloc (.cells #[.bool s, .slice aR (lims nR).length cR] 52)))
  have fBQ0 := BQ.out.c0
  have fBQ1 := BQ.out.c1
  have fBQl := BQ.out.lt
  have BR := Lib.hid ((Bx.new (w8.alloc (.cells #[.bool bQ, .slice aQ (lims nQ).length cQ] 52)) (.bool s) (.slice aR (lims nR).length cR)).eq (k' := w8.heap.size + 1) (by simp))
  have fBR0 := BR.out.c0
  have fBR1 := BR.out.c1
  have fBRl := BR.out.lt
  clear F8
  go_wp2_with fail
  refine (CM.out _ _ _ FW.out IQ.out).mono ?_
  rintro e w9 ⟨aP, cP, rfl, IP, F9⟩
  replace P := Lib.hid (P.out.fr (F9.alloc (.cells #[.bool bP, .slice aP (lims nP).length cP] 52)))
  replace fP0 := P.out.c0
  replace fP1 := P.out.c1
  replace fPl := P.out.lt
  replace Q := Lib.hid (Q.out.fr (F9.alloc (.cells #[.bool bP, .slice aP (lims nP).length cP] 52)))
  replace fQ0 := Q.out.c0
  replace fQ1 := Q.out.c1
  replace fQl := Q.out.lt
  replace BT := Lib.hid (BT.out.fr (F9.alloc (.cells #[.bool bP, .slice aP (lims nP).length cP] 52)))
  replace fBT0 := BT.out.c0
  replace fBT1 := BT.out.c1
  replace fBTl := BT.out.lt
  replace BQ := Lib.hid (BQ.out.fr (F9.alloc (.cells #[.bool bP, .slice aP (lims nP).length cP] 52)))
  replace fBQ0 := BQ.out.c0
  replace fBQ1 := BQ.out.c1
  replace fBQl := BQ.out.lt
  replace BR := Lib.hid (BR.out.fr (F9.alloc (.cells #[.bool bP, .slice aP (lims nP).length cP] 52)))
  replace fBR0 := BR.out.c0
  replace fBR1 := BR.out.c1
  replace fBRl := BR.out.lt
  replace IT := Lib.hid (IT.out.keep (F9.alloc (.cells #[.bool bP, .slice aP (lims nP).length cP] 52)))
  replace IQ := Lib.hid (IQ.out.keep (F9.alloc (.cells #[.bool bP, .slice aP (lims nP).length cP] 52)))
  replace IR := Lib.hid (IR.out.keep (F9.alloc (.cells #[.bool bP, .slice aP (lims nP).length cP] 52)))
  replace FW := Lib.hid (FW.out.same (F9.alloc (.cells #[.bool bP, .slice aP (lims nP).length cP] 52)))
  have IP := Lib.hid (IP.keep ((Fr.refl [] _).alloc (.cells #[.bool bP, .slice aP (lims nP).length cP] 52)))
  have BP := Lib.hid (Bx.new w9 (.bool bP) (.slice aP (lims nP).length cP))
  have fBP0 := BP.out.c0
  have fBP1 := BP.out.c1
  have fBPl := BP.out.lt
  clear F9
  go_wp2_with fail
  refine (CA.out _ _ _ _ _ IP.out IR.out).mono ?_
  rintro e w10 ⟨aS, cS, rfl, IS, F10⟩
  replace P := Lib.hid (P.out.fr (F10.alloc (.cells #[.bool s, .slice aS (lims n).length cS] 52)))
  replace fP0 := P.out.c0
  replace fP1 := P.out.c1
  replace fPl := P.out.lt
  replace Q := Lib.hid (Q.out.fr (F10.alloc (.cells #[.bool s, .slice aS (lims n).length cS] 52)))
  replace fQ0 := Q.out.c0
  replace fQ1 := Q.out.c1
  replace fQl := Q.out.lt
  replace BT := Lib.hid (BT.out.fr (F10.alloc (.cells #[.bool s, .slice aS (lims n).length cS] 52)))
  replace fBT0 := BT.out.c0
  replace fBT1 := BT.out.c1
  replace fBTl := BT.out.lt
  replace BQ := Lib.hid (BQ.out.fr (F10.alloc (.cells #[.bool s, .slice aS (lims n).length cS] 52)))
  replace fBQ0 := BQ.out.c0
  replace fBQ1 := BQ.out.c1
  replace fBQl := BQ.out.lt
  replace BR := Lib.hid (BR.out.fr (F10.alloc (.cells #[.bool s, .slice aS (lims n).length cS] 52)))
  replace fBR0 := BR.out.c0
  replace fBR1 := BR.out.c1
  replace fBRl := BR.out.lt
  replace BP := Lib.hid (BP.out.fr (F10.alloc (.cells #[.bool s, .slice aS (lims n).length cS] 52)))
  replace fBP0 := BP.out.c0
  replace fBP1 := BP.out.c1
  replace fBPl := BP.out.lt
  replace IT := Lib.hid (IT.out.keep (F10.alloc (.cells #[.bool s, .slice aS (lims n).length cS] 52)))
  replace IQ := Lib.hid (IQ.out.keep (F10.alloc (.cells #[.bool s, .slice aS (lims n).length cS] 52)))
  replace IR := Lib.hid (IR.out.keep (F10.alloc (.cells #[.bool s, .slice aS (lims n).length cS] 52)))
  replace IP := Lib.hid (IP.out.keep (F10.alloc (.cells #[.bool s, .slice aS (lims n).length cS] 52)))
  replace FW := Lib.hid (FW.out.same (F10.alloc (.cells #[.bool s, .slice aS (lims n).length cS] 52)))
  have IS := Lib.hid (IS.keep ((Fr.refl [] _).alloc (.cells #[.bool s, .slice aS (lims n).length cS] 52)))
  have BS := Lib.hid (Bx.new w10 (.bool s) (.slice aS (lims n).length cS))
  have fBS0 := BS.out.c0
  have fBS1 := BS.out.c1
  have fBSl := BS.out.lt
  clear F10
  go_wp2_with fail
  refine (CD.out _ FW.out).mono ?_
  rintro e w11 ⟨aM, cM, rfl, IM, F11⟩
  replace P := Lib.hid (P.out.fr (F11.alloc (.cells #[.bool s2, .slice aM (lims nM).length cM] 52)))
  replace fP0 := P.out.c0
  replace fP1 := P.out.c1
  replace fPl := P.out.lt
  replace Q := Lib.hid (Q.out.fr (F11.alloc (.cells #[.bool s2, .slice aM (lims nM).length cM] 52)))
  replace fQ0 := Q.out.c0
  replace fQ1 := Q.out.c1
  replace fQl := Q.out.lt
  replace BT := Lib.hid (BT.out.fr (F11.alloc (.cells #[.bool s2, .slice aM (lims nM).length cM] 52)))
  replace fBT0 := BT.out.c0
  replace fBT1 := BT.out.c1
  replace fBTl := BT.out.lt
  replace BQ := Lib.hid (BQ.out.fr (F11.alloc (.cells #[.bool s2, .slice aM (lims nM).length cM] 52)))
  replace fBQ0 := BQ.out.c0
  replace fBQ1 := BQ.out.c1
  replace fBQl := BQ.out.lt
  replace BR := Lib.hid (BR.out.fr (F11.alloc (.cells #[.bool s2, .slice aM (lims nM).length cM] 52)))
  replace fBR0 := BR.out.c0
  replace fBR1 := BR.out.c1
  replace fBRl := BR.out.lt
  replace BP := Lib.hid (BP.out.fr (F11.alloc (.cells #[.bool s2, .slice aM (lims nM).length cM] 52)))
  replace fBP0 := BP.out.c0
  replace fBP1 := BP.out.c1
  replace fBPl := BP.out.lt
  replace BS := Lib.hid (BS.out.fr (F11.alloc (.cells #[.bool s2, .slice aM (lims nM).length cM] 52)))
  replace fBS0 := BS.out.c0
  replace fBS1 := BS.out.c1
  replace fBSl := BS.out.lt
  replace IT := Lib.hid (IT.out.keep (F11.alloc (.cells #[.bool s2, .slice aM (lims nM).length cM] 52)))
  replace IQ := Lib.hid (IQ.out.keep (F11.alloc (.cells #[.bool s2, .slice aM (lims nM).length cM] 52)))
  replace IR := Lib.hid (IR.out.keep (F11.alloc (.cells #[.bool s2, .slice aM (lims nM).length cM] 52)))
  replace IP := Lib.hid (IP.out.keep (F11.alloc (.cells #[.bool s2, .slice aM (lims nM).length cM] 52)))
  replace IS := Lib.hid (IS.out.keep (F11.alloc (.cells #[.bool s2, .slice aM (lims nM).length cM] 52)))
  replace FW := Lib.hid (FW.out.same (F11.alloc (.cells #[.bool s2, .slice aM (lims nM).length cM] 52)))
  have IM := Lib.hid (IM.keep ((Fr.refl [] _).alloc (.cells #[.bool s2, .slice aM (lims nM).length cM] 52)))
  have BM := Lib.hid (Bx.new w11 (.bool s2) (.slice aM (lims nM).length cM))
  have fBM0 := BM.out.c0
  have fBM1 := BM.out.c1
  have fBMl := BM.out.lt
  clear F11
  go_wp2_with fail
  refine (CS.out _ _ _ FW.out IS.out).mono ?_
  rintro e w12 ⟨rfl, F12⟩
  replace P := Lib.hid (P.out.fr F12)
  replace fP0 := P.out.c0
  replace fP1 := P.out.c1
  replace fPl := P.out.lt
  replace Q := Lib.hid (Q.out.fr F12)
  replace fQ0 := Q.out.c0
  replace fQ1 := Q.out.c1
  replace fQl := Q.out.lt
  replace BT := Lib.hid (BT.out.fr F12)
  replace fBT0 := BT.out.c0
  replace fBT1 := BT.out.c1
  replace fBTl := BT.out.lt
  replace BQ := Lib.hid (BQ.out.fr F12)
  replace fBQ0 := BQ.out.c0
  replace fBQ1 := BQ.out.c1
  replace fBQl := BQ.out.lt
  replace BR := Lib.hid (BR.out.fr F12)
  replace fBR0 := BR.out.c0
  replace fBR1 := BR.out.c1
  replace fBRl := BR.out.lt
  replace BP := Lib.hid (BP.out.fr F12)
  replace fBP0 := BP.out.c0
  replace fBP1 := BP.out.c1
  replace fBPl := BP.out.lt
  replace BS := Lib.hid (BS.out.fr F12)
  replace fBS0 := BS.out.c0
  replace fBS1 := BS.out.c1
  replace fBSl := BS.out.lt
  replace BM := Lib.hid (BM.out.fr F12)
  replace fBM0 := BM.out.c0
  replace fBM1 := BM.out.c1
  replace fBMl := BM.out.lt
  replace IT := Lib.hid (IT.out.keep F12)
  replace IQ := Lib.hid (IQ.out.keep F12)
  replace IR := Lib.hid (IR.out.keep F12)
  replace IP := Lib.hid (IP.out.keep F12)
  replace IS := Lib.hid (IS.out.keep F12)
  replace IM := Lib.hid (IM.out.keep F12)
  replace FW := Lib.hid (FW.out.same F12)
  clear F12
  go_wp2_with fail
  refine (CK.out _ _ _ FW.out IM.out).mono ?_
  rintro e w13 ⟨rfl, F13⟩
  replace P := Lib.hid (P.out.fr F13)
  replace fP0 := P.out.c0
  replace fP1 := P.out.c1
  replace fPl := P.out.lt
  replace Q := Lib.hid (Q.out.fr F13)
  replace fQ0 := Q.out.c0
  replace fQ1 := Q.out.c1
  replace fQl := Q.out.lt
  replace BT := Lib.hid (BT.out.fr F13)
  replace fBT0 := BT.out.c0
  replace fBT1 := BT.out.c1
  replace fBTl := BT.out.lt
  replace BQ := Lib.hid (BQ.out.fr F13)
  replace fBQ0 := BQ.out.c0
  replace fBQ1 := BQ.out.c1
  replace fBQl := BQ.out.lt
  replace BR := Lib.hid (BR.out.fr F13)
  replace fBR0 := BR.out.c0
  replace fBR1 := BR.out.c1
  replace fBRl := BR.out.lt
  replace BP := Lib.hid (BP.out.fr F13)
  replace fBP0 := BP.out.c0
  replace fBP1 := BP.out.c1
  replace fBPl := BP.out.lt
  replace BS := Lib.hid (BS.out.fr F13)
  replace fBS0 := BS.out.c0
  replace fBS1 := BS.out.c1
  replace fBSl := BS.out.lt
  replace BM := Lib.hid (BM.out.fr F13)
  replace fBM0 := BM.out.c0
  replace fBM1 := BM.out.c1
  replace fBMl := BM.out.lt
  replace IT := Lib.hid (IT.out.keep F13)
  replace IQ := Lib.hid (IQ.out.keep F13)
  replace IR := Lib.hid (IR.out.keep F13)
  replace IP := Lib.hid (IP.out.keep F13)
  replace IS := Lib.hid (IS.out.keep F13)
  replace IM := Lib.hid (IM.out.keep F13)
  replace FW := Lib.hid (FW.out.same F13)
  clear F13
  go_wp2
  go_ret
  exact ⟨rfl, FW.out.below⟩
theorem walk (z1 z2 : IA) (W : World) (h1 : InI W z1) (h2 : InI W z2) (hT : Tab W) :
    Calls Tryd.prog 20 #[.agg #[.bool z1.s, .slice z1.a z1.len z1.cap], .agg #[.bool z2.s, .slice z2.a z2.len z2.cap]] W fun e W' => e = .returned (.bool true) ∧ Below W.heap.size W W' := by
  obtain ⟨s, a, ln, cap⟩ := z1
  obtain ⟨s2, b, lm, cap2⟩ := z2
  obtain ⟨L, hL⟩ := h1
  obtain ⟨M, hM⟩ := h2
  have hL : InA W a ln cap L := hL
  have hM : InA W b lm cap2 M := hM
  cases hr : (rightP s L && rightP s2 M) with
  | false => exact walk_left s a ln cap s2 b lm cap2 L M W hL hM hT hr
  | true =>
    have hr1 : rightP s L = true := by simp at hr; exact hr.1
    have hr2 : rightP s2 M = true := by simp at hr; exact hr.2
    obtain ⟨n, e1, I1, hfn, hsn, _⟩ := right_open hL hr1
    obtain ⟨m, e2, I2, hfm, _, _⟩ := right_open hM hr2
    subst e1
    subst e2
    have RA := Lib.hid (fun W' (h : Fr [] W W') => r2right_any W' s _ (hL.keep h))
    have RB := Lib.hid (fun W' (h : Fr [] W W') => r2right_any W' s2 _ (hM.keep h))
    rw [hr1] at RA
    rw [hr2] at RB
    by_cases hm : m = 0
    · exact walk_zero s a n cap s2 b m cap2 W I1 I2 hfn hfm hsn hm hT RA RB
    · by_cases hr3 : n % m = 0
      · exact walk_r0 s a n cap s2 b m cap2 W I1 I2 hfn hfm hsn hm hr3 hT RA RB
      · exact walk_r1 s a n cap s2 b m cap2 W I1 I2 hfn hfm hsn hm hr3 hT RA RB
set_option maxRecDepth 100000 in
theorem lifted (os : Os) (started : os.Started) (H : Type) (enc : TypeId × Value → H) :
    ReturnsInHanded {} Tryd.checked os 20 .any (fun w args => (Rows.exactBackSpec.pre enc Tryd.prog Tryd.f20 [] false w args ∧ laidMetH Tryd.prog listed w) ∧ sizedMet enc Tryd.prog Tryd.f20 (OpenSpec.ofChange Rows.exactBackSpec) false w args) (Rows.exactBackSpec.post enc Tryd.prog Tryd.f20 false true false false) := by
  refine returnsInHanded_of_change_and (C := Tryd.checked) (X := fun w _ => laidMetH Tryd.prog listed w) (fun _ _ _ hh h => h.of_heap hh) own started (by kernel_rfl) Tryd.func20
    (ChangeSpec.witness_shaped (enc := enc) (C := Tryd.checked) (os := os) (X := fun w _ => laidMetH Tryd.prog listed w) false (World.doorLaid Tryd.prog 24 os) #[zeroI, zeroI] 8 rfl (World.shaped_of_RefB (by kernel_rfl) (by kernel_rfl)) (by kernel_rfl) (by kernel_rfl) (by kernel_rfl) (door_met os _)) ?_
  intro W base args ds gs before hval0 hW _ _ hL _
  have hT := tab_of_laid hL
  have hval : ∀ (j : Nat) t v, Tryd.f20.params[j]? = some t → args[j]? = some v → Value.okWide Tryd.prog W .any base t v := hval0
  have hW' := hW
  obtain ⟨p, q, hA0, hV, rfl, hfz, hnd⟩ := hW
  have hA : DataW.TrodAll enc Tryd.prog W 0 (fun _ => true) true Tryd.f20.params.toList args.toList ds p := hA0
  rw [Tryd.params20] at hA hval
  obtain ⟨v0, vs0, d0, ds0, p0, q0, hargs, rfl, rfl, h0, r0⟩ := trodAll_cons hA
  obtain ⟨v1, vs1, d1, ds1, p1, q1, rfl, rfl, rfl, h1, r1⟩ := trodAll_cons r0
  obtain ⟨rfl, rfl, rfl⟩ := trodAll_nil r1
  obtain rfl : args = #[v0, v1] := by cases args; simp_all
  obtain ⟨rfl, rfl⟩ := trodVars_none hV
  have k0 := h0
  have lt0 : ∀ x ∈ p0, x.block < W.heap.size := by obtain ⟨m, hm⟩ := k0; exact DataW.trod_lt m _ _ _ hm
  obtain ⟨z0, rfl, w0⟩ := open_iv (hval 0 52 v0 rfl rfl) h0
  have k1 := h1
  have lt1 : ∀ x ∈ p1, x.block < W.heap.size := by obtain ⟨m, hm⟩ := k1; exact DataW.trod_lt m _ _ _ hm
  obtain ⟨z1, rfl, w1⟩ := open_iv (hval 1 52 v1 rfl rfl) h1
  clear hA0 hval0
  refine (walk z0 z1 W w0 w1 hT).mono fun e W' ⟨he, bel⟩ => ?_
  subst he
  exact ⟨_, rfl, _, _, _, [], _, [], hW', trodAll_mk1 (shut_bool Tryd.underlying4 _), (trodAll_cons_mk (Below.trod laidOut (by kernel_rfl) (of_decide_eq_true (by kernel_rfl)) k0 bel lt0) (trodAll_cons_mk (Below.trod laidOut (by kernel_rfl) (of_decide_eq_true (by kernel_rfl)) k1 bel lt1) trodAll_mk0)), rfl, bel.frame _, fun h => by cases h⟩
theorem over : Rows.exactBackRow.holds Tryd.pinned (OpenSpec.ofChange Rows.exactBackSpec) :=
  OpenClaim.holds_of_wide 20 Tryd.f20 rfl rfl rfl rfl rfl rfl rfl ⟨rfl, rfl, rfl, rfl, rfl⟩ rfl rfl rfl rfl rfl (by kernel_rfl) Tryd.func20 (by kernel_rfl)
    (of_decide_eq_true (by kernel_rfl)) (by unfold Func.isWrapper; first | (rw [if_pos (by decide +kernel)]; kernel_rfl) | (rw [if_neg (by decide +kernel)]; exact ⟨rfl, rfl⟩))
    (fun os started H enc _ => lifted os started H enc)
/-- THE STATEMENT -/
theorem proved : Rows.ExactBackCardSaid :=
  Claim7.holds_tied_plain_at .later [] [.data, .data, .data] true (true, "ea8df5c1a0e302ec682270425c9a8cf6ae00272b589ccfc6cc1f4d10a9599452") false
    over (fun _ h => by cases h) (by kernel_rfl) (fun _ h => by cases h) exactBack_row_tie rfl ⟨rfl, rfl⟩ (by kernel_rfl) rfl
    (fun f fn hf hfn => by
      obtain rfl : f = 20 := Option.some.inj ((show Tryd.prog.funcNamed "distaff/distafflaw02.ExactBack" = some 20 by kernel_rfl).symm.trans hf) |>.symm
      obtain rfl : fn = Tryd.f20 := (Option.some.inj (Tryd.func20.symm.trans hfn)).symm
      exact ⟨by kernel_rfl, fun j t ht => by
        rw [Tryd.params20] at ht
        have hm : t ∈ [52, 52] := by simpa using Array.mem_of_getElem? ht
        have hall : ([52, 52].all fun u => !Tryd.prog.wantsStandIn u) = true := by kernel_rfl
        exact (show Tryd.prog.wantsStandIn t = false by simpa using List.all_eq_true.1 hall t hm)⟩)
    (by kernel_rfl)
#print axioms proved
end Go.Proofs.YtladhmbidicncaaDoor.exactBack
