/- Exact: powers whose exponents can't be; powers in one form. -/
import Derived.Test.YtladhmbidicncaaDoorExaY
import Derived.Test.YtladhmbidicncaaDoorExaZ
namespace Go.Proofs.YtladhmbidicncaaDoor
open Go.ChangeShapes Go.WideShapes Go.RowKit
variable {w w' w2 wr : World} {a b : Option Addr} {cap cap2 : Nat} {L M : List Nat} {B : Nat}
def smG (s : Bool) (n : Nat) : Int := match smB s n with | true => smV s n | false => 0
theorem small_flat {s : Bool} {n : Nat} {e : Ending} (h : SmallI w s n e w') : e = .returned (.tuple #[.int .i64 (smG s n), .bool (smB s n)]) ∧ Fr [] w w' := by
  unfold SmallI at h
  unfold smG
  cases hb : smB s n with
  | true => rw [hb, if_pos rfl] at h; exact h
  | false => rw [hb, if_neg Bool.false_ne_true] at h; exact h
theorem sm_bad {s2 : Bool} {m : Nat} (hs : s2 = true → m ≠ 0) (hb : ¬ (s2 = false ∧ m ≤ 1000)) : smB s2 m = false ∨ smG s2 m < 0 ∨ 1000 < smG s2 m := by
  cases hg : smB s2 m with
  | false => exact .inl rfl
  | true =>
    right
    unfold smG
    rw [hg]
    show smV s2 m < 0 ∨ 1000 < smV s2 m
    unfold smV
    cases s2 with
    | true => left; have := hs rfl; show -(m : Int) < 0; omega
    | false => right; have : ¬ m ≤ 1000 := fun h => hb ⟨rfl, h⟩; show (1000 : Int) < (m : Int); omega
set_option maxHeartbeats 4000000 in
theorem epow_bad (w : World) (s : Bool) (n : Nat) (s2 : Bool) (m : Nat) (hs : s2 = true → m ≠ 0) (hb : ¬ (s2 = false ∧ m ≤ 1000)) (h2 : In w b cap2 (lims m)) : Calls Tryd.prog 72 #[.agg #[.bool s, .slice a (lims n).length cap], .agg #[.bool s2, .slice b (lims m).length cap2]] w fun e w' => e = .returned (.tuple #[.agg #[.bool false, .slice none 0 0], .int .i64 21]) ∧ Fr [] w w' := by
  have H2 := Lib.hid h2
  clear h2
  have F0 : Hid (Fr [] w (((w.alloc (.cells #[.bool s, .slice a (lims n).length cap] 52)).alloc (.cells #[.bool s2, .slice b (lims m).length cap2] 52)).alloc (.cells #[.bool false, .slice none 0 0] 52))) := Lib.hid ((((Fr.refl [] w).alloc _).alloc _).alloc _)
  have P : Hid (Bx (((w.alloc (.cells #[.bool s, .slice a (lims n).length cap] 52)).alloc (.cells #[.bool s2, .slice b (lims m).length cap2] 52)).alloc (.cells #[.bool false, .slice none 0 0] 52)) (w.heap.size) (.bool s) (.slice a (lims n).length cap)) := Lib.hid ((Bx.new _ _ _).fr (((Fr.refl [] _).alloc _).alloc _))
  have Q : Hid (Bx (((w.alloc (.cells #[.bool s, .slice a (lims n).length cap] 52)).alloc (.cells #[.bool s2, .slice b (lims m).length cap2] 52)).alloc (.cells #[.bool false, .slice none 0 0] 52)) (w.heap.size + 1) (.bool s2) (.slice b (lims m).length cap2)) := Lib.hid (((Bx.new _ _ _).eq (by simp)).fr ((Fr.refl [] _).alloc _))
  have R : Hid (Bx (((w.alloc (.cells #[.bool s, .slice a (lims n).length cap] 52)).alloc (.cells #[.bool s2, .slice b (lims m).length cap2] 52)).alloc (.cells #[.bool false, .slice none 0 0] 52)) (w.heap.size + 2) (.bool false) (.slice none 0 0)) := Lib.hid (((Bx.new _ _ _).eq (by simp)).fr (Fr.refl [] _))
  replace pc0 := P.out.c0
  replace pc1 := P.out.c1
  replace pl := P.out.lt
  replace qc0 := Q.out.c0
  replace qc1 := Q.out.c1
  replace ql := Q.out.lt
  replace rc0 := R.out.c0
  replace rc1 := R.out.c1
  replace rl := R.out.lt
  replace rf0 := R.out.f 0
  replace rf1 := R.out.f 1
  obtain ⟨v, g, hv, CS⟩ : ∃ (v : Int) (g : Bool), (g = false ∨ v < 0 ∨ 1000 < v) ∧ ∀ W, Fr [] w W → Calls Tryd.prog 63 #[.agg #[.bool s2, .slice b (lims m).length cap2]] W fun e w' => e = .returned (.tuple #[.int .i64 v, .bool g]) ∧ Fr [] W w' :=
    ⟨smG s2 m, smB s2 m, sm_bad hs hb, fun W hW => (esmall_c W s2 m (H2.out.keep hW)).mono (fun e w' h => small_flat h)⟩
  have CS := Lib.hid CS
  clear hs hb H2
  cases g with
  | false =>
    clear hv
    go_enter Tryd.func72, Tryd.ntmps72
    go_wp2_with fail
    refine (CS.out _ F0.out).mono ?_
    rintro e w1 ⟨rfl, F1⟩
    replace P := Lib.hid (P.out.fr F1)
    replace pc0 := P.out.c0
    replace pc1 := P.out.c1
    replace pl := P.out.lt
    replace Q := Lib.hid (Q.out.fr F1)
    replace qc0 := Q.out.c0
    replace qc1 := Q.out.c1
    replace ql := Q.out.lt
    replace R := Lib.hid (R.out.fr F1)
    replace rc0 := R.out.c0
    replace rc1 := R.out.c1
    replace rl := R.out.lt
    replace rf0 := R.out.f 0
    replace rf1 := R.out.f 1
    have FW := Lib.hid (F0.out.same F1)
    clear F1
    go_wp2
    refine bodyPost_ret (ret_iv2 rfl _ _ _ _ _ rfl (R.out.set _ _)) rfl ?_
    exact ⟨rfl, FW.out.set2 (by omega) _ _⟩
  | true =>
    by_cases hv0 : v < 0
    · clear hv
      go_enter Tryd.func72, Tryd.ntmps72
      go_wp2_with fail
      refine (CS.out _ F0.out).mono ?_
      rintro e w1 ⟨rfl, F1⟩
      replace P := Lib.hid (P.out.fr F1)
      replace pc0 := P.out.c0
      replace pc1 := P.out.c1
      replace pl := P.out.lt
      replace Q := Lib.hid (Q.out.fr F1)
      replace qc0 := Q.out.c0
      replace qc1 := Q.out.c1
      replace ql := Q.out.lt
      replace R := Lib.hid (R.out.fr F1)
      replace rc0 := R.out.c0
      replace rc1 := R.out.c1
      replace rl := R.out.lt
      replace rf0 := R.out.f 0
      replace rf1 := R.out.f 1
      have FW := Lib.hid (F0.out.same F1)
      clear F1
      go_wp2
      refine bodyPost_ret (ret_iv2 rfl _ _ _ _ _ rfl (R.out.set _ _)) rfl ?_
      exact ⟨rfl, FW.out.set2 (by omega) _ _⟩
    · have hv1 : 1000 < v := by rcases hv with h | h | h; cases h; exact absurd h hv0; exact h
      clear hv
      go_enter Tryd.func72, Tryd.ntmps72
      go_wp2_with fail
      refine (CS.out _ F0.out).mono ?_
      rintro e w1 ⟨rfl, F1⟩
      replace P := Lib.hid (P.out.fr F1)
      replace pc0 := P.out.c0
      replace pc1 := P.out.c1
      replace pl := P.out.lt
      replace Q := Lib.hid (Q.out.fr F1)
      replace qc0 := Q.out.c0
      replace qc1 := Q.out.c1
      replace ql := Q.out.lt
      replace R := Lib.hid (R.out.fr F1)
      replace rc0 := R.out.c0
      replace rc1 := R.out.c1
      replace rl := R.out.lt
      replace rf0 := R.out.f 0
      replace rf1 := R.out.f 1
      have FW := Lib.hid (F0.out.same F1)
      clear F1
      go_wp2
      refine bodyPost_ret (ret_iv2 rfl _ _ _ _ _ rfl (R.out.set _ _)) rfl ?_
      exact ⟨rfl, FW.out.set2 (by omega) _ _⟩
set_option maxHeartbeats 4000000 in
theorem r2pow_bad (w : World) (s : Bool) (n : Nat) (s2 : Bool) (m : Nat) (hs : s2 = true → m ≠ 0) (hb : ¬ (s2 = false ∧ m ≤ 1000)) (h2 : In w b cap2 (lims m)) : Calls Tryd.prog 73 #[.agg #[.bool s, .slice a (lims n).length cap], .agg #[.bool s2, .slice b (lims m).length cap2]] w fun e w' => e = .returned (.tuple #[.agg #[.bool false, .slice none 0 0], .int .i64 21]) ∧ Fr [] w w' := by
  have H2 := Lib.hid h2
  clear h2
  have F0 : Hid (Fr [] w (((w.alloc (.cells #[.bool s, .slice a (lims n).length cap] 52)).alloc (.cells #[.bool s2, .slice b (lims m).length cap2] 52)).alloc (.cells #[.bool false, .slice none 0 0] 52))) := Lib.hid ((((Fr.refl [] w).alloc _).alloc _).alloc _)
  have P : Hid (Bx (((w.alloc (.cells #[.bool s, .slice a (lims n).length cap] 52)).alloc (.cells #[.bool s2, .slice b (lims m).length cap2] 52)).alloc (.cells #[.bool false, .slice none 0 0] 52)) (w.heap.size) (.bool s) (.slice a (lims n).length cap)) := Lib.hid ((Bx.new _ _ _).fr (((Fr.refl [] _).alloc _).alloc _))
  have Q : Hid (Bx (((w.alloc (.cells #[.bool s, .slice a (lims n).length cap] 52)).alloc (.cells #[.bool s2, .slice b (lims m).length cap2] 52)).alloc (.cells #[.bool false, .slice none 0 0] 52)) (w.heap.size + 1) (.bool s2) (.slice b (lims m).length cap2)) := Lib.hid (((Bx.new _ _ _).eq (by simp)).fr ((Fr.refl [] _).alloc _))
  have R : Hid (Bx (((w.alloc (.cells #[.bool s, .slice a (lims n).length cap] 52)).alloc (.cells #[.bool s2, .slice b (lims m).length cap2] 52)).alloc (.cells #[.bool false, .slice none 0 0] 52)) (w.heap.size + 2) (.bool false) (.slice none 0 0)) := Lib.hid (((Bx.new _ _ _).eq (by simp)).fr (Fr.refl [] _))
  replace pc0 := P.out.c0
  replace pc1 := P.out.c1
  replace pl := P.out.lt
  replace qc0 := Q.out.c0
  replace qc1 := Q.out.c1
  replace ql := Q.out.lt
  replace rc0 := R.out.c0
  replace rc1 := R.out.c1
  replace rl := R.out.lt
  replace rf0 := R.out.f 0
  replace rf1 := R.out.f 1
  obtain ⟨v, g, hv, CS⟩ : ∃ (v : Int) (g : Bool), (g = false ∨ v < 0 ∨ 1000 < v) ∧ ∀ W, Fr [] w W → Calls Tryd.prog 64 #[.agg #[.bool s2, .slice b (lims m).length cap2]] W fun e w' => e = .returned (.tuple #[.int .i64 v, .bool g]) ∧ Fr [] W w' :=
    ⟨smG s2 m, smB s2 m, sm_bad hs hb, fun W hW => (r2small_c W s2 m (H2.out.keep hW) hs).mono (fun e w' h => small_flat h)⟩
  have CS := Lib.hid CS
  clear hs hb H2
  cases g with
  | false =>
    clear hv
    go_enter Tryd.func73, Tryd.ntmps73
    go_wp2_with fail
    refine (CS.out _ F0.out).mono ?_
    rintro e w1 ⟨rfl, F1⟩
    replace P := Lib.hid (P.out.fr F1)
    replace pc0 := P.out.c0
    replace pc1 := P.out.c1
    replace pl := P.out.lt
    replace Q := Lib.hid (Q.out.fr F1)
    replace qc0 := Q.out.c0
    replace qc1 := Q.out.c1
    replace ql := Q.out.lt
    replace R := Lib.hid (R.out.fr F1)
    replace rc0 := R.out.c0
    replace rc1 := R.out.c1
    replace rl := R.out.lt
    replace rf0 := R.out.f 0
    replace rf1 := R.out.f 1
    have FW := Lib.hid (F0.out.same F1)
    clear F1
    go_wp2
    refine bodyPost_ret (ret_iv2 rfl _ _ _ _ _ rfl (R.out.set _ _)) rfl ?_
    exact ⟨rfl, FW.out.set2 (by omega) _ _⟩
  | true =>
    by_cases hv0 : v < 0
    · clear hv
      go_enter Tryd.func73, Tryd.ntmps73
      go_wp2_with fail
      refine (CS.out _ F0.out).mono ?_
      rintro e w1 ⟨rfl, F1⟩
      replace P := Lib.hid (P.out.fr F1)
      replace pc0 := P.out.c0
      replace pc1 := P.out.c1
      replace pl := P.out.lt
      replace Q := Lib.hid (Q.out.fr F1)
      replace qc0 := Q.out.c0
      replace qc1 := Q.out.c1
      replace ql := Q.out.lt
      replace R := Lib.hid (R.out.fr F1)
      replace rc0 := R.out.c0
      replace rc1 := R.out.c1
      replace rl := R.out.lt
      replace rf0 := R.out.f 0
      replace rf1 := R.out.f 1
      have FW := Lib.hid (F0.out.same F1)
      clear F1
      go_wp2
      refine bodyPost_ret (ret_iv2 rfl _ _ _ _ _ rfl (R.out.set _ _)) rfl ?_
      exact ⟨rfl, FW.out.set2 (by omega) _ _⟩
    · have hv1 : 1000 < v := by rcases hv with h | h | h; cases h; exact absurd h hv0; exact h
      clear hv
      go_enter Tryd.func73, Tryd.ntmps73
      go_wp2_with fail
      refine (CS.out _ F0.out).mono ?_
      rintro e w1 ⟨rfl, F1⟩
      replace P := Lib.hid (P.out.fr F1)
      replace pc0 := P.out.c0
      replace pc1 := P.out.c1
      replace pl := P.out.lt
      replace Q := Lib.hid (Q.out.fr F1)
      replace qc0 := Q.out.c0
      replace qc1 := Q.out.c1
      replace ql := Q.out.lt
      replace R := Lib.hid (R.out.fr F1)
      replace rc0 := R.out.c0
      replace rc1 := R.out.c1
      replace rl := R.out.lt
      replace rf0 := R.out.f 0
      replace rf1 := R.out.f 1
      have FW := Lib.hid (F0.out.same F1)
      clear F1
      go_wp2
      refine bodyPost_ret (ret_iv2 rfl _ _ _ _ _ rfl (R.out.set _ _)) rfl ?_
      exact ⟨rfl, FW.out.set2 (by omega) _ _⟩
def PowF (w : World) (s : Bool) (n : Nat) (z : Int) (e : Ending) (w' : World) : Prop := ∃ a c, e = .returned (.tuple #[.agg #[.bool s, .slice a (lims n).length c], .int .i64 z]) ∧ In w' a c (lims n) ∧ Fr [] w w'
def tS (T : Option (Bool × Nat)) : Bool := (T.getD (false, 0)).1
def tN (T : Option (Bool × Nat)) : Nat := (T.getD (false, 0)).2
def tE (T : Option (Bool × Nat)) : Int := if T.isSome then 0 else 11
theorem powI_flat {T : Option (Bool × Nat)} {e : Ending} (h : PowI w T e w') : PowF w (tS T) (tN T) (tE T) e w' := by
  cases T with
  | some x => exact h
  | none => obtain ⟨rfl, h⟩ := h; exact ⟨none, 0, rfl, (Nw.nil w' 0).in, h⟩
/-- Any power: both functions give the same. -/
theorem pow_both (W : World) (s : Bool) (a : Option Addr) (n cap : Nat) (s2 : Bool) (b : Option Addr) (m cap2 : Nat) (I1 : In W a cap (lims n)) (I2 : In W b cap2 (lims m)) (hn : fits n = true) (hs : s2 = true → m ≠ 0) : ∃ (t : Bool) (k : Nat) (z : Int),
    (∀ W', Fr [] W W' → Calls Tryd.prog 72 #[.agg #[.bool s, .slice a (lims n).length cap], .agg #[.bool s2, .slice b (lims m).length cap2]] W' (PowF W' t k z)) ∧
    (∀ W', Fr [] W W' → Calls Tryd.prog 73 #[.agg #[.bool s, .slice a (lims n).length cap], .agg #[.bool s2, .slice b (lims m).length cap2]] W' (PowF W' t k z)) := by
  by_cases hb : s2 = false ∧ m ≤ 1000
  · obtain ⟨rfl, hm⟩ := hb
    exact ⟨_, _, _, fun W' h => (epow_c W' s n m hm hn (I1.keep h) (I2.keep h)).mono (fun e w' h => powI_flat h), fun W' h => (r2pow_c W' s n m hm hn (I1.keep h) (I2.keep h)).mono (fun e w' h => powI_flat h)⟩
  · exact ⟨false, 0, 21, fun W' h => (epow_bad W' s n s2 m hs hb (I2.keep h)).mono (fun e w' h => ⟨none, 0, h.1, (Nw.nil w' 0).in, h.2⟩), fun W' h => (r2pow_bad W' s n s2 m hs hb (I2.keep h)).mono (fun e w' h => ⟨none, 0, h.1, (Nw.nil w' 0).in, h.2⟩)⟩
end Go.Proofs.YtladhmbidicncaaDoor
