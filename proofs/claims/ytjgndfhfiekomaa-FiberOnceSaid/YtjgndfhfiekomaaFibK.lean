/- Fibers: one above the other: empty, lowest, handlers, left, put on. -/
import Derived.Test.YtjgndfhfiekomaaFibJ
namespace Go.Proofs.Ytjgndfhfiekomaa
open Go.ChangeShapes Go.WideShapes Go.RowKit
variable {w0 w w1 w' : World} {c : Sk} {A A' : Ar} {top : Int} {last : Value}
def emptyF (A : Ar) (m : Nat) (f : Int) : Bool := nmF A m f 2 == -1
def lowF (A : Ar) (m : Nat) (f : Int) : Bool := gtF A m f 0 % 8 != 1
def hasF (A : Ar) (m : Nat) (f : Int) : Bool := gtF A m f 3 % 8 == 1
theorem kempty_c (h : St w0 w c A top last) (f : Int) (hf : W64 f) : Calls Try.prog 112 #[.pointer (some ⟨c.kb, 0, none⟩), .int .u64 f] w fun e w' => e = .returned (.bool (emptyF A c.m f)) ∧ St w0 w' c A top last := by
  go_enter Try.func112, Try.ntmps112
  go_wp2_with (first | (go_at_call 109; refine (knum_c (by assumption) _ _ (by first | assumption | exact St.gw (by assumption) _ _ | exact St.tw (by assumption) | exact w64_45 | exact w64_0 | exact smW_w _) (by first | exact I64.of (by omega) | assumption)).mono ?_; rintro e w' ⟨rfl, _⟩))
  go_ret
  exact ⟨rfl, by assumption⟩
theorem klowest_c (h : St w0 w c A top last) (f : Int) (hf : W64 f) : Calls Try.prog 115 #[.pointer (some ⟨c.kb, 0, none⟩), .int .u64 f] w fun e w' => e = .returned (.bool (lowF A c.m f)) ∧ St w0 w' c A top last := by
  go_enter Try.func115, Try.ntmps115
  go_wp2_with (first | (go_at_call 102; refine (kget_c (by assumption) _ _ (by first | assumption | exact St.gw (by assumption) _ _ | exact St.tw (by assumption) | exact w64_45 | exact w64_0 | exact smW_w _) (by first | exact I64.of (by omega) | assumption)).mono ?_; rintro e w' ⟨rfl, _⟩) | (go_at_call 81; refine (kind_c _ _ (W64.lo (by first | assumption | exact St.gw (by assumption) _ _ | exact St.tw (by assumption) | exact w64_45 | exact w64_0 | exact smW_w _)) (W64.hi (by first | assumption | exact St.gw (by assumption) _ _ | exact St.tw (by assumption) | exact w64_45 | exact w64_0 | exact smW_w _))).mono ?_; rintro e w' ⟨rfl, rfl⟩))
  go_ret
  exact ⟨rfl, by assumption⟩
theorem khandler_c (h : St w0 w c A top last) (f : Int) (hf : W64 f) : Calls Try.prog 111 #[.pointer (some ⟨c.kb, 0, none⟩), .int .u64 f] w fun e w' => e = .returned (.tuple #[.int .u64 (gtF A c.m f 3), .bool (hasF A c.m f)]) ∧ St w0 w' c A top last := by
  go_enter Try.func111, Try.ntmps111
  go_wp2_with (first | (go_at_call 102; refine (kget_c (by assumption) _ _ (by first | assumption | exact St.gw (by assumption) _ _ | exact St.tw (by assumption) | exact w64_45 | exact w64_0 | exact smW_w _) (by first | exact I64.of (by omega) | assumption)).mono ?_; rintro e w' ⟨rfl, _⟩) | (go_at_call 81; refine (kind_c _ _ (W64.lo (by first | assumption | exact St.gw (by assumption) _ _ | exact St.tw (by assumption) | exact w64_45 | exact w64_0 | exact smW_w _)) (W64.hi (by first | assumption | exact St.gw (by assumption) _ _ | exact St.tw (by assumption) | exact w64_45 | exact w64_0 | exact smW_w _))).mono ?_; rintro e w' ⟨rfl, rfl⟩))
  go_ret2
  exact ⟨rfl, by assumption⟩
def freshF (A : Ar) (m : Nat) (r : Int) : Int := if kdF A m r ≠ 6 ∨ szF A m r ≠ 3 then 202 else if nmF A m r 0 ≠ 0 then 201 else 0
theorem kfresh_c (h : St w0 w c A top last) (r : Int) (hr : W64 r) : Calls Try.prog 113 #[.pointer (some ⟨c.kb, 0, none⟩), .int .u64 r] w fun e w' => e = .returned (.int .i64 (freshF A c.m r)) ∧ St w0 w' c A top last := by
  have k0 := h.k0
  have CV := Lib.hid (fun w1 (h1 : St w0 w1 c A top last) => vheap_c h1)
  have CK := Lib.hid (fun w1 (h1 : St w0 w1 c A top last) => okind_s h1 r hr)
  have CZ := Lib.hid (fun w1 (h1 : St w0 w1 c A top last) => osize_s h1 r hr)
  have CN := Lib.hid (fun w1 (h1 : St w0 w1 c A top last) => knum_c h1 r 0 hr (I64.of (by omega)))
  unfold freshF
  generalize kdF A c.m r = kd at *
  generalize szF A c.m r = sz at *
  generalize nmF A c.m r 0 = nm at *
  by_cases q1 : kd = 6
  · have q1b : (kd != 6) = false := by simpa using q1
    by_cases q2 : sz = 3
    · have q2b : (sz != 3) = false := by simpa using q2
      rw [if_neg (by omega)]
      by_cases q3 : nm = 0
      · have q3b : (nm != 0) = false := by simpa using q3
        rw [if_neg (by omega)]
        clear q1 q2 q3
        go_enter Try.func113, Try.ntmps113
        go_wp2_with fail
        refine (CV.out _ h).mono ?_
        rintro e w' ⟨rfl, rfl⟩
        go_wp2_with fail
        refine (CK.out _ h).mono ?_
        rintro e w1 ⟨rfl, h1⟩
        have k1 := h1.k0
        go_wp2_with fail
        refine (CV.out _ h1).mono ?_
        rintro e w' ⟨rfl, rfl⟩
        go_wp2_with fail
        refine (CZ.out _ h1).mono ?_
        rintro e w2 ⟨rfl, h2⟩
        go_wp2_with fail
        refine (CN.out _ h2).mono ?_
        rintro e w3 ⟨rfl, h3⟩
        go_wp2
        go_ret
        exact ⟨rfl, h3⟩
      · have q3b : (nm != 0) = true := by simpa using q3
        rw [if_pos q3]
        clear q1 q2 q3
        go_enter Try.func113, Try.ntmps113
        go_wp2_with fail
        refine (CV.out _ h).mono ?_
        rintro e w' ⟨rfl, rfl⟩
        go_wp2_with fail
        refine (CK.out _ h).mono ?_
        rintro e w1 ⟨rfl, h1⟩
        have k1 := h1.k0
        go_wp2_with fail
        refine (CV.out _ h1).mono ?_
        rintro e w' ⟨rfl, rfl⟩
        go_wp2_with fail
        refine (CZ.out _ h1).mono ?_
        rintro e w2 ⟨rfl, h2⟩
        go_wp2_with fail
        refine (CN.out _ h2).mono ?_
        rintro e w3 ⟨rfl, h3⟩
        go_wp2
        go_ret
        exact ⟨rfl, h3⟩
    · have q2b : (sz != 3) = true := by simpa using q2
      rw [if_pos (.inr q2)]
      clear q1 q2
      go_enter Try.func113, Try.ntmps113
      go_wp2_with fail
      refine (CV.out _ h).mono ?_
      rintro e w' ⟨rfl, rfl⟩
      go_wp2_with fail
      refine (CK.out _ h).mono ?_
      rintro e w1 ⟨rfl, h1⟩
      have k1 := h1.k0
      go_wp2_with fail
      refine (CV.out _ h1).mono ?_
      rintro e w' ⟨rfl, rfl⟩
      go_wp2_with fail
      refine (CZ.out _ h1).mono ?_
      rintro e w2 ⟨rfl, h2⟩
      go_wp2
      go_ret
      exact ⟨rfl, h2⟩
  · have q1b : (kd != 6) = true := by simpa using q1
    rw [if_pos (.inl q1)]
    clear q1
    go_enter Try.func113, Try.ntmps113
    go_wp2_with fail
    refine (CV.out _ h).mono ?_
    rintro e w' ⟨rfl, rfl⟩
    go_wp2_with fail
    refine (CK.out _ h).mono ?_
    rintro e w1 ⟨rfl, h1⟩
    have k1 := h1.k0
    go_wp2
    go_ret
    exact ⟨rfl, h1⟩
def leftF (A : Ar) (m : Nat) (top : Int) : Int := if hasF A m top = true then gtF A m (gtF A m top 3) 1 else 45
theorem kleave_no (h : St w0 w c A top last) (hb : emptyF A c.m top = false ∨ lowF A c.m top = true) : Calls Try.prog 59 #[.pointer (some ⟨c.kb, 0, none⟩)] w fun e w' => e = .returned (.tuple #[.int .u64 45, .bool false]) ∧ St w0 w' c A top last := by
  cases h1 : emptyF A c.m top with
  | false =>
    clear hb
    go_enter Try.func59, Try.ntmps59
    go_wp2_with (first | (go_at_call 103; refine (ktop_c (by assumption)).mono ?_; rintro e w' ⟨rfl, rfl⟩) | (go_at_call 112; refine (kempty_c (by assumption) _ (by first | assumption | exact St.gw (by assumption) _ _ | exact St.tw (by assumption) | exact w64_45 | exact w64_0 | exact smW_w _)).mono ?_; rintro e w' ⟨rfl, _⟩) | (go_at_call 115; refine (klowest_c (by assumption) _ (by first | assumption | exact St.gw (by assumption) _ _ | exact St.tw (by assumption) | exact w64_45 | exact w64_0 | exact smW_w _)).mono ?_; rintro e w' ⟨rfl, _⟩) | (go_at_call 98; refine (nothing_c _).mono ?_; rintro e w' ⟨rfl, rfl⟩) | (go_at_call 111; refine (khandler_c (by assumption) _ (by first | assumption | exact St.gw (by assumption) _ _ | exact St.tw (by assumption) | exact w64_45 | exact w64_0 | exact smW_w _)).mono ?_; rintro e w' ⟨rfl, _⟩) | (go_at_call 102; refine (kget_c (by assumption) _ _ (by first | assumption | exact St.gw (by assumption) _ _ | exact St.tw (by assumption) | exact w64_45 | exact w64_0 | exact smW_w _) (by first | exact I64.of (by omega) | assumption)).mono ?_; rintro e w' ⟨rfl, _⟩) | (go_at_call 107; refine (kturn_c (by assumption) _ (by first | assumption | exact St.gw (by assumption) _ _ | exact St.tw (by assumption) | exact w64_45 | exact w64_0 | exact smW_w _)).mono ?_; rintro e w' ⟨rfl, _⟩))
    go_ret2
    exact ⟨rfl, by assumption⟩
  | true =>
    have h2 : lowF A c.m top = true := by rcases hb with h | h; rw [h1] at h; cases h; exact h
    clear hb
    go_enter Try.func59, Try.ntmps59
    go_wp2_with (first | (go_at_call 103; refine (ktop_c (by assumption)).mono ?_; rintro e w' ⟨rfl, rfl⟩) | (go_at_call 112; refine (kempty_c (by assumption) _ (by first | assumption | exact St.gw (by assumption) _ _ | exact St.tw (by assumption) | exact w64_45 | exact w64_0 | exact smW_w _)).mono ?_; rintro e w' ⟨rfl, _⟩) | (go_at_call 115; refine (klowest_c (by assumption) _ (by first | assumption | exact St.gw (by assumption) _ _ | exact St.tw (by assumption) | exact w64_45 | exact w64_0 | exact smW_w _)).mono ?_; rintro e w' ⟨rfl, _⟩) | (go_at_call 98; refine (nothing_c _).mono ?_; rintro e w' ⟨rfl, rfl⟩) | (go_at_call 111; refine (khandler_c (by assumption) _ (by first | assumption | exact St.gw (by assumption) _ _ | exact St.tw (by assumption) | exact w64_45 | exact w64_0 | exact smW_w _)).mono ?_; rintro e w' ⟨rfl, _⟩) | (go_at_call 102; refine (kget_c (by assumption) _ _ (by first | assumption | exact St.gw (by assumption) _ _ | exact St.tw (by assumption) | exact w64_45 | exact w64_0 | exact smW_w _) (by first | exact I64.of (by omega) | assumption)).mono ?_; rintro e w' ⟨rfl, _⟩) | (go_at_call 107; refine (kturn_c (by assumption) _ (by first | assumption | exact St.gw (by assumption) _ _ | exact St.tw (by assumption) | exact w64_45 | exact w64_0 | exact smW_w _)).mono ?_; rintro e w' ⟨rfl, _⟩))
    go_ret2
    exact ⟨rfl, by assumption⟩
theorem kleave_yes (h : St w0 w c A top last) (he : emptyF A c.m top = true) (hl : lowF A c.m top = false) : Calls Try.prog 59 #[.pointer (some ⟨c.kb, 0, none⟩)] w fun e w' => e = .returned (.tuple #[.int .u64 (leftF A c.m top), .bool true]) ∧ St w0 w' c A (gtF A c.m top 0) (.pointer none) := by
  unfold leftF
  cases hh : hasF A c.m top with
  | false =>
    rw [if_neg Bool.false_ne_true]
    go_enter Try.func59, Try.ntmps59
    go_wp2_with (first | (go_at_call 103; refine (ktop_c (by assumption)).mono ?_; rintro e w' ⟨rfl, rfl⟩) | (go_at_call 112; refine (kempty_c (by assumption) _ (by first | assumption | exact St.gw (by assumption) _ _ | exact St.tw (by assumption) | exact w64_45 | exact w64_0 | exact smW_w _)).mono ?_; rintro e w' ⟨rfl, _⟩) | (go_at_call 115; refine (klowest_c (by assumption) _ (by first | assumption | exact St.gw (by assumption) _ _ | exact St.tw (by assumption) | exact w64_45 | exact w64_0 | exact smW_w _)).mono ?_; rintro e w' ⟨rfl, _⟩) | (go_at_call 98; refine (nothing_c _).mono ?_; rintro e w' ⟨rfl, rfl⟩) | (go_at_call 111; refine (khandler_c (by assumption) _ (by first | assumption | exact St.gw (by assumption) _ _ | exact St.tw (by assumption) | exact w64_45 | exact w64_0 | exact smW_w _)).mono ?_; rintro e w' ⟨rfl, _⟩) | (go_at_call 102; refine (kget_c (by assumption) _ _ (by first | assumption | exact St.gw (by assumption) _ _ | exact St.tw (by assumption) | exact w64_45 | exact w64_0 | exact smW_w _) (by first | exact I64.of (by omega) | assumption)).mono ?_; rintro e w' ⟨rfl, _⟩) | (go_at_call 107; refine (kturn_c (by assumption) _ (by first | assumption | exact St.gw (by assumption) _ _ | exact St.tw (by assumption) | exact w64_45 | exact w64_0 | exact smW_w _)).mono ?_; rintro e w' ⟨rfl, _⟩))
    go_ret2
    exact ⟨rfl, by assumption⟩
  | true =>
    rw [if_pos rfl]
    go_enter Try.func59, Try.ntmps59
    go_wp2_with (first | (go_at_call 103; refine (ktop_c (by assumption)).mono ?_; rintro e w' ⟨rfl, rfl⟩) | (go_at_call 112; refine (kempty_c (by assumption) _ (by first | assumption | exact St.gw (by assumption) _ _ | exact St.tw (by assumption) | exact w64_45 | exact w64_0 | exact smW_w _)).mono ?_; rintro e w' ⟨rfl, _⟩) | (go_at_call 115; refine (klowest_c (by assumption) _ (by first | assumption | exact St.gw (by assumption) _ _ | exact St.tw (by assumption) | exact w64_45 | exact w64_0 | exact smW_w _)).mono ?_; rintro e w' ⟨rfl, _⟩) | (go_at_call 98; refine (nothing_c _).mono ?_; rintro e w' ⟨rfl, rfl⟩) | (go_at_call 111; refine (khandler_c (by assumption) _ (by first | assumption | exact St.gw (by assumption) _ _ | exact St.tw (by assumption) | exact w64_45 | exact w64_0 | exact smW_w _)).mono ?_; rintro e w' ⟨rfl, _⟩) | (go_at_call 102; refine (kget_c (by assumption) _ _ (by first | assumption | exact St.gw (by assumption) _ _ | exact St.tw (by assumption) | exact w64_45 | exact w64_0 | exact smW_w _) (by first | exact I64.of (by omega) | assumption)).mono ?_; rintro e w' ⟨rfl, _⟩) | (go_at_call 107; refine (kturn_c (by assumption) _ (by first | assumption | exact St.gw (by assumption) _ _ | exact St.tw (by assumption) | exact w64_45 | exact w64_0 | exact smW_w _)).mono ?_; rintro e w' ⟨rfl, _⟩))
    go_ret2
    exact ⟨rfl, by assumption⟩
/-- The fiber on which those of a resumption are put. -/
def ontoF (A : Ar) (m : Nat) (top : Int) : Int := if hasF A m top = false ∧ emptyF A m top = true ∧ lowF A m top = false then gtF A m top 0 else top
def resF (A : Ar) (m : Nat) (top r : Int) : Ar := stF (stF (stF (stF A m (gtF A m r 2) 0 (ontoF A m top)) m r 0 (smW 1)) m r 1 45) m r 2 45
theorem kresume_no (h : St w0 w c A top last) (r : Int) (hr : W64 r) (hf : freshF A c.m r ≠ 0) : Calls Try.prog 53 #[.pointer (some ⟨c.kb, 0, none⟩), .int .u64 r] w fun e w' => e = .returned (.int .i64 (freshF A c.m r)) ∧ St w0 w' c A top last := by
  have CF := Lib.hid (kfresh_c h r hr)
  have hf2 : (freshF A c.m r != 0) = true := by simpa using hf
  clear hf
  generalize freshF A c.m r = z at *
  go_enter Try.func53, Try.ntmps53
  go_wp2_with (go_at_call 113; refine CF.out.mono ?_; rintro e w' ⟨rfl, _⟩)
  go_ret
  exact ⟨rfl, by assumption⟩
theorem kresume_yes (h : St w0 w c A top last) (r : Int) (hr : W64 r) (hf : freshF A c.m r = 0) : Calls Try.prog 53 #[.pointer (some ⟨c.kb, 0, none⟩), .int .u64 r] w fun e w' => e = .returned (.int .i64 0) ∧ St w0 w' c (resF A c.m top r) (gtF A c.m r 1) (.pointer none) := by
  have CF := Lib.hid (kfresh_c h r hr)
  rw [hf] at CF
  clear hf
  unfold resF ontoF
  cases hh : hasF A c.m top with
  | true =>
    rw [if_neg (by simp)]
    go_enter Try.func53, Try.ntmps53
    go_wp2_with (first | (go_at_call 113; refine CF.out.mono ?_; rintro e w' ⟨rfl, _⟩) | (first | (go_at_call 103; refine (ktop_c (by assumption)).mono ?_; rintro e w' ⟨rfl, rfl⟩) | (go_at_call 112; refine (kempty_c (by assumption) _ (by first | assumption | exact St.gw (by assumption) _ _ | exact St.tw (by assumption) | exact w64_45 | exact w64_0 | exact smW_w _)).mono ?_; rintro e w' ⟨rfl, _⟩) | (go_at_call 115; refine (klowest_c (by assumption) _ (by first | assumption | exact St.gw (by assumption) _ _ | exact St.tw (by assumption) | exact w64_45 | exact w64_0 | exact smW_w _)).mono ?_; rintro e w' ⟨rfl, _⟩) | (go_at_call 98; refine (nothing_c _).mono ?_; rintro e w' ⟨rfl, rfl⟩) | (go_at_call 111; refine (khandler_c (by assumption) _ (by first | assumption | exact St.gw (by assumption) _ _ | exact St.tw (by assumption) | exact w64_45 | exact w64_0 | exact smW_w _)).mono ?_; rintro e w' ⟨rfl, _⟩) | (go_at_call 102; refine (kget_c (by assumption) _ _ (by first | assumption | exact St.gw (by assumption) _ _ | exact St.tw (by assumption) | exact w64_45 | exact w64_0 | exact smW_w _) (by first | exact I64.of (by omega) | assumption)).mono ?_; rintro e w' ⟨rfl, _⟩) | (go_at_call 107; refine (kturn_c (by assumption) _ (by first | assumption | exact St.gw (by assumption) _ _ | exact St.tw (by assumption) | exact w64_45 | exact w64_0 | exact smW_w _)).mono ?_; rintro e w' ⟨rfl, _⟩) | (go_at_call 104; refine (kset_c (by assumption) _ _ _ (by first | assumption | exact St.gw (by assumption) _ _ | exact St.tw (by assumption) | exact w64_45 | exact w64_0 | exact smW_w _) (by first | exact I64.of (by omega) | assumption) (by first | assumption | exact St.gw (by assumption) _ _ | exact St.tw (by assumption) | exact w64_45 | exact w64_0 | exact smW_w _)).mono ?_; rintro e w' ⟨rfl, _⟩) | (go_at_call 101; refine (small_c _ _ (by omega) (by omega)).mono ?_; rintro e w' ⟨rfl, rfl⟩)))
    go_ret
    exact ⟨rfl, by assumption⟩
  | false =>
    cases he : emptyF A c.m top with
    | false =>
      rw [if_neg (by simp)]
      go_enter Try.func53, Try.ntmps53
      go_wp2_with (first | (go_at_call 113; refine CF.out.mono ?_; rintro e w' ⟨rfl, _⟩) | (first | (go_at_call 103; refine (ktop_c (by assumption)).mono ?_; rintro e w' ⟨rfl, rfl⟩) | (go_at_call 112; refine (kempty_c (by assumption) _ (by first | assumption | exact St.gw (by assumption) _ _ | exact St.tw (by assumption) | exact w64_45 | exact w64_0 | exact smW_w _)).mono ?_; rintro e w' ⟨rfl, _⟩) | (go_at_call 115; refine (klowest_c (by assumption) _ (by first | assumption | exact St.gw (by assumption) _ _ | exact St.tw (by assumption) | exact w64_45 | exact w64_0 | exact smW_w _)).mono ?_; rintro e w' ⟨rfl, _⟩) | (go_at_call 98; refine (nothing_c _).mono ?_; rintro e w' ⟨rfl, rfl⟩) | (go_at_call 111; refine (khandler_c (by assumption) _ (by first | assumption | exact St.gw (by assumption) _ _ | exact St.tw (by assumption) | exact w64_45 | exact w64_0 | exact smW_w _)).mono ?_; rintro e w' ⟨rfl, _⟩) | (go_at_call 102; refine (kget_c (by assumption) _ _ (by first | assumption | exact St.gw (by assumption) _ _ | exact St.tw (by assumption) | exact w64_45 | exact w64_0 | exact smW_w _) (by first | exact I64.of (by omega) | assumption)).mono ?_; rintro e w' ⟨rfl, _⟩) | (go_at_call 107; refine (kturn_c (by assumption) _ (by first | assumption | exact St.gw (by assumption) _ _ | exact St.tw (by assumption) | exact w64_45 | exact w64_0 | exact smW_w _)).mono ?_; rintro e w' ⟨rfl, _⟩) | (go_at_call 104; refine (kset_c (by assumption) _ _ _ (by first | assumption | exact St.gw (by assumption) _ _ | exact St.tw (by assumption) | exact w64_45 | exact w64_0 | exact smW_w _) (by first | exact I64.of (by omega) | assumption) (by first | assumption | exact St.gw (by assumption) _ _ | exact St.tw (by assumption) | exact w64_45 | exact w64_0 | exact smW_w _)).mono ?_; rintro e w' ⟨rfl, _⟩) | (go_at_call 101; refine (small_c _ _ (by omega) (by omega)).mono ?_; rintro e w' ⟨rfl, rfl⟩)))
      go_ret
      exact ⟨rfl, by assumption⟩
    | true =>
      cases hl : lowF A c.m top with
      | true =>
        rw [if_neg (by simp)]
        go_enter Try.func53, Try.ntmps53
        go_wp2_with (first | (go_at_call 113; refine CF.out.mono ?_; rintro e w' ⟨rfl, _⟩) | (first | (go_at_call 103; refine (ktop_c (by assumption)).mono ?_; rintro e w' ⟨rfl, rfl⟩) | (go_at_call 112; refine (kempty_c (by assumption) _ (by first | assumption | exact St.gw (by assumption) _ _ | exact St.tw (by assumption) | exact w64_45 | exact w64_0 | exact smW_w _)).mono ?_; rintro e w' ⟨rfl, _⟩) | (go_at_call 115; refine (klowest_c (by assumption) _ (by first | assumption | exact St.gw (by assumption) _ _ | exact St.tw (by assumption) | exact w64_45 | exact w64_0 | exact smW_w _)).mono ?_; rintro e w' ⟨rfl, _⟩) | (go_at_call 98; refine (nothing_c _).mono ?_; rintro e w' ⟨rfl, rfl⟩) | (go_at_call 111; refine (khandler_c (by assumption) _ (by first | assumption | exact St.gw (by assumption) _ _ | exact St.tw (by assumption) | exact w64_45 | exact w64_0 | exact smW_w _)).mono ?_; rintro e w' ⟨rfl, _⟩) | (go_at_call 102; refine (kget_c (by assumption) _ _ (by first | assumption | exact St.gw (by assumption) _ _ | exact St.tw (by assumption) | exact w64_45 | exact w64_0 | exact smW_w _) (by first | exact I64.of (by omega) | assumption)).mono ?_; rintro e w' ⟨rfl, _⟩) | (go_at_call 107; refine (kturn_c (by assumption) _ (by first | assumption | exact St.gw (by assumption) _ _ | exact St.tw (by assumption) | exact w64_45 | exact w64_0 | exact smW_w _)).mono ?_; rintro e w' ⟨rfl, _⟩) | (go_at_call 104; refine (kset_c (by assumption) _ _ _ (by first | assumption | exact St.gw (by assumption) _ _ | exact St.tw (by assumption) | exact w64_45 | exact w64_0 | exact smW_w _) (by first | exact I64.of (by omega) | assumption) (by first | assumption | exact St.gw (by assumption) _ _ | exact St.tw (by assumption) | exact w64_45 | exact w64_0 | exact smW_w _)).mono ?_; rintro e w' ⟨rfl, _⟩) | (go_at_call 101; refine (small_c _ _ (by omega) (by omega)).mono ?_; rintro e w' ⟨rfl, rfl⟩)))
        go_ret
        exact ⟨rfl, by assumption⟩
      | false =>
        rw [if_pos (by simp)]
        go_enter Try.func53, Try.ntmps53
        go_wp2_with (first | (go_at_call 113; refine CF.out.mono ?_; rintro e w' ⟨rfl, _⟩) | (first | (go_at_call 103; refine (ktop_c (by assumption)).mono ?_; rintro e w' ⟨rfl, rfl⟩) | (go_at_call 112; refine (kempty_c (by assumption) _ (by first | assumption | exact St.gw (by assumption) _ _ | exact St.tw (by assumption) | exact w64_45 | exact w64_0 | exact smW_w _)).mono ?_; rintro e w' ⟨rfl, _⟩) | (go_at_call 115; refine (klowest_c (by assumption) _ (by first | assumption | exact St.gw (by assumption) _ _ | exact St.tw (by assumption) | exact w64_45 | exact w64_0 | exact smW_w _)).mono ?_; rintro e w' ⟨rfl, _⟩) | (go_at_call 98; refine (nothing_c _).mono ?_; rintro e w' ⟨rfl, rfl⟩) | (go_at_call 111; refine (khandler_c (by assumption) _ (by first | assumption | exact St.gw (by assumption) _ _ | exact St.tw (by assumption) | exact w64_45 | exact w64_0 | exact smW_w _)).mono ?_; rintro e w' ⟨rfl, _⟩) | (go_at_call 102; refine (kget_c (by assumption) _ _ (by first | assumption | exact St.gw (by assumption) _ _ | exact St.tw (by assumption) | exact w64_45 | exact w64_0 | exact smW_w _) (by first | exact I64.of (by omega) | assumption)).mono ?_; rintro e w' ⟨rfl, _⟩) | (go_at_call 107; refine (kturn_c (by assumption) _ (by first | assumption | exact St.gw (by assumption) _ _ | exact St.tw (by assumption) | exact w64_45 | exact w64_0 | exact smW_w _)).mono ?_; rintro e w' ⟨rfl, _⟩) | (go_at_call 104; refine (kset_c (by assumption) _ _ _ (by first | assumption | exact St.gw (by assumption) _ _ | exact St.tw (by assumption) | exact w64_45 | exact w64_0 | exact smW_w _) (by first | exact I64.of (by omega) | assumption) (by first | assumption | exact St.gw (by assumption) _ _ | exact St.tw (by assumption) | exact w64_45 | exact w64_0 | exact smW_w _)).mono ?_; rintro e w' ⟨rfl, _⟩) | (go_at_call 101; refine (small_c _ _ (by omega) (by omega)).mono ?_; rintro e w' ⟨rfl, rfl⟩)))
        go_ret
        exact ⟨rfl, by assumption⟩
/-- The fiber that stands so many below one; none: there are not so many. -/
def dnF (A : Ar) (m : Nat) : Nat → Int → Option Int
  | 0, f => some f
  | n + 1, f => if lowF A m f = true then none else dnF A m n (gtF A m f 0)
def dnVal (A : Ar) (m : Nat) : Option Int → Value
  | none => .tuple #[.int .u64 0, .bool false]
  | some f => .tuple #[.int .u64 f, .bool (!lowF A m f)]
theorem kdown_c (h : St w0 w c A top last) (up : Nat) (hup : up ≤ 1000000000) : Calls Try.prog 110 #[.pointer (some ⟨c.kb, 0, none⟩), .int .i64 (up : Int)] w fun e w' => e = .returned (dnVal A c.m (dnF A c.m up top)) ∧ St w0 w' c A top last := by
  have CT := Lib.hid (ktop_c h)
  have ht := h.tw
  have h0 : Hid (St w0 w c A top last) := Lib.hid h
  obtain ⟨D, hD⟩ : ∃ D, D = dnF A c.m up top := ⟨_, rfl⟩
  rw [← hD]
  have HD := Lib.hid hD
  clear hD h
  go_enter Try.func110, Try.ntmps110
  go_wp2_with fail
  refine CT.out.mono ?_
  rintro e w' ⟨rfl, rfl⟩
  clear CT
  go_wp2
  go_loopw [6, 10] (fun f y wr => ∃ (k : Nat) (g : Int), k ≤ up ∧ y = .int .i64 (k : Int) ∧ f = .int .u64 g ∧ Hid (W64 g) ∧ Hid (D = dnF A c.m (up - k) g) ∧ Hid (St w0 wr c A top last)) (fun _ y _ => up - (intOf y).toNat)
  case atStart => exact ⟨0, top, Nat.zero_le _, rfl, rfl, Lib.hid ht, HD, h0⟩
  case round =>
    obtain ⟨k, g, hk, rfl, rfl, hg, hE, hS⟩ := hrel
    clear h0 HD ht
    have CL := Lib.hid (klowest_c hS.out g hg.out)
    by_cases hlt : k < up
    · have E : Hid (D = if lowF A c.m g = true then none else dnF A c.m (up - (k + 1)) (gtF A c.m g 0)) := Lib.hid (by rw [hE.out, show up - k = (up - (k + 1)) + 1 by omega]; rfl)
      cases hl : lowF A c.m g with
      | true =>
        rw [hl] at CL
        have E2 : Hid (D = none) := Lib.hid (by rw [E.out, hl, if_pos rfl])
        clear hl E hE
        go_wp2_with fail
        refine CL.out.mono ?_
        rintro e w1 ⟨rfl, h1⟩
        go_wp2
        go_ret2
        exact ⟨by rw [E2.out]; rfl, h1⟩
      | false =>
        rw [hl] at CL
        have E2 : Hid (D = dnF A c.m (up - (k + 1)) (gtF A c.m g 0)) := Lib.hid (by rw [E.out, hl, if_neg Bool.false_ne_true])
        have CG := Lib.hid (fun w1 (h1 : St w0 w1 c A top last) => kget_c h1 g 0 hg.out (I64.of (by omega)))
        have G2 := Lib.hid (hS.out.gw g 0)
        clear hl E hE
        go_wp2_with fail
        refine CL.out.mono ?_
        rintro e w1 ⟨rfl, h1⟩
        go_wp2_with fail
        refine (CG.out _ h1).mono ?_
        rintro e w2 ⟨rfl, h2⟩
        have h2 := Lib.hid h2
        clear h1
        go_wp2
        go_roundw
        case rel => exact ⟨k + 1, _, by omega, by go_num, rfl, G2, E2, h2⟩
        case measure => simp [intOf]; omega
    · have hku : k = up := by omega
      have E2 : Hid (D = some g) := Lib.hid (by rw [hE.out, hku, Nat.sub_self]; rfl)
      clear hE hku
      go_wp2_with fail
      refine CL.out.mono ?_
      rintro e w1 ⟨rfl, h1⟩
      go_wp2
      go_ret2
      exact ⟨by rw [E2.out]; rfl, h1⟩
end Go.Proofs.Ytjgndfhfiekomaa
