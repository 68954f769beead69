/- Fibers: room for a frame, frames pushed. -/
import Derived.Test.YtjgndfhfiekomaaFibH
namespace Go.Proofs.Ytjgndfhfiekomaa
open Go.ChangeShapes Go.WideShapes Go.RowKit
variable {w0 w w1 w' : World} {c : Sk} {A A' : Ar} {top : Int} {last : Value}
def placeF (A : Ar) (m : Nat) (top need : Int) : Ar × Option Int :=
  if rmF A m (gtF A m top 1) = 0 then segF A m 45 (max need 24)
  else if nmF A m (gtF A m top 1) 1 + need ≤ rmF A m (gtF A m top 1) then (A, some (gtF A m top 1))
  else if nmF A m (gtF A m top 1) 1 + need ≤ 238 then grownF A m (gtF A m top 1) need
  else segF A m (gtF A m top 1) (max need 24)
theorem rmF_b (wd : A.Wd) {m : Nat} {x : Int} (hx : W64 x) : 0 ≤ rmF A m x ∧ rmF A m x ≤ 9007199254740992 := by
  have := szF_b wd (m := m) hx
  unfold rmF; omega
set_option maxHeartbeats 1000000 in
theorem kplace_c (h : St w0 w c A top last) (need : Int) (n0 : 0 ≤ need) (n1 : need ≤ 1000) (hU : rmF A c.m (gtF A c.m top 1) ≠ 0 → 0 ≤ nmF A c.m (gtF A c.m top 1) 1 ∧ nmF A c.m (gtF A c.m top 1) 1 ≤ 1000) : Calls Try.prog 99 #[.pointer (some ⟨c.kb, 0, none⟩), .int .i64 need] w fun e w' => e = .returned (wordVal (placeF A c.m top need).2) ∧ St w0 w' c (placeF A c.m top need).1 top last := by
  obtain ⟨rb0, rb1⟩ := rmF_b h.a.wd (m := c.m) (h.gw top 1)
  unfold placeF
  by_cases hr : rmF A c.m (gtF A c.m top 1) = 0
  · rw [if_pos hr]
    have hr2 : (rmF A c.m (gtF A c.m top 1) == 0) = true := by simpa using hr
    have CS := Lib.hid (fun w1 (h1 : St w0 w1 c A top last) => ksegment_c h1 45 (max need 24) w64_45 (by omega) (by omega))
    obtain ⟨x, b, hxb⟩ := wordVal_tuple (segF A c.m 45 (max need 24)).2
    rw [hxb] at CS ⊢
    clear hr hxb hU rb0 rb1
    by_cases h24 : need < 24
    · have e24 : max need 24 = 24 := by omega
      rw [e24] at CS ⊢
      clear e24
      go_enter Try.func99, Try.ntmps99
      go_wp2_with (first | (go_at_call 140; refine (CS.out _ (by assumption)).mono ?_; rintro e w' ⟨rfl, h9⟩) | (first | (go_at_call 103; refine (ktop_c (by assumption)).mono ?_; rintro e w' ⟨rfl, rfl⟩) | (go_at_call 102; refine (kget_c (by assumption) _ _ (by first | assumption | exact St.gw (by assumption) _ _ | exact St.tw (by assumption) | exact w64_45 | exact w64_0 | exact smW_w _) (by first | exact I64.of (by omega) | assumption)).mono ?_; rintro e w' ⟨rfl, _⟩) | (go_at_call 139; refine (kroom_c (by assumption) _ (by first | assumption | exact St.gw (by assumption) _ _ | exact St.tw (by assumption) | exact w64_45 | exact w64_0 | exact smW_w _)).mono ?_; rintro e w' ⟨rfl, _⟩) | (go_at_call 98; refine (nothing_c _).mono ?_; rintro e w' ⟨rfl, rfl⟩)))
      go_ret2
      exact ⟨rfl, h9⟩
    · have e24 : max need 24 = need := by omega
      rw [e24] at CS ⊢
      clear e24
      go_enter Try.func99, Try.ntmps99
      go_wp2_with (first | (go_at_call 140; refine (CS.out _ (by assumption)).mono ?_; rintro e w' ⟨rfl, h9⟩) | (first | (go_at_call 103; refine (ktop_c (by assumption)).mono ?_; rintro e w' ⟨rfl, rfl⟩) | (go_at_call 102; refine (kget_c (by assumption) _ _ (by first | assumption | exact St.gw (by assumption) _ _ | exact St.tw (by assumption) | exact w64_45 | exact w64_0 | exact smW_w _) (by first | exact I64.of (by omega) | assumption)).mono ?_; rintro e w' ⟨rfl, _⟩) | (go_at_call 139; refine (kroom_c (by assumption) _ (by first | assumption | exact St.gw (by assumption) _ _ | exact St.tw (by assumption) | exact w64_45 | exact w64_0 | exact smW_w _)).mono ?_; rintro e w' ⟨rfl, _⟩) | (go_at_call 98; refine (nothing_c _).mono ?_; rintro e w' ⟨rfl, rfl⟩)))
      go_ret2
      exact ⟨rfl, h9⟩
  · rw [if_neg hr]
    have hr2 : (rmF A c.m (gtF A c.m top 1) == 0) = false := by simpa using hr
    obtain ⟨u0, u1⟩ := hU hr
    by_cases hle : nmF A c.m (gtF A c.m top 1) 1 + need ≤ rmF A c.m (gtF A c.m top 1)
    · rw [if_pos hle]
      clear hr hU
      simp only [wordVal]
      go_enter Try.func99, Try.ntmps99
      go_wp2_with (first | (go_at_call 103; refine (ktop_c (by assumption)).mono ?_; rintro e w' ⟨rfl, rfl⟩) | (go_at_call 102; refine (kget_c (by assumption) _ _ (by first | assumption | exact St.gw (by assumption) _ _ | exact St.tw (by assumption) | exact w64_45 | exact w64_0 | exact smW_w _) (by first | exact I64.of (by omega) | assumption)).mono ?_; rintro e w' ⟨rfl, _⟩) | (go_at_call 139; refine (kroom_c (by assumption) _ (by first | assumption | exact St.gw (by assumption) _ _ | exact St.tw (by assumption) | exact w64_45 | exact w64_0 | exact smW_w _)).mono ?_; rintro e w' ⟨rfl, _⟩) | (go_at_call 98; refine (nothing_c _).mono ?_; rintro e w' ⟨rfl, rfl⟩) | (go_at_call 100; refine (kused_c (by assumption) _ (by first | assumption | exact St.gw (by assumption) _ _ | exact St.tw (by assumption) | exact w64_45 | exact w64_0 | exact smW_w _)).mono ?_; rintro e w' ⟨rfl, _⟩))
      go_ret2
      exact ⟨rfl, by assumption⟩
    · rw [if_neg hle]
      by_cases h238 : nmF A c.m (gtF A c.m top 1) 1 + need ≤ 238
      · rw [if_pos h238]
        have CG := Lib.hid (fun w1 (h1 : St w0 w1 c A top last) => kgrown_c h1 (gtF A c.m top 1) need (h.gw _ _) n0 n1 u0 u1)
        obtain ⟨x, b, hxb⟩ := wordVal_tuple (grownF A c.m (gtF A c.m top 1) need).2
        rw [hxb] at CG ⊢
        clear hr hU hxb
        go_enter Try.func99, Try.ntmps99
        go_wp2_with (first | (go_at_call 141; refine (CG.out _ (by assumption)).mono ?_; rintro e w' ⟨rfl, h9⟩) | (first | (go_at_call 103; refine (ktop_c (by assumption)).mono ?_; rintro e w' ⟨rfl, rfl⟩) | (go_at_call 102; refine (kget_c (by assumption) _ _ (by first | assumption | exact St.gw (by assumption) _ _ | exact St.tw (by assumption) | exact w64_45 | exact w64_0 | exact smW_w _) (by first | exact I64.of (by omega) | assumption)).mono ?_; rintro e w' ⟨rfl, _⟩) | (go_at_call 139; refine (kroom_c (by assumption) _ (by first | assumption | exact St.gw (by assumption) _ _ | exact St.tw (by assumption) | exact w64_45 | exact w64_0 | exact smW_w _)).mono ?_; rintro e w' ⟨rfl, _⟩) | (go_at_call 98; refine (nothing_c _).mono ?_; rintro e w' ⟨rfl, rfl⟩) | (go_at_call 100; refine (kused_c (by assumption) _ (by first | assumption | exact St.gw (by assumption) _ _ | exact St.tw (by assumption) | exact w64_45 | exact w64_0 | exact smW_w _)).mono ?_; rintro e w' ⟨rfl, _⟩)))
        go_ret2
        exact ⟨rfl, h9⟩
      · rw [if_neg h238]
        have CS := Lib.hid (fun w1 (h1 : St w0 w1 c A top last) => ksegment_c h1 (gtF A c.m top 1) (max need 24) (h.gw _ _) (by omega) (by omega))
        obtain ⟨x, b, hxb⟩ := wordVal_tuple (segF A c.m (gtF A c.m top 1) (max need 24)).2
        rw [hxb] at CS ⊢
        clear hr hxb hU
        by_cases h24 : need < 24
        · have e24 : max need 24 = 24 := by omega
          rw [e24] at CS ⊢
          clear e24
          go_enter Try.func99, Try.ntmps99
          go_wp2_with (first | (go_at_call 140; refine (CS.out _ (by assumption)).mono ?_; rintro e w' ⟨rfl, h9⟩) | (first | (go_at_call 103; refine (ktop_c (by assumption)).mono ?_; rintro e w' ⟨rfl, rfl⟩) | (go_at_call 102; refine (kget_c (by assumption) _ _ (by first | assumption | exact St.gw (by assumption) _ _ | exact St.tw (by assumption) | exact w64_45 | exact w64_0 | exact smW_w _) (by first | exact I64.of (by omega) | assumption)).mono ?_; rintro e w' ⟨rfl, _⟩) | (go_at_call 139; refine (kroom_c (by assumption) _ (by first | assumption | exact St.gw (by assumption) _ _ | exact St.tw (by assumption) | exact w64_45 | exact w64_0 | exact smW_w _)).mono ?_; rintro e w' ⟨rfl, _⟩) | (go_at_call 98; refine (nothing_c _).mono ?_; rintro e w' ⟨rfl, rfl⟩) | (go_at_call 100; refine (kused_c (by assumption) _ (by first | assumption | exact St.gw (by assumption) _ _ | exact St.tw (by assumption) | exact w64_45 | exact w64_0 | exact smW_w _)).mono ?_; rintro e w' ⟨rfl, _⟩)))
          go_ret2
          exact ⟨rfl, h9⟩
        · have e24 : max need 24 = need := by omega
          rw [e24] at CS ⊢
          clear e24
          go_enter Try.func99, Try.ntmps99
          go_wp2_with (first | (go_at_call 140; refine (CS.out _ (by assumption)).mono ?_; rintro e w' ⟨rfl, h9⟩) | (first | (go_at_call 103; refine (ktop_c (by assumption)).mono ?_; rintro e w' ⟨rfl, rfl⟩) | (go_at_call 102; refine (kget_c (by assumption) _ _ (by first | assumption | exact St.gw (by assumption) _ _ | exact St.tw (by assumption) | exact w64_45 | exact w64_0 | exact smW_w _) (by first | exact I64.of (by omega) | assumption)).mono ?_; rintro e w' ⟨rfl, _⟩) | (go_at_call 139; refine (kroom_c (by assumption) _ (by first | assumption | exact St.gw (by assumption) _ _ | exact St.tw (by assumption) | exact w64_45 | exact w64_0 | exact smW_w _)).mono ?_; rintro e w' ⟨rfl, _⟩) | (go_at_call 98; refine (nothing_c _).mono ?_; rintro e w' ⟨rfl, rfl⟩) | (go_at_call 100; refine (kused_c (by assumption) _ (by first | assumption | exact St.gw (by assumption) _ _ | exact St.tw (by assumption) | exact w64_45 | exact w64_0 | exact smW_w _)).mono ?_; rintro e w' ⟨rfl, _⟩)))
          go_ret2
          exact ⟨rfl, h9⟩
/-- A frame's head is written. -/
def headN (A : Ar) (m : Nat) (seg base : Int) (hd : List Int) : Nat → Ar
  | 0 => A
  | k + 1 => stF (headN A m seg base hd k) m seg (2 + base + k) (hd[k]?.getD 0)
/-- A frame's slots are emptied. -/
def voidN (A : Ar) (m : Nat) (seg base : Int) : Nat → Ar
  | 0 => A
  | k + 1 => stF (voidN A m seg base k) m seg (2 + base + 5 + k) (mkW 5 3)
def headL (A : Ar) (m : Nat) (top cl sl wd : Int) : List Int := [cl, smW 0, gtF A m top 2, smW sl, smW wd]
/-- A frame in a segment that has room. -/
def pushS (A : Ar) (m : Nat) (top cl sl wd seg : Int) : Ar :=
  stF (stF (stF (voidN (headN A m seg (nmF A m seg 1) (headL A m top cl sl wd) 5) m seg (nmF A m seg 1) sl.toNat) m seg 1 (smW (nmF A m seg 1 + 5 + sl))) m top 1 seg) m top 2 (smW (nmF A m seg 1))
def pushF (A : Ar) (m : Nat) (top cl sl wd : Int) : Ar × Bool :=
  if sl < 0 ∨ wd < 0 ∨ 180 < sl ∨ 180 - sl < wd then (A, false) else
  match (placeF A m top (5 + sl + wd)).2 with
  | none => ((placeF A m top (5 + sl + wd)).1, false)
  | some seg => (pushS (placeF A m top (5 + sl + wd)).1 m top cl sl wd seg, true)
theorem kpush_bad (h : St w0 w c A top last) (cl sl wd : Int) (hb : sl < 0 ∨ wd < 0 ∨ 180 < sl ∨ 180 - sl < wd) : Calls Try.prog 47 #[.pointer (some ⟨c.kb, 0, none⟩), .int .u64 cl, .int .i64 sl, .int .i64 wd] w fun e w' => e = .returned (.bool false) ∧ St w0 w' c A top last := by
  by_cases q1 : sl < 0
  · go_enter Try.func47, Try.ntmps47
    go_wp2
    go_ret
    exact ⟨rfl, h⟩
  · by_cases q2 : wd < 0
    · go_enter Try.func47, Try.ntmps47
      go_wp2
      go_ret
      exact ⟨rfl, h⟩
    · by_cases q3 : 180 < sl
      · go_enter Try.func47, Try.ntmps47
        go_wp2
        go_ret
        exact ⟨rfl, h⟩
      · have q4 : 180 - sl < wd := by omega
        clear hb
        go_enter Try.func47, Try.ntmps47
        go_wp2
        go_ret
        exact ⟨rfl, h⟩
end Go.Proofs.Ytjgndfhfiekomaa
