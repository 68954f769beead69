/- Fibers: slots, words put and taken, frames popped. -/
import Derived.Test.YtjgndfhfiekomaaFibE
namespace Go.Proofs.Ytjgndfhfiekomaa
open Go.ChangeShapes Go.WideShapes Go.RowKit
variable {w0 w w1 w' : World} {c : Sk} {A A' : Ar} {top : Int} {last : Value}
def slotsF (A : Ar) (m : Nat) (top : Int) : Int := nmF A m (gtF A m top 1) (2 + nmF A m top 2 + 3)
/-- Where a slot of the topmost frame is. -/
def slotF (A : Ar) (m : Nat) (top i : Int) : Option Int := if noF A m top = true then none else if i < 0 ∨ slotsF A m top ≤ i then none else some (2 + nmF A m top 2 + 5 + i)
def slotVal (seg : Int) : Option Int → Value
  | none => .tuple #[.int .u64 0, .int .i64 0, .bool false]
  | some p => .tuple #[.int .u64 seg, .int .i64 p, .bool true]
theorem kslotat_c (h : St w0 w c A top last) (F : FrOk A c.m top) (i : Int) (i0 : -1000000 ≤ i) (i1 : i ≤ 1000000) : Calls Try.prog 117 #[.pointer (some ⟨c.kb, 0, none⟩), .int .i64 i] w fun e w' => e = .returned (slotVal (gtF A c.m top 1) (slotF A c.m top i)) ∧ St w0 w' c A top last := by
  have b0 := F.b0
  have b1 := F.b1
  unfold slotF slotsF
  cases hn : noF A c.m top with
  | true =>
    have t1 := noF_yes hn
    clear hn
    rw [if_pos rfl]
    simp only [slotVal]
    go_enter Try.func117, Try.ntmps117
    go_wp2_with (first | (go_at_call 108; refine (kat_c (by assumption)).mono ?_; rintro e w' ⟨rfl, _⟩) | (go_at_call 109; refine (knum_c (by assumption) _ _ (by first | assumption | exact St.gw (by assumption) _ _ | exact St.tw (by assumption) | exact w64_45 | exact w64_0 | exact smW_w _) (by first | exact I64.of (by omega) | assumption)).mono ?_; rintro e w' ⟨rfl, _⟩))
    go_ret3
    exact ⟨rfl, by assumption⟩
  | false =>
    have t1 := noF_no hn
    obtain ⟨u0, u1⟩ := F.u (noF_ne hn)
    obtain ⟨s0, s1⟩ := F.s (noF_ne hn)
    obtain ⟨r0, r1⟩ := F.r (noF_ne hn)
    clear hn
    rw [if_neg Bool.false_ne_true]
    by_cases hi : i < 0
    · rw [if_pos (.inl hi)]
      simp only [slotVal]
      go_enter Try.func117, Try.ntmps117
      go_wp2_with (first | (go_at_call 108; refine (kat_c (by assumption)).mono ?_; rintro e w' ⟨rfl, _⟩) | (go_at_call 109; refine (knum_c (by assumption) _ _ (by first | assumption | exact St.gw (by assumption) _ _ | exact St.tw (by assumption) | exact w64_45 | exact w64_0 | exact smW_w _) (by first | exact I64.of (by omega) | assumption)).mono ?_; rintro e w' ⟨rfl, _⟩))
      go_ret3
      exact ⟨rfl, by assumption⟩
    · by_cases hs : nmF A c.m (gtF A c.m top 1) (2 + nmF A c.m top 2 + 3) ≤ i
      · rw [if_pos (.inr hs)]
        simp only [slotVal]
        go_enter Try.func117, Try.ntmps117
        go_wp2_with (first | (go_at_call 108; refine (kat_c (by assumption)).mono ?_; rintro e w' ⟨rfl, _⟩) | (go_at_call 109; refine (knum_c (by assumption) _ _ (by first | assumption | exact St.gw (by assumption) _ _ | exact St.tw (by assumption) | exact w64_45 | exact w64_0 | exact smW_w _) (by first | exact I64.of (by omega) | assumption)).mono ?_; rintro e w' ⟨rfl, _⟩))
        go_ret3
        exact ⟨rfl, by assumption⟩
      · rw [if_neg (by omega)]
        simp only [slotVal]
        go_enter Try.func117, Try.ntmps117
        go_wp2_with (first | (go_at_call 108; refine (kat_c (by assumption)).mono ?_; rintro e w' ⟨rfl, _⟩) | (go_at_call 109; refine (knum_c (by assumption) _ _ (by first | assumption | exact St.gw (by assumption) _ _ | exact St.tw (by assumption) | exact w64_45 | exact w64_0 | exact smW_w _) (by first | exact I64.of (by omega) | assumption)).mono ?_; rintro e w' ⟨rfl, _⟩))
        go_ret3
        exact ⟨rfl, by assumption⟩
theorem kslot_c (h : St w0 w c A top last) (F : FrOk A c.m top) (i : Int) (i0 : -1000000 ≤ i) (i1 : i ≤ 1000000) : Calls Try.prog 62 #[.pointer (some ⟨c.kb, 0, none⟩), .int .i64 i] w fun e w' => e = .returned (.int .u64 (match slotF A c.m top i with | none => 45 | some p => gtF A c.m (gtF A c.m top 1) p)) ∧ St w0 w' c A top last := by
  have CH := Lib.hid (kslotat_c h F i i0 i1)
  have PB : ∀ p, slotF A c.m top i = some p → -1000 ≤ p ∧ p ≤ 1005000 := by
    intro p hp
    unfold slotF at hp
    cases hn : noF A c.m top with
    | true => rw [hn, if_pos rfl] at hp; cases hp
    | false =>
      have := F.b0
      have := F.b1
      rw [hn, if_neg Bool.false_ne_true] at hp
      by_cases hc : i < 0 ∨ slotsF A c.m top ≤ i
      · rw [if_pos hc] at hp; cases hp
      · rw [if_neg hc] at hp
        simp at hp
        omega
  cases hs : slotF A c.m top i with
  | none =>
    rw [hs] at CH
    simp only [slotVal] at CH
    clear PB hs
    go_enter Try.func62, Try.ntmps62
    go_wp2_with fail
    refine CH.out.mono ?_
    rintro e w' ⟨rfl, _⟩
    go_wp2_with (first | (go_at_call 98; refine (nothing_c _).mono ?_; rintro e w' ⟨rfl, rfl⟩))
    go_ret
    exact ⟨rfl, by assumption⟩
  | some p =>
    rw [hs] at CH
    simp only [slotVal] at CH
    obtain ⟨p0, p1⟩ := PB p hs
    have hp : I64 p := by unfold I64; omega
    clear PB hs
    go_enter Try.func62, Try.ntmps62
    go_wp2_with fail
    refine CH.out.mono ?_
    rintro e w' ⟨rfl, _⟩
    go_wp2_with (first | (go_at_call 102; refine (kget_c (by assumption) _ _ (by first | assumption | exact St.gw (by assumption) _ _ | exact St.tw (by assumption) | exact w64_45 | exact w64_0 | exact smW_w _) (by first | exact I64.of (by omega) | assumption)).mono ?_; rintro e w' ⟨rfl, _⟩))
    go_ret
    exact ⟨rfl, by assumption⟩
def roomF (A : Ar) (m : Nat) (top : Int) : Int := nmF A m (gtF A m top 1) (2 + nmF A m top 2 + 4)
def usedF (A : Ar) (m : Nat) (top : Int) : Int := nmF A m (gtF A m top 1) 1
def putF (A : Ar) (m : Nat) (top v : Int) : Ar × Bool :=
  if noF A m top = true then (A, false) else if roomF A m top ≤ wordsF A m top then (A, false)
  else (stF (stF A m (gtF A m top 1) (2 + usedF A m top) v) m (gtF A m top 1) 1 (smW (usedF A m top + 1)), true)
theorem kput_c (h : St w0 w c A top last) (F : FrOk A c.m top) (v : Int) (hv : W64 v) : Calls Try.prog 50 #[.pointer (some ⟨c.kb, 0, none⟩), .int .u64 v] w fun e w' => e = .returned (.bool (putF A c.m top v).2) ∧ St w0 w' c (putF A c.m top v).1 top last := by
  have b0 := F.b0
  have b1 := F.b1
  unfold putF
  cases hn : noF A c.m top with
  | true =>
    have t1 := noF_yes hn
    clear hn
    rw [if_pos rfl]
    go_enter Try.func50, Try.ntmps50
    go_wp2_with (first | (go_at_call 108; refine (kat_c (by assumption)).mono ?_; rintro e w' ⟨rfl, _⟩) | (go_at_call 100; refine (kused_c (by assumption) _ (by first | assumption | exact St.gw (by assumption) _ _ | exact St.tw (by assumption) | exact w64_45 | exact w64_0 | exact smW_w _)).mono ?_; rintro e w' ⟨rfl, _⟩) | (go_at_call 109; refine (knum_c (by assumption) _ _ (by first | assumption | exact St.gw (by assumption) _ _ | exact St.tw (by assumption) | exact w64_45 | exact w64_0 | exact smW_w _) (by first | exact I64.of (by omega) | assumption)).mono ?_; rintro e w' ⟨rfl, _⟩) | (go_at_call 56; refine (kwords_c (by assumption) F).mono ?_; rintro e w' ⟨rfl, _⟩) | (go_at_call 104; refine (kset_c (by assumption) _ _ _ (by first | assumption | exact St.gw (by assumption) _ _ | exact St.tw (by assumption) | exact w64_45 | exact w64_0 | exact smW_w _) (by first | exact I64.of (by omega) | assumption) (by first | assumption | exact St.gw (by assumption) _ _ | exact St.tw (by assumption) | exact w64_45 | exact w64_0 | exact smW_w _)).mono ?_; rintro e w' ⟨rfl, _⟩) | (go_at_call 101; refine (small_c _ _ (by omega) (by omega)).mono ?_; rintro e w' ⟨rfl, rfl⟩))
    go_ret
    exact ⟨rfl, by assumption⟩
  | false =>
    have t1 := noF_no hn
    obtain ⟨u0, u1⟩ := F.u (noF_ne hn)
    obtain ⟨s0, s1⟩ := F.s (noF_ne hn)
    obtain ⟨r0, r1⟩ := F.r (noF_ne hn)
    clear hn
    rw [if_neg Bool.false_ne_true]
    by_cases hs : roomF A c.m top ≤ wordsF A c.m top
    · rw [if_pos hs]
      unfold roomF at hs
      go_enter Try.func50, Try.ntmps50
      go_wp2_with (first | (go_at_call 108; refine (kat_c (by assumption)).mono ?_; rintro e w' ⟨rfl, _⟩) | (go_at_call 100; refine (kused_c (by assumption) _ (by first | assumption | exact St.gw (by assumption) _ _ | exact St.tw (by assumption) | exact w64_45 | exact w64_0 | exact smW_w _)).mono ?_; rintro e w' ⟨rfl, _⟩) | (go_at_call 109; refine (knum_c (by assumption) _ _ (by first | assumption | exact St.gw (by assumption) _ _ | exact St.tw (by assumption) | exact w64_45 | exact w64_0 | exact smW_w _) (by first | exact I64.of (by omega) | assumption)).mono ?_; rintro e w' ⟨rfl, _⟩) | (go_at_call 56; refine (kwords_c (by assumption) F).mono ?_; rintro e w' ⟨rfl, _⟩) | (go_at_call 104; refine (kset_c (by assumption) _ _ _ (by first | assumption | exact St.gw (by assumption) _ _ | exact St.tw (by assumption) | exact w64_45 | exact w64_0 | exact smW_w _) (by first | exact I64.of (by omega) | assumption) (by first | assumption | exact St.gw (by assumption) _ _ | exact St.tw (by assumption) | exact w64_45 | exact w64_0 | exact smW_w _)).mono ?_; rintro e w' ⟨rfl, _⟩) | (go_at_call 101; refine (small_c _ _ (by omega) (by omega)).mono ?_; rintro e w' ⟨rfl, rfl⟩))
      go_ret
      exact ⟨rfl, by assumption⟩
    · rw [if_neg hs]
      unfold roomF at hs
      unfold usedF
      go_enter Try.func50, Try.ntmps50
      go_wp2_with (first | (go_at_call 108; refine (kat_c (by assumption)).mono ?_; rintro e w' ⟨rfl, _⟩) | (go_at_call 100; refine (kused_c (by assumption) _ (by first | assumption | exact St.gw (by assumption) _ _ | exact St.tw (by assumption) | exact w64_45 | exact w64_0 | exact smW_w _)).mono ?_; rintro e w' ⟨rfl, _⟩) | (go_at_call 109; refine (knum_c (by assumption) _ _ (by first | assumption | exact St.gw (by assumption) _ _ | exact St.tw (by assumption) | exact w64_45 | exact w64_0 | exact smW_w _) (by first | exact I64.of (by omega) | assumption)).mono ?_; rintro e w' ⟨rfl, _⟩) | (go_at_call 56; refine (kwords_c (by assumption) F).mono ?_; rintro e w' ⟨rfl, _⟩) | (go_at_call 104; refine (kset_c (by assumption) _ _ _ (by first | assumption | exact St.gw (by assumption) _ _ | exact St.tw (by assumption) | exact w64_45 | exact w64_0 | exact smW_w _) (by first | exact I64.of (by omega) | assumption) (by first | assumption | exact St.gw (by assumption) _ _ | exact St.tw (by assumption) | exact w64_45 | exact w64_0 | exact smW_w _)).mono ?_; rintro e w' ⟨rfl, _⟩) | (go_at_call 101; refine (small_c _ _ (by omega) (by omega)).mono ?_; rintro e w' ⟨rfl, rfl⟩))
      go_ret
      exact ⟨rfl, by assumption⟩
def takeF (A : Ar) (m : Nat) (top : Int) : Ar × Int :=
  if wordsF A m top = 0 then (A, 45)
  else (stF A m (gtF A m top 1) 1 (smW (usedF A m top - 1)), gtF (stF A m (gtF A m top 1) 1 (smW (usedF A m top - 1))) m (gtF A m top 1) (2 + (usedF A m top - 1)))
theorem ktake_c (h : St w0 w c A top last) (F : FrOk A c.m top) : Calls Try.prog 57 #[.pointer (some ⟨c.kb, 0, none⟩)] w fun e w' => e = .returned (.int .u64 (takeF A c.m top).2) ∧ St w0 w' c (takeF A c.m top).1 top last := by
  have b0 := F.b0
  have b1 := F.b1
  unfold takeF
  by_cases hw : wordsF A c.m top = 0
  · rw [if_pos hw]
    have hw2 : (wordsF A c.m top == 0) = true := by simpa using hw
    clear hw
    go_enter Try.func57, Try.ntmps57
    go_wp2_with (first | (go_at_call 108; refine (kat_c (by assumption)).mono ?_; rintro e w' ⟨rfl, _⟩) | (go_at_call 100; refine (kused_c (by assumption) _ (by first | assumption | exact St.gw (by assumption) _ _ | exact St.tw (by assumption) | exact w64_45 | exact w64_0 | exact smW_w _)).mono ?_; rintro e w' ⟨rfl, _⟩) | (go_at_call 109; refine (knum_c (by assumption) _ _ (by first | assumption | exact St.gw (by assumption) _ _ | exact St.tw (by assumption) | exact w64_45 | exact w64_0 | exact smW_w _) (by first | exact I64.of (by omega) | assumption)).mono ?_; rintro e w' ⟨rfl, _⟩) | (go_at_call 56; refine (kwords_c (by assumption) F).mono ?_; rintro e w' ⟨rfl, _⟩) | (go_at_call 104; refine (kset_c (by assumption) _ _ _ (by first | assumption | exact St.gw (by assumption) _ _ | exact St.tw (by assumption) | exact w64_45 | exact w64_0 | exact smW_w _) (by first | exact I64.of (by omega) | assumption) (by first | assumption | exact St.gw (by assumption) _ _ | exact St.tw (by assumption) | exact w64_45 | exact w64_0 | exact smW_w _)).mono ?_; rintro e w' ⟨rfl, _⟩) | (go_at_call 101; refine (small_c _ _ (by omega) (by omega)).mono ?_; rintro e w' ⟨rfl, rfl⟩) | (go_at_call 102; refine (kget_c (by assumption) _ _ (by first | assumption | exact St.gw (by assumption) _ _ | exact St.tw (by assumption) | exact w64_45 | exact w64_0 | exact smW_w _) (by first | exact I64.of (by omega) | assumption)).mono ?_; rintro e w' ⟨rfl, _⟩) | (go_at_call 98; refine (nothing_c _).mono ?_; rintro e w' ⟨rfl, rfl⟩))
    go_ret
    exact ⟨rfl, by assumption⟩
  · rw [if_neg hw]
    have hw2 : (wordsF A c.m top == 0) = false := by simpa using hw
    have hn : noF A c.m top = false := by
      cases hn : noF A c.m top with
      | false => rfl
      | true => exact absurd (by unfold wordsF; rw [if_pos hn]) hw
    obtain ⟨u0, u1⟩ := F.u (noF_ne hn)
    clear hw hn
    unfold usedF
    go_enter Try.func57, Try.ntmps57
    go_wp2_with (first | (go_at_call 108; refine (kat_c (by assumption)).mono ?_; rintro e w' ⟨rfl, _⟩) | (go_at_call 100; refine (kused_c (by assumption) _ (by first | assumption | exact St.gw (by assumption) _ _ | exact St.tw (by assumption) | exact w64_45 | exact w64_0 | exact smW_w _)).mono ?_; rintro e w' ⟨rfl, _⟩) | (go_at_call 109; refine (knum_c (by assumption) _ _ (by first | assumption | exact St.gw (by assumption) _ _ | exact St.tw (by assumption) | exact w64_45 | exact w64_0 | exact smW_w _) (by first | exact I64.of (by omega) | assumption)).mono ?_; rintro e w' ⟨rfl, _⟩) | (go_at_call 56; refine (kwords_c (by assumption) F).mono ?_; rintro e w' ⟨rfl, _⟩) | (go_at_call 104; refine (kset_c (by assumption) _ _ _ (by first | assumption | exact St.gw (by assumption) _ _ | exact St.tw (by assumption) | exact w64_45 | exact w64_0 | exact smW_w _) (by first | exact I64.of (by omega) | assumption) (by first | assumption | exact St.gw (by assumption) _ _ | exact St.tw (by assumption) | exact w64_45 | exact w64_0 | exact smW_w _)).mono ?_; rintro e w' ⟨rfl, _⟩) | (go_at_call 101; refine (small_c _ _ (by omega) (by omega)).mono ?_; rintro e w' ⟨rfl, rfl⟩) | (go_at_call 102; refine (kget_c (by assumption) _ _ (by first | assumption | exact St.gw (by assumption) _ _ | exact St.tw (by assumption) | exact w64_45 | exact w64_0 | exact smW_w _) (by first | exact I64.of (by omega) | assumption)).mono ?_; rintro e w' ⟨rfl, _⟩) | (go_at_call 98; refine (nothing_c _).mono ?_; rintro e w' ⟨rfl, rfl⟩))
    go_ret
    exact ⟨rfl, by assumption⟩
def popF (A : Ar) (m : Nat) (top : Int) : Ar × Bool :=
  if noF A m top = true then (A, false) else
  let seg := gtF A m top 1
  let b := nmF A m top 2
  let A1 := stF A m seg 1 (smW b)
  let A2 := if b = 0 ∧ gtF A1 m seg 0 % 8 = 1 then stF A1 m top 1 (gtF A1 m seg 0) else A1
  (stF A2 m top 2 (gtF A m seg (2 + b + 2)), true)
theorem kpop_c (h : St w0 w c A top last) (F : FrOk A c.m top) : Calls Try.prog 58 #[.pointer (some ⟨c.kb, 0, none⟩)] w fun e w' => e = .returned (.bool (popF A c.m top).2) ∧ St w0 w' c (popF A c.m top).1 top last := by
  have b0 := F.b0
  have b1 := F.b1
  unfold popF
  cases hn : noF A c.m top with
  | true =>
    have t1 := noF_yes hn
    clear hn
    rw [if_pos rfl]
    go_enter Try.func58, Try.ntmps58
    go_wp2_with (first | (go_at_call 108; refine (kat_c (by assumption)).mono ?_; rintro e w' ⟨rfl, _⟩) | (go_at_call 104; refine (kset_c (by assumption) _ _ _ (by first | assumption | exact St.gw (by assumption) _ _ | exact St.tw (by assumption) | exact w64_45 | exact w64_0 | exact smW_w _) (by first | exact I64.of (by omega) | assumption) (by first | assumption | exact St.gw (by assumption) _ _ | exact St.tw (by assumption) | exact w64_45 | exact w64_0 | exact smW_w _)).mono ?_; rintro e w' ⟨rfl, _⟩) | (go_at_call 101; refine (small_c _ _ (by omega) (by omega)).mono ?_; rintro e w' ⟨rfl, rfl⟩) | (go_at_call 102; refine (kget_c (by assumption) _ _ (by first | assumption | exact St.gw (by assumption) _ _ | exact St.tw (by assumption) | exact w64_45 | exact w64_0 | exact smW_w _) (by first | exact I64.of (by omega) | assumption)).mono ?_; rintro e w' ⟨rfl, _⟩) | (go_at_call 103; refine (ktop_c (by assumption)).mono ?_; rintro e w' ⟨rfl, rfl⟩) | (go_at_call 81; refine (kind_c _ _ (W64.lo (by first | assumption | exact St.gw (by assumption) _ _ | exact St.tw (by assumption) | exact w64_45 | exact w64_0 | exact smW_w _)) (W64.hi (by first | assumption | exact St.gw (by assumption) _ _ | exact St.tw (by assumption) | exact w64_45 | exact w64_0 | exact smW_w _))).mono ?_; rintro e w' ⟨rfl, rfl⟩))
    go_ret
    exact ⟨rfl, by assumption⟩
  | false =>
    have t1 := noF_no hn
    obtain ⟨u0, u1⟩ := F.u (noF_ne hn)
    obtain ⟨s0, s1⟩ := F.s (noF_ne hn)
    obtain ⟨r0, r1⟩ := F.r (noF_ne hn)
    clear hn
    rw [if_neg Bool.false_ne_true]
    simp only
    have e2 : 2 + nmF A c.m top 2 - 2 = nmF A c.m top 2 := by omega
    by_cases hb : nmF A c.m top 2 = 0
    · have hb2 : (nmF A c.m top 2 == 0) = true := by simpa using hb
      by_cases hk : gtF (stF A c.m (gtF A c.m top 1) 1 (smW (nmF A c.m top 2))) c.m (gtF A c.m top 1) 0 % 8 = 1
      · have hk2 : (gtF (stF A c.m (gtF A c.m top 1) 1 (smW (nmF A c.m top 2))) c.m (gtF A c.m top 1) 0 % 8 == 1) = true := by simpa using hk
        rw [if_pos ⟨hb, hk⟩]
        clear hb hk
        go_enter Try.func58, Try.ntmps58
        go_wp2_with (first | (go_at_call 108; refine (kat_c (by assumption)).mono ?_; rintro e w' ⟨rfl, _⟩) | (go_at_call 104; refine (kset_c (by assumption) _ _ _ (by first | assumption | exact St.gw (by assumption) _ _ | exact St.tw (by assumption) | exact w64_45 | exact w64_0 | exact smW_w _) (by first | exact I64.of (by omega) | assumption) (by first | assumption | exact St.gw (by assumption) _ _ | exact St.tw (by assumption) | exact w64_45 | exact w64_0 | exact smW_w _)).mono ?_; rintro e w' ⟨rfl, _⟩) | (go_at_call 101; refine (small_c _ _ (by omega) (by omega)).mono ?_; rintro e w' ⟨rfl, rfl⟩) | (go_at_call 102; refine (kget_c (by assumption) _ _ (by first | assumption | exact St.gw (by assumption) _ _ | exact St.tw (by assumption) | exact w64_45 | exact w64_0 | exact smW_w _) (by first | exact I64.of (by omega) | assumption)).mono ?_; rintro e w' ⟨rfl, _⟩) | (go_at_call 103; refine (ktop_c (by assumption)).mono ?_; rintro e w' ⟨rfl, rfl⟩) | (go_at_call 81; refine (kind_c _ _ (W64.lo (by first | assumption | exact St.gw (by assumption) _ _ | exact St.tw (by assumption) | exact w64_45 | exact w64_0 | exact smW_w _)) (W64.hi (by first | assumption | exact St.gw (by assumption) _ _ | exact St.tw (by assumption) | exact w64_45 | exact w64_0 | exact smW_w _))).mono ?_; rintro e w' ⟨rfl, rfl⟩))
        go_ret
        exact ⟨rfl, by assumption⟩
      · have hk2 : (gtF (stF A c.m (gtF A c.m top 1) 1 (smW (nmF A c.m top 2))) c.m (gtF A c.m top 1) 0 % 8 == 1) = false := by simpa using hk
        rw [if_neg (fun h => hk h.2)]
        clear hb hk
        go_enter Try.func58, Try.ntmps58
        go_wp2_with (first | (go_at_call 108; refine (kat_c (by assumption)).mono ?_; rintro e w' ⟨rfl, _⟩) | (go_at_call 104; refine (kset_c (by assumption) _ _ _ (by first | assumption | exact St.gw (by assumption) _ _ | exact St.tw (by assumption) | exact w64_45 | exact w64_0 | exact smW_w _) (by first | exact I64.of (by omega) | assumption) (by first | assumption | exact St.gw (by assumption) _ _ | exact St.tw (by assumption) | exact w64_45 | exact w64_0 | exact smW_w _)).mono ?_; rintro e w' ⟨rfl, _⟩) | (go_at_call 101; refine (small_c _ _ (by omega) (by omega)).mono ?_; rintro e w' ⟨rfl, rfl⟩) | (go_at_call 102; refine (kget_c (by assumption) _ _ (by first | assumption | exact St.gw (by assumption) _ _ | exact St.tw (by assumption) | exact w64_45 | exact w64_0 | exact smW_w _) (by first | exact I64.of (by omega) | assumption)).mono ?_; rintro e w' ⟨rfl, _⟩) | (go_at_call 103; refine (ktop_c (by assumption)).mono ?_; rintro e w' ⟨rfl, rfl⟩) | (go_at_call 81; refine (kind_c _ _ (W64.lo (by first | assumption | exact St.gw (by assumption) _ _ | exact St.tw (by assumption) | exact w64_45 | exact w64_0 | exact smW_w _)) (W64.hi (by first | assumption | exact St.gw (by assumption) _ _ | exact St.tw (by assumption) | exact w64_45 | exact w64_0 | exact smW_w _))).mono ?_; rintro e w' ⟨rfl, rfl⟩))
        go_ret
        exact ⟨rfl, by assumption⟩
    · have hb2 : (nmF A c.m top 2 == 0) = false := by simpa using hb
      rw [if_neg (fun h => hb h.1)]
      clear hb
      go_enter Try.func58, Try.ntmps58
      go_wp2_with (first | (go_at_call 108; refine (kat_c (by assumption)).mono ?_; rintro e w' ⟨rfl, _⟩) | (go_at_call 104; refine (kset_c (by assumption) _ _ _ (by first | assumption | exact St.gw (by assumption) _ _ | exact St.tw (by assumption) | exact w64_45 | exact w64_0 | exact smW_w _) (by first | exact I64.of (by omega) | assumption) (by first | assumption | exact St.gw (by assumption) _ _ | exact St.tw (by assumption) | exact w64_45 | exact w64_0 | exact smW_w _)).mono ?_; rintro e w' ⟨rfl, _⟩) | (go_at_call 101; refine (small_c _ _ (by omega) (by omega)).mono ?_; rintro e w' ⟨rfl, rfl⟩) | (go_at_call 102; refine (kget_c (by assumption) _ _ (by first | assumption | exact St.gw (by assumption) _ _ | exact St.tw (by assumption) | exact w64_45 | exact w64_0 | exact smW_w _) (by first | exact I64.of (by omega) | assumption)).mono ?_; rintro e w' ⟨rfl, _⟩) | (go_at_call 103; refine (ktop_c (by assumption)).mono ?_; rintro e w' ⟨rfl, rfl⟩) | (go_at_call 81; refine (kind_c _ _ (W64.lo (by first | assumption | exact St.gw (by assumption) _ _ | exact St.tw (by assumption) | exact w64_45 | exact w64_0 | exact smW_w _)) (W64.hi (by first | assumption | exact St.gw (by assumption) _ _ | exact St.tw (by assumption) | exact w64_45 | exact w64_0 | exact smW_w _))).mono ?_; rintro e w' ⟨rfl, rfl⟩))
      go_ret
      exact ⟨rfl, by assumption⟩
end Go.Proofs.Ytjgndfhfiekomaa
