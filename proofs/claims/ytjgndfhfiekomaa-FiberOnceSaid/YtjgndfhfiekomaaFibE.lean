/- Fibers: the topmost frame: its head, slots, words. -/
import Derived.Test.YtjgndfhfiekomaaFibD
namespace Go.Proofs.Ytjgndfhfiekomaa
open Go.ChangeShapes Go.WideShapes Go.RowKit
variable {w0 w w1 w' : World} {c : Sk} {A A' : Ar} {top : Int} {last : Value}
/-- The numbers of the topmost frame are small. -/
structure FrOk (A : Ar) (m : Nat) (top : Int) : Prop where
  b0 : -1 ≤ nmF A m top 2
  b1 : nmF A m top 2 ≤ 1000
  u : nmF A m top 2 ≠ -1 → 0 ≤ nmF A m (gtF A m top 1) 1 ∧ nmF A m (gtF A m top 1) 1 ≤ 1000
  s : nmF A m top 2 ≠ -1 → 0 ≤ nmF A m (gtF A m top 1) (2 + nmF A m top 2 + 3) ∧ nmF A m (gtF A m top 1) (2 + nmF A m top 2 + 3) ≤ 1000
  r : nmF A m top 2 ≠ -1 → 0 ≤ nmF A m (gtF A m top 1) (2 + nmF A m top 2 + 4) ∧ nmF A m (gtF A m top 1) (2 + nmF A m top 2 + 4) ≤ 1000
/-- Is there a frame? -/
def noF (A : Ar) (m : Nat) (top : Int) : Bool := nmF A m top 2 == -1
theorem noF_yes (h : noF A c.m top = true) : (nmF A c.m top 2 != -1) = false := by unfold noF at h; simp at h ⊢; exact h
theorem noF_no (h : noF A c.m top = false) : (nmF A c.m top 2 != -1) = true := by unfold noF at h; simp at h ⊢; exact h
theorem noF_ne (h : noF A c.m top = false) : nmF A c.m top 2 ≠ -1 := by unfold noF at h; simpa using h
theorem kheader_c (h : St w0 w c A top last) (F : FrOk A c.m top) (i : Int) (i0 : 0 ≤ i) (i1 : i ≤ 10) : Calls Try.prog 116 #[.pointer (some ⟨c.kb, 0, none⟩), .int .i64 i] w fun e w' => e = .returned (if noF A c.m top = true then .tuple #[.int .u64 45, .bool false] else .tuple #[.int .u64 (gtF A c.m (gtF A c.m top 1) (2 + nmF A c.m top 2 + i)), .bool true]) ∧ St w0 w' c A top last := by
  have b0 := F.b0
  have b1 := F.b1
  cases hn : noF A c.m top with
  | true =>
    have t1 := noF_yes hn
    clear hn
    rw [if_pos rfl]
    go_enter Try.func116, Try.ntmps116
    go_wp2_with (first | (go_at_call 108; refine (kat_c (by assumption)).mono ?_; rintro e w' ⟨rfl, _⟩) | (go_at_call 98; refine (nothing_c _).mono ?_; rintro e w' ⟨rfl, rfl⟩) | (go_at_call 102; refine (kget_c (by assumption) _ _ (by first | assumption | exact St.gw (by assumption) _ _ | exact St.tw (by assumption) | exact w64_45 | exact w64_0 | exact smW_w _) (by first | exact I64.of (by omega) | assumption)).mono ?_; rintro e w' ⟨rfl, _⟩))
    go_ret2
    exact ⟨rfl, by assumption⟩
  | false =>
    have t1 := noF_no hn
    obtain ⟨u0, u1⟩ := F.u (noF_ne hn)
    obtain ⟨s0, s1⟩ := F.s (noF_ne hn)
    obtain ⟨r0, r1⟩ := F.r (noF_ne hn)
    clear hn
    rw [if_neg Bool.false_ne_true]
    go_enter Try.func116, Try.ntmps116
    go_wp2_with (first | (go_at_call 108; refine (kat_c (by assumption)).mono ?_; rintro e w' ⟨rfl, _⟩) | (go_at_call 98; refine (nothing_c _).mono ?_; rintro e w' ⟨rfl, rfl⟩) | (go_at_call 102; refine (kget_c (by assumption) _ _ (by first | assumption | exact St.gw (by assumption) _ _ | exact St.tw (by assumption) | exact w64_45 | exact w64_0 | exact smW_w _) (by first | exact I64.of (by omega) | assumption)).mono ?_; rintro e w' ⟨rfl, _⟩))
    go_ret2
    exact ⟨rfl, by assumption⟩
theorem kclosure_c (h : St w0 w c A top last) (F : FrOk A c.m top) : Calls Try.prog 54 #[.pointer (some ⟨c.kb, 0, none⟩)] w fun e w' => e = .returned (.int .u64 (if noF A c.m top = true then 45 else gtF A c.m (gtF A c.m top 1) (2 + nmF A c.m top 2))) ∧ St w0 w' c A top last := by
  have CH := Lib.hid (by have := kheader_c h F 0 (by omega) (by omega); simpa only [Int.add_zero] using this)
  cases hn : noF A c.m top with
  | true =>
    rw [hn, if_pos rfl] at CH
    rw [if_pos rfl]
    clear hn
    go_enter Try.func54, Try.ntmps54
    go_wp2_with fail
    refine CH.out.mono ?_
    rintro e w' ⟨rfl, _⟩
    go_wp2
    go_ret
    exact ⟨rfl, by assumption⟩
  | false =>
    rw [hn, if_neg Bool.false_ne_true] at CH
    rw [if_neg Bool.false_ne_true]
    clear hn
    go_enter Try.func54, Try.ntmps54
    go_wp2_with fail
    refine CH.out.mono ?_
    rintro e w' ⟨rfl, _⟩
    go_wp2
    go_ret
    exact ⟨rfl, by assumption⟩
theorem kpc_c (h : St w0 w c A top last) (F : FrOk A c.m top) : Calls Try.prog 55 #[.pointer (some ⟨c.kb, 0, none⟩)] w fun e w' => e = .returned (.int .i64 (if noF A c.m top = true then 0 else nmF A c.m (gtF A c.m top 1) (2 + nmF A c.m top 2 + 1))) ∧ St w0 w' c A top last := by
  have CH := Lib.hid (kheader_c h F 1 (by omega) (by omega))
  cases hn : noF A c.m top with
  | true =>
    rw [hn, if_pos rfl] at CH
    rw [if_pos rfl]
    clear hn
    go_enter Try.func55, Try.ntmps55
    go_wp2_with fail
    refine CH.out.mono ?_
    rintro e w' ⟨rfl, _⟩
    go_wp2
    go_ret
    exact ⟨rfl, by assumption⟩
  | false =>
    rw [hn, if_neg Bool.false_ne_true] at CH
    rw [if_neg Bool.false_ne_true]
    clear hn
    go_enter Try.func55, Try.ntmps55
    go_wp2_with fail
    refine CH.out.mono ?_
    rintro e w' ⟨rfl, _⟩
    go_wp2_with (first | (go_at_call 82; refine (value_c _ _ (W64.lo (by first | assumption | exact St.gw (by assumption) _ _ | exact St.tw (by assumption) | exact w64_45 | exact w64_0 | exact smW_w _)) (W64.hi (by first | assumption | exact St.gw (by assumption) _ _ | exact St.tw (by assumption) | exact w64_45 | exact w64_0 | exact smW_w _))).mono ?_; rintro e w' ⟨rfl, rfl⟩))
    go_ret
    exact ⟨rfl, by assumption⟩
def setpcF (A : Ar) (m : Nat) (top n : Int) : Ar := if noF A m top = true then A else stF A m (gtF A m top 1) (2 + nmF A m top 2 + 1) (smW n)
theorem ksetpc_c (h : St w0 w c A top last) (F : FrOk A c.m top) (n : Int) (n0 : -1000000 ≤ n) (n1 : n ≤ 1000000) : Calls Try.prog 49 #[.pointer (some ⟨c.kb, 0, none⟩), .int .i64 n] w fun e w' => e = .returned (.tuple #[]) ∧ St w0 w' c (setpcF A c.m top n) top last := by
  have b0 := F.b0
  have b1 := F.b1
  unfold setpcF
  cases hn : noF A c.m top with
  | true =>
    have t1 := noF_yes hn
    clear hn
    rw [if_pos rfl]
    go_enter Try.func49, Try.ntmps49
    go_wp2_with (first | (go_at_call 108; refine (kat_c (by assumption)).mono ?_; rintro e w' ⟨rfl, _⟩) | (go_at_call 101; refine (small_c _ _ (by omega) (by omega)).mono ?_; rintro e w' ⟨rfl, rfl⟩) | (go_at_call 104; refine (kset_c (by assumption) _ _ _ (by first | assumption | exact St.gw (by assumption) _ _ | exact St.tw (by assumption) | exact w64_45 | exact w64_0 | exact smW_w _) (by first | exact I64.of (by omega) | assumption) (by first | assumption | exact St.gw (by assumption) _ _ | exact St.tw (by assumption) | exact w64_45 | exact w64_0 | exact smW_w _)).mono ?_; rintro e w' ⟨rfl, _⟩))
    go_end0
    exact ⟨rfl, by assumption⟩
  | false =>
    have t1 := noF_no hn
    obtain ⟨u0, u1⟩ := F.u (noF_ne hn)
    obtain ⟨s0, s1⟩ := F.s (noF_ne hn)
    obtain ⟨r0, r1⟩ := F.r (noF_ne hn)
    clear hn
    rw [if_neg Bool.false_ne_true]
    go_enter Try.func49, Try.ntmps49
    go_wp2_with (first | (go_at_call 108; refine (kat_c (by assumption)).mono ?_; rintro e w' ⟨rfl, _⟩) | (go_at_call 101; refine (small_c _ _ (by omega) (by omega)).mono ?_; rintro e w' ⟨rfl, rfl⟩) | (go_at_call 104; refine (kset_c (by assumption) _ _ _ (by first | assumption | exact St.gw (by assumption) _ _ | exact St.tw (by assumption) | exact w64_45 | exact w64_0 | exact smW_w _) (by first | exact I64.of (by omega) | assumption) (by first | assumption | exact St.gw (by assumption) _ _ | exact St.tw (by assumption) | exact w64_45 | exact w64_0 | exact smW_w _)).mono ?_; rintro e w' ⟨rfl, _⟩))
    go_end0
    exact ⟨rfl, by assumption⟩
def wordsF (A : Ar) (m : Nat) (top : Int) : Int := if noF A m top = true then 0 else nmF A m (gtF A m top 1) 1 - nmF A m top 2 - 5 - nmF A m (gtF A m top 1) (2 + nmF A m top 2 + 3)
theorem kwords_c (h : St w0 w c A top last) (F : FrOk A c.m top) : Calls Try.prog 56 #[.pointer (some ⟨c.kb, 0, none⟩)] w fun e w' => e = .returned (.int .i64 (wordsF A c.m top)) ∧ St w0 w' c A top last := by
  have b0 := F.b0
  have b1 := F.b1
  unfold wordsF
  cases hn : noF A c.m top with
  | true =>
    have t1 := noF_yes hn
    clear hn
    rw [if_pos rfl]
    go_enter Try.func56, Try.ntmps56
    go_wp2_with (first | (go_at_call 108; refine (kat_c (by assumption)).mono ?_; rintro e w' ⟨rfl, _⟩) | (go_at_call 100; refine (kused_c (by assumption) _ (by first | assumption | exact St.gw (by assumption) _ _ | exact St.tw (by assumption) | exact w64_45 | exact w64_0 | exact smW_w _)).mono ?_; rintro e w' ⟨rfl, _⟩) | (go_at_call 109; refine (knum_c (by assumption) _ _ (by first | assumption | exact St.gw (by assumption) _ _ | exact St.tw (by assumption) | exact w64_45 | exact w64_0 | exact smW_w _) (by first | exact I64.of (by omega) | assumption)).mono ?_; rintro e w' ⟨rfl, _⟩))
    go_ret
    exact ⟨ret_int (by omega), by assumption⟩
  | false =>
    have t1 := noF_no hn
    obtain ⟨u0, u1⟩ := F.u (noF_ne hn)
    obtain ⟨s0, s1⟩ := F.s (noF_ne hn)
    obtain ⟨r0, r1⟩ := F.r (noF_ne hn)
    clear hn
    rw [if_neg Bool.false_ne_true]
    go_enter Try.func56, Try.ntmps56
    go_wp2_with (first | (go_at_call 108; refine (kat_c (by assumption)).mono ?_; rintro e w' ⟨rfl, _⟩) | (go_at_call 100; refine (kused_c (by assumption) _ (by first | assumption | exact St.gw (by assumption) _ _ | exact St.tw (by assumption) | exact w64_45 | exact w64_0 | exact smW_w _)).mono ?_; rintro e w' ⟨rfl, _⟩) | (go_at_call 109; refine (knum_c (by assumption) _ _ (by first | assumption | exact St.gw (by assumption) _ _ | exact St.tw (by assumption) | exact w64_45 | exact w64_0 | exact smW_w _) (by first | exact I64.of (by omega) | assumption)).mono ?_; rintro e w' ⟨rfl, _⟩))
    go_ret
    exact ⟨ret_int (by omega), by assumption⟩
end Go.Proofs.Ytjgndfhfiekomaa
