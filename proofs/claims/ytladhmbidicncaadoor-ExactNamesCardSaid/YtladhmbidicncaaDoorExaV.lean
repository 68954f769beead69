/- Exact: the int of a number; which can be. -/
import Derived.Test.YtladhmbidicncaaDoorExaO
import Derived.Test.YtladhmbidicncaaDoorLimbS
import Derived.Deep.LoopGhost
namespace Go.Proofs.YtladhmbidicncaaDoor
open Go.ChangeShapes Go.WideShapes Go.RowKit
variable {w w' w2 wr : World} {a b : Option Addr} {cap cap2 : Nat} {L M : List Nat} {B : Nat}
/-- Is it an int; the int. -/
def smB (s : Bool) (n : Nat) : Bool := match s with | true => decide (n ≤ 9223372036854775808) | false => decide (n ≤ 9223372036854775807)
def smV (s : Bool) (n : Nat) : Int := match s with | true => -(n : Int) | false => (n : Int)
def SmallI (w : World) (s : Bool) (n : Nat) (e : Ending) (w' : World) : Prop :=
  (if smB s n = true then e = .returned (.tuple #[.int .i64 (smV s n), .bool true]) else e = .returned (.tuple #[.int .i64 0, .bool false])) ∧ Fr [] w w'
theorem neg_back {n : Nat} (h : n ≤ 9223372036854775808) : wrap64 (IntKind.u64.wrap (-(n : Int))) = -(n : Int) := by
  simp only [wrap64, IntKind.wrap, IntKind.bits, IntKind.signed]
  by_cases h0 : n = 0
  · subst h0; decide
  · simp; omega
theorem pos_back {n : Nat} (h : n ≤ 9223372036854775807) : wrap64 (n : Int) = (n : Int) := by
  simp only [wrap64]
  omega
theorem esmall_true (w : World) (n : Nat) (h : In w a cap (lims n)) : Calls Tryd.prog 63 #[.agg #[.bool true, .slice a (lims n).length cap]] w (SmallI w true n) := by
  have H := Lib.hid h
  clear h
  have F0 : Hid (Fr [] w (w.alloc (.cells #[.bool true, .slice a (lims n).length cap] 52))) := Lib.hid ((Fr.refl [] w).alloc _)
  have P : Hid (Bx (w.alloc (.cells #[.bool true, .slice a (lims n).length cap] 52)) w.heap.size (.bool true) (.slice a (lims n).length cap)) := Lib.hid (Bx.new _ _ _)
  have CS := Lib.hid (small_c _ (H.out.keep F0.out))
  rw [val_lims] at CS
  by_cases hb : n < 18446744073709551616
  · have RES : Hid (∀ W e w1, SmallR W n e w1 → e = .returned (.tuple #[.int .u64 (n : Int), .bool true]) ∧ Fr [] W w1) := Lib.hid (fun W e w1 h => by unfold SmallR at h; rwa [if_pos hb] at h)
    by_cases hs : n ≤ 9223372036854775808
    · have D : Hid (∀ W, Fr [] w W → SmallI w true n (.returned (.tuple #[.int .i64 (-(n : Int)), .bool true])) W) := Lib.hid (fun W h => by unfold SmallI smB smV; rw [if_pos (decide_eq_true hs)]; exact ⟨rfl, h⟩)
      have HV := Lib.hid (neg_back hs)
      have hsI : (n : Int) ≤ 9223372036854775808 := by omega
      clear hb
      go_enter Tryd.func63, Tryd.ntmps63
      go_wp2_with fail
      refine CS.out.mono ?_
      intro e w1 h
      obtain ⟨rfl, F1⟩ := RES.out _ _ _ h
      have P1 := Lib.hid (P.out.fr F1)
      have pc0 := P1.out.c0
      have pc1 := P1.out.c1
      have FW := Lib.hid (F0.out.same F1)
      clear h F1
      go_wp2
      go_ret2
      have D2 := D.out _ FW.out
      first | exact D2 | (rw [← HV.out] at D2; exact D2)
    · have D : Hid (∀ W, Fr [] w W → SmallI w true n (.returned (.tuple #[.int .i64 0, .bool false])) W) := Lib.hid (fun W h => by unfold SmallI smB; rw [if_neg (by simp only [decide_eq_true_eq]; exact hs)]; exact ⟨rfl, h⟩)
      have hsI : ¬ (n : Int) ≤ 9223372036854775808 := by omega
      clear hb
      go_enter Tryd.func63, Tryd.ntmps63
      go_wp2_with fail
      refine CS.out.mono ?_
      intro e w1 h
      obtain ⟨rfl, F1⟩ := RES.out _ _ _ h
      have P1 := Lib.hid (P.out.fr F1)
      have pc0 := P1.out.c0
      have pc1 := P1.out.c1
      have FW := Lib.hid (F0.out.same F1)
      clear h F1
      go_wp2
      go_ret2
      exact D.out _ FW.out
  · have RES : Hid (∀ W e w1, SmallR W n e w1 → e = .returned (.tuple #[.int .u64 0, .bool false]) ∧ Fr [] W w1) := Lib.hid (fun W e w1 h => by unfold SmallR at h; rwa [if_neg hb] at h)
    have D : Hid (∀ W, Fr [] w W → SmallI w true n (.returned (.tuple #[.int .i64 0, .bool false])) W) := Lib.hid (fun W h => by unfold SmallI smB; rw [if_neg (by simp only [decide_eq_true_eq]; omega)]; exact ⟨rfl, h⟩)
    clear hb
    go_enter Tryd.func63, Tryd.ntmps63
    go_wp2_with fail
    refine CS.out.mono ?_
    intro e w1 h
    obtain ⟨rfl, F1⟩ := RES.out _ _ _ h
    have P1 := Lib.hid (P.out.fr F1)
    have pc0 := P1.out.c0
    have pc1 := P1.out.c1
    have FW := Lib.hid (F0.out.same F1)
    clear h F1
    go_wp2
    go_ret2
    exact D.out _ FW.out
theorem esmall_false (w : World) (n : Nat) (h : In w a cap (lims n)) : Calls Tryd.prog 63 #[.agg #[.bool false, .slice a (lims n).length cap]] w (SmallI w false n) := by
  have H := Lib.hid h
  clear h
  have F0 : Hid (Fr [] w (w.alloc (.cells #[.bool false, .slice a (lims n).length cap] 52))) := Lib.hid ((Fr.refl [] w).alloc _)
  have P : Hid (Bx (w.alloc (.cells #[.bool false, .slice a (lims n).length cap] 52)) w.heap.size (.bool false) (.slice a (lims n).length cap)) := Lib.hid (Bx.new _ _ _)
  have CS := Lib.hid (small_c _ (H.out.keep F0.out))
  rw [val_lims] at CS
  by_cases hb : n < 18446744073709551616
  · have RES : Hid (∀ W e w1, SmallR W n e w1 → e = .returned (.tuple #[.int .u64 (n : Int), .bool true]) ∧ Fr [] W w1) := Lib.hid (fun W e w1 h => by unfold SmallR at h; rwa [if_pos hb] at h)
    by_cases hs : n ≤ 9223372036854775807
    · have D : Hid (∀ W, Fr [] w W → SmallI w false n (.returned (.tuple #[.int .i64 ((n : Int)), .bool true])) W) := Lib.hid (fun W h => by unfold SmallI smB smV; rw [if_pos (decide_eq_true hs)]; exact ⟨rfl, h⟩)
      have HV := Lib.hid (pos_back hs)
      have hsI : (n : Int) ≤ 9223372036854775807 := by omega
      clear hb
      go_enter Tryd.func63, Tryd.ntmps63
      go_wp2_with fail
      refine CS.out.mono ?_
      intro e w1 h
      obtain ⟨rfl, F1⟩ := RES.out _ _ _ h
      have P1 := Lib.hid (P.out.fr F1)
      have pc0 := P1.out.c0
      have pc1 := P1.out.c1
      have FW := Lib.hid (F0.out.same F1)
      clear h F1
      go_wp2
      go_ret2
      have D2 := D.out _ FW.out
      first | exact D2 | (rw [← HV.out] at D2; exact D2)
    · have D : Hid (∀ W, Fr [] w W → SmallI w false n (.returned (.tuple #[.int .i64 0, .bool false])) W) := Lib.hid (fun W h => by unfold SmallI smB; rw [if_neg (by simp only [decide_eq_true_eq]; exact hs)]; exact ⟨rfl, h⟩)
      have hsI : ¬ (n : Int) ≤ 9223372036854775807 := by omega
      clear hb
      go_enter Tryd.func63, Tryd.ntmps63
      go_wp2_with fail
      refine CS.out.mono ?_
      intro e w1 h
      obtain ⟨rfl, F1⟩ := RES.out _ _ _ h
      have P1 := Lib.hid (P.out.fr F1)
      have pc0 := P1.out.c0
      have pc1 := P1.out.c1
      have FW := Lib.hid (F0.out.same F1)
      clear h F1
      go_wp2
      go_ret2
      exact D.out _ FW.out
  · have RES : Hid (∀ W e w1, SmallR W n e w1 → e = .returned (.tuple #[.int .u64 0, .bool false]) ∧ Fr [] W w1) := Lib.hid (fun W e w1 h => by unfold SmallR at h; rwa [if_neg hb] at h)
    have D : Hid (∀ W, Fr [] w W → SmallI w false n (.returned (.tuple #[.int .i64 0, .bool false])) W) := Lib.hid (fun W h => by unfold SmallI smB; rw [if_neg (by simp only [decide_eq_true_eq]; omega)]; exact ⟨rfl, h⟩)
    clear hb
    go_enter Tryd.func63, Tryd.ntmps63
    go_wp2_with fail
    refine CS.out.mono ?_
    intro e w1 h
    obtain ⟨rfl, F1⟩ := RES.out _ _ _ h
    have P1 := Lib.hid (P.out.fr F1)
    have pc0 := P1.out.c0
    have pc1 := P1.out.c1
    have FW := Lib.hid (F0.out.same F1)
    clear h F1
    go_wp2
    go_ret2
    exact D.out _ FW.out
theorem esmall_c (w : World) (s : Bool) (n : Nat) (h : In w a cap (lims n)) : Calls Tryd.prog 63 #[.agg #[.bool s, .slice a (lims n).length cap]] w (SmallI w s n) := by
  cases s with
  | true => exact esmall_true w n h
  | false => exact esmall_false w n h
theorem small_law_pos {n : Nat} (h : n < 18446744073709551616) : decide (decide (wrap64 (n : Int) < 0) = false ∧ (wrap64 (n : Int)).natAbs = n) = smB false n := by
  unfold smB
  rw [decide_eq_decide, decide_eq_false_iff_not]
  simp only [wrap64]
  omega
theorem small_law_neg {n : Nat} (h : n < 18446744073709551616) (h0 : n ≠ 0) : decide (decide (wrap64 (IntKind.u64.wrap (-(n : Int))) < 0) = true ∧ (wrap64 (IntKind.u64.wrap (-(n : Int)))).natAbs = n) = smB true n := by
  unfold smB
  rw [decide_eq_decide, decide_eq_true_eq]
  simp only [wrap64, IntKind.wrap, IntKind.bits, IntKind.signed]
  simp
  omega
theorem wrap64_rng (x : Int) : -9223372036854775808 ≤ wrap64 x ∧ wrap64 x ≤ 9223372036854775807 := by
  simp only [wrap64]
  omega
set_option maxRecDepth 100000 in
set_option maxHeartbeats 4000000 in
theorem r2small_false_far (w : World) (n : Nat) (h : In w a cap (lims n)) (hl : 2 < (lims n).length) : Calls Tryd.prog 64 #[.agg #[.bool false, .slice a (lims n).length cap]] w (SmallI w false n) := by
  have H := Lib.hid h
  clear h
  have F0 : Hid (Fr [] w (w.alloc (.cells #[.bool false, .slice a (lims n).length cap] 52))) := Lib.hid ((Fr.refl [] w).alloc _)
  have P : Hid (Bx (w.alloc (.cells #[.bool false, .slice a (lims n).length cap] 52)) w.heap.size (.bool false) (.slice a (lims n).length cap)) := Lib.hid (Bx.new _ _ _)
  have H0 := Lib.hid (H.out.keep F0.out)
  have pc0 := P.out.c0
  have pc1 := P.out.c1
  have hb : ¬ n < 18446744073709551616 := by
    intro hlt
    have : (lims n).length ≤ 2 := len_lims.2 (by omega)
    omega
  have LAW : Hid (decide (decide ((0 : Int) < 0) = false ∧ (0 : Int).natAbs = n) = smB false n) := Lib.hid (by unfold smB; rw [decide_eq_decide]; simp; omega)
  have ZV : Hid (smB false n = true → (0 : Int) = smV false n) := Lib.hid (fun e => by unfold smB at e; simp at e; omega)
  have CO : Hid (∀ W, Calls Tryd.prog 62 #[.int .i64 0] W (GivesI W (decide ((0 : Int) < 0)) (0 : Int).natAbs)) := Lib.hid (fun W => r2of_c W 0 (by decide) (by decide))
  have CS : Hid (∀ W a1 c1, Fr [] w W → In W a1 c1 (lims ((0 : Int)).natAbs) → Calls Tryd.prog 49 #[.agg #[.bool (decide ((0 : Int) < 0)), .slice a1 (lims ((0 : Int)).natAbs).length c1], .agg #[.bool false, .slice a (lims n).length cap]] W fun e w' => e = .returned (.bool (smB false n)) ∧ Fr [] W w') := Lib.hid (fun W a1 c1 hW hI => by
    have := r2same_c W (decide ((0 : Int) < 0)) false ((0 : Int)).natAbs n hI (H.out.keep hW)
    rwa [LAW.out] at this)
  have D : Hid (∀ W z, (smB false n = true → z = smV false n) → smB false n = true → Fr [] w W → SmallI w false n (.returned (.tuple #[.int .i64 z, .bool true])) W) := Lib.hid (fun W z hz hg h => by unfold SmallI; rw [if_pos hg, hz hg]; exact ⟨rfl, h⟩)
  have E : Hid (∀ W, smB false n = false → Fr [] w W → SmallI w false n (.returned (.tuple #[.int .i64 0, .bool false])) W) := Lib.hid (fun W hg h => by unfold SmallI; rw [if_neg (by rw [hg]; decide)]; exact ⟨rfl, h⟩)
  have hlI : ¬ ((lims n).length : Int) ≤ 2 := by omega
  have hi0 : (0 : Int) ≤ ((lims n).length : Int) - 1 := by omega
  have hub : ((lims n).length : Int) ≤ 100000 := by have := H0.out.sm; omega
  cases hg : smB false n with
  | true =>
    rw [hg] at CS
    have HG := Lib.hid hg
    clear hg LAW
    go_enter Tryd.func64, Tryd.ntmps64
    go_wp2_with fail
    go_loopg [4, 5] 0 (fun _ s4 s5 wr => s4 = .int .u64 0 ∧ s5 = .int .i64 (((lims n).length : Int) - 1) ∧ wr = w.alloc (.cells #[.bool false, .slice a (lims n).length cap] 52))
    case atStart => exact ⟨rfl, rfl, rfl⟩
    case round =>
      obtain ⟨rfl, rfl, rfl⟩ := hrel
      go_wp2_with fail
      go_region_held3 (fun W => W.cell? ⟨w.heap.size, 0, none⟩ = some (.bool false) ∧ W.cell? ⟨w.heap.size, 1, none⟩ = some (.slice a (lims n).length cap)) (with_reducible first | exact Bx.c2 (P.out.fr (Fr.refl [] _).drew) | exact Bx.c2 P6.out | exact Bx.c2 P5.out) (first | (go_at_call 62; refine Calls.mono (CO.out _) ?_; rintro e w5 ⟨a5, c5, rfl, I5, G5⟩; have K5 := Lib.hid ((Fr.refl [] _).drew.same G5); have P5 := Lib.hid (P.out.fr K5.out)) | (go_at_call 49; refine Calls.mono (CS.out _ _ _ (F0.out.same K5.out) I5) ?_; rintro e w6 ⟨rfl, G6⟩; have P6 := Lib.hid (P5.out.fr G6); have F6 := Lib.hid ((F0.out.same K5.out).same G6)))
      go_wp2
      go_ret2
      exact D.out _ _ ZV.out HG.out F6.out
  | false =>
    rw [hg] at CS
    have HG := Lib.hid hg
    clear hg LAW
    go_enter Tryd.func64, Tryd.ntmps64
    go_wp2_with fail
    go_loopg [4, 5] 0 (fun _ s4 s5 wr => s4 = .int .u64 0 ∧ s5 = .int .i64 (((lims n).length : Int) - 1) ∧ wr = w.alloc (.cells #[.bool false, .slice a (lims n).length cap] 52))
    case atStart => exact ⟨rfl, rfl, rfl⟩
    case round =>
      obtain ⟨rfl, rfl, rfl⟩ := hrel
      go_wp2_with fail
      go_region_held3 (fun W => W.cell? ⟨w.heap.size, 0, none⟩ = some (.bool false) ∧ W.cell? ⟨w.heap.size, 1, none⟩ = some (.slice a (lims n).length cap)) (with_reducible first | exact Bx.c2 (P.out.fr (Fr.refl [] _).drew) | exact Bx.c2 P6.out | exact Bx.c2 P5.out) (first | (go_at_call 62; refine Calls.mono (CO.out _) ?_; rintro e w5 ⟨a5, c5, rfl, I5, G5⟩; have K5 := Lib.hid ((Fr.refl [] _).drew.same G5); have P5 := Lib.hid (P.out.fr K5.out)) | (go_at_call 49; refine Calls.mono (CS.out _ _ _ (F0.out.same K5.out) I5) ?_; rintro e w6 ⟨rfl, G6⟩; have P6 := Lib.hid (P5.out.fr G6); have F6 := Lib.hid ((F0.out.same K5.out).same G6)))
      go_wp2
      go_ret2
      exact E.out _ HG.out F6.out
set_option maxRecDepth 100000 in
set_option maxHeartbeats 4000000 in
theorem r2small_false_two (w : World) (n : Nat) (h : In w a cap (lims n)) (hl : (lims n).length ≤ 2) : Calls Tryd.prog 64 #[.agg #[.bool false, .slice a (lims n).length cap]] w (SmallI w false n) := by
  have H := Lib.hid h
  clear h
  have F0 : Hid (Fr [] w (w.alloc (.cells #[.bool false, .slice a (lims n).length cap] 52))) := Lib.hid ((Fr.refl [] w).alloc _)
  have P : Hid (Bx (w.alloc (.cells #[.bool false, .slice a (lims n).length cap] 52)) w.heap.size (.bool false) (.slice a (lims n).length cap)) := Lib.hid (Bx.new _ _ _)
  have H0 := Lib.hid (H.out.keep F0.out)
  have pc0 := P.out.c0
  have pc1 := P.out.c1
  have hb : n < 18446744073709551616 := by have := len_lims.1 hl; omega
  have LAW : Hid (decide (decide (wrap64 (n : Int) < 0) = false ∧ (wrap64 (n : Int)).natAbs = n) = smB false n) := Lib.hid (small_law_pos hb)
  have ZV : Hid (smB false n = true → wrap64 (n : Int) = smV false n) := Lib.hid (fun e => by unfold smB at e; rw [decide_eq_true_eq] at e; rw [pos_back e]; rfl)
  have CO : Hid (∀ W, Calls Tryd.prog 62 #[.int .i64 (wrap64 (n : Int))] W (GivesI W (decide (wrap64 (n : Int) < 0)) (wrap64 (n : Int)).natAbs)) := Lib.hid (fun W => r2of_c W _ (wrap64_rng _).1 (wrap64_rng _).2)
  have CS : Hid (∀ W a1 c1, Fr [] w W → In W a1 c1 (lims (wrap64 (n : Int)).natAbs) → Calls Tryd.prog 49 #[.agg #[.bool (decide (wrap64 (n : Int) < 0)), .slice a1 (lims (wrap64 (n : Int)).natAbs).length c1], .agg #[.bool false, .slice a (lims n).length cap]] W fun e w' => e = .returned (.bool (smB false n)) ∧ Fr [] W w') := Lib.hid (fun W a1 c1 hW hI => by
    have := r2same_c W (decide (wrap64 (n : Int) < 0)) false (wrap64 (n : Int)).natAbs n hI (H.out.keep hW)
    rwa [LAW.out] at this)
  have D : Hid (∀ W z, (smB false n = true → z = smV false n) → smB false n = true → Fr [] w W → SmallI w false n (.returned (.tuple #[.int .i64 z, .bool true])) W) := Lib.hid (fun W z hz hg h => by unfold SmallI; rw [if_pos hg, hz hg]; exact ⟨rfl, h⟩)
  have E : Hid (∀ W, smB false n = false → Fr [] w W → SmallI w false n (.returned (.tuple #[.int .i64 0, .bool false])) W) := Lib.hid (fun W hg h => by unfold SmallI; rw [if_neg (by rw [hg]; decide)]; exact ⟨rfl, h⟩)
  have HZ : Hid (val ((lims n).drop 0) = n) := Lib.hid (by rw [List.drop_zero, val_lims])
  have HD : Hid (val ((lims n).drop (lims n).length) = 0) := Lib.hid (by rw [List.drop_length]; rfl)
  have STEP : Hid (∀ j, j < (lims n).length → val ((lims n).drop j) = (lims n)[j]?.getD 0 + 4294967296 * val ((lims n).drop (j + 1)) ∧ (lims n)[j]?.getD 0 < 4294967296 ∧ val ((lims n).drop (j + 1)) < 4294967296) := Lib.hid (fun j hj => ⟨val_drop _ j, lim_get (lim_lims n) j, by
    have h1 : val ((lims n).drop (j + 1)) < 4294967296 ^ ((lims n).drop (j + 1)).length := val_lt (lim_drop (lim_lims n) _)
    have h2 : ((lims n).drop (j + 1)).length ≤ 1 := by rw [List.length_drop]; omega
    exact Nat.lt_of_lt_of_le h1 (Nat.le_trans (Nat.pow_le_pow_right (by decide) h2) (by decide))⟩)
  have hlI : ((lims n).length : Int) ≤ 2 := by omega
  cases hg : smB false n with
  | true =>
    rw [hg] at CS
    have HG := Lib.hid hg
    clear hg LAW
    go_enter Tryd.func64, Tryd.ntmps64
    go_wp2_with fail
    go_loopg [4, 5] (lims n).length (fun j s4 s5 wr => s5 = .int .i64 ((j : Int) - 1) ∧ s4 = .int .u64 ((val ((lims n).drop j) : Nat) : Int) ∧ Hid (j ≤ (lims n).length) ∧ wr = w.alloc (.cells #[.bool false, .slice a (lims n).length cap] 52))
    case atStart => exact ⟨rfl, by rw [HD.out]; rfl, Lib.hid (Nat.le_refl _), rfl⟩
    case round =>
      obtain ⟨rfl, rfl, hj, rfl⟩ := hrel
      by_cases hj0 : gk = 0
      · subst hj0
        rw [HZ.out]
        clear HZ HD STEP
        go_wp2_with fail
        go_region_held3 (fun W => W.cell? ⟨w.heap.size, 0, none⟩ = some (.bool false) ∧ W.cell? ⟨w.heap.size, 1, none⟩ = some (.slice a (lims n).length cap)) (with_reducible first | exact Bx.c2 (P.out.fr (Fr.refl [] _).drew) | exact Bx.c2 P6.out | exact Bx.c2 P5.out) (first | (go_at_call 62; refine Calls.mono (CO.out _) ?_; rintro e w5 ⟨a5, c5, rfl, I5, G5⟩; have K5 := Lib.hid ((Fr.refl [] _).drew.same G5); have P5 := Lib.hid (P.out.fr K5.out)) | (go_at_call 49; refine Calls.mono (CS.out _ _ _ (F0.out.same K5.out) I5) ?_; rintro e w6 ⟨rfl, G6⟩; have P6 := Lib.hid (P5.out.fr G6); have F6 := Lib.hid ((F0.out.same K5.out).same G6)))
        go_wp2
        go_ret2
        exact D.out _ _ ZV.out HG.out F6.out
      · obtain ⟨i, rfl⟩ : ∃ i, gk = i + 1 := ⟨gk - 1, by omega⟩
        have hi : i < (lims n).length := hj.out
        obtain ⟨e1, hx, hu⟩ := STEP.out i hi
        obtain ⟨b, o', rfl, hbl, hc⟩ := H0.out.at hi
        have e2 : ((i + 1 : Nat) : Int) - 1 = (i : Int) := by omega
        have e3 : (0 : Int) ≤ (i : Int) := by omega
        have e4 : (i : Int) < ((lims n).length : Int) := by omega
        rw [e2]
        have HV := Lib.hid e1
        obtain ⟨v, hv⟩ : ∃ v, v = val ((lims n).drop i) := ⟨_, rfl⟩
        have HV2 := Lib.hid hv
        rw [← hv] at HV
        have HVI : Hid (((v : Nat) : Int) = ((val ((lims n).drop (i + 1)) : Nat) : Int) * 4294967296 + (((lims n)[i]?.getD 0 : Nat) : Int)) := Lib.hid (by rw [HV.out]; omega)
        have HJ : Hid (i ≤ (lims n).length) := Lib.hid (by omega)
        clear hv e1 e2 STEP HZ HD
        generalize (lims n)[i]?.getD 0 = x at *
        generalize val ((lims n).drop (i + 1)) = u at *
        go_wp2_with fail
        go_roundg i
        case measure => omega
        case rel => exact ⟨rfl, by rw [← HV2.out, HVI.out], HJ, rfl⟩
  | false =>
    rw [hg] at CS
    have HG := Lib.hid hg
    clear hg LAW
    go_enter Tryd.func64, Tryd.ntmps64
    go_wp2_with fail
    go_loopg [4, 5] (lims n).length (fun j s4 s5 wr => s5 = .int .i64 ((j : Int) - 1) ∧ s4 = .int .u64 ((val ((lims n).drop j) : Nat) : Int) ∧ Hid (j ≤ (lims n).length) ∧ wr = w.alloc (.cells #[.bool false, .slice a (lims n).length cap] 52))
    case atStart => exact ⟨rfl, by rw [HD.out]; rfl, Lib.hid (Nat.le_refl _), rfl⟩
    case round =>
      obtain ⟨rfl, rfl, hj, rfl⟩ := hrel
      by_cases hj0 : gk = 0
      · subst hj0
        rw [HZ.out]
        clear HZ HD STEP
        go_wp2_with fail
        go_region_held3 (fun W => W.cell? ⟨w.heap.size, 0, none⟩ = some (.bool false) ∧ W.cell? ⟨w.heap.size, 1, none⟩ = some (.slice a (lims n).length cap)) (with_reducible first | exact Bx.c2 (P.out.fr (Fr.refl [] _).drew) | exact Bx.c2 P6.out | exact Bx.c2 P5.out) (first | (go_at_call 62; refine Calls.mono (CO.out _) ?_; rintro e w5 ⟨a5, c5, rfl, I5, G5⟩; have K5 := Lib.hid ((Fr.refl [] _).drew.same G5); have P5 := Lib.hid (P.out.fr K5.out)) | (go_at_call 49; refine Calls.mono (CS.out _ _ _ (F0.out.same K5.out) I5) ?_; rintro e w6 ⟨rfl, G6⟩; have P6 := Lib.hid (P5.out.fr G6); have F6 := Lib.hid ((F0.out.same K5.out).same G6)))
        go_wp2
        go_ret2
        exact E.out _ HG.out F6.out
      · obtain ⟨i, rfl⟩ : ∃ i, gk = i + 1 := ⟨gk - 1, by omega⟩
        have hi : i < (lims n).length := hj.out
        obtain ⟨e1, hx, hu⟩ := STEP.out i hi
        obtain ⟨b, o', rfl, hbl, hc⟩ := H0.out.at hi
        have e2 : ((i + 1 : Nat) : Int) - 1 = (i : Int) := by omega
        have e3 : (0 : Int) ≤ (i : Int) := by omega
        have e4 : (i : Int) < ((lims n).length : Int) := by omega
        rw [e2]
        have HV := Lib.hid e1
        obtain ⟨v, hv⟩ : ∃ v, v = val ((lims n).drop i) := ⟨_, rfl⟩
        have HV2 := Lib.hid hv
        rw [← hv] at HV
        have HVI : Hid (((v : Nat) : Int) = ((val ((lims n).drop (i + 1)) : Nat) : Int) * 4294967296 + (((lims n)[i]?.getD 0 : Nat) : Int)) := Lib.hid (by rw [HV.out]; omega)
        have HJ : Hid (i ≤ (lims n).length) := Lib.hid (by omega)
        clear hv e1 e2 STEP HZ HD
        generalize (lims n)[i]?.getD 0 = x at *
        generalize val ((lims n).drop (i + 1)) = u at *
        go_wp2_with fail
        go_roundg i
        case measure => omega
        case rel => exact ⟨rfl, by rw [← HV2.out, HVI.out], HJ, rfl⟩
set_option maxRecDepth 100000 in
set_option maxHeartbeats 4000000 in
theorem r2small_true_far (w : World) (n : Nat) (h : In w a cap (lims n)) (hl : 2 < (lims n).length) : Calls Tryd.prog 64 #[.agg #[.bool true, .slice a (lims n).length cap]] w (SmallI w true n) := by
  have H := Lib.hid h
  clear h
  have F0 : Hid (Fr [] w (w.alloc (.cells #[.bool true, .slice a (lims n).length cap] 52))) := Lib.hid ((Fr.refl [] w).alloc _)
  have P : Hid (Bx (w.alloc (.cells #[.bool true, .slice a (lims n).length cap] 52)) w.heap.size (.bool true) (.slice a (lims n).length cap)) := Lib.hid (Bx.new _ _ _)
  have H0 := Lib.hid (H.out.keep F0.out)
  have pc0 := P.out.c0
  have pc1 := P.out.c1
  have hb : ¬ n < 18446744073709551616 := by
    intro hlt
    have : (lims n).length ≤ 2 := len_lims.2 (by omega)
    omega
  have LAW : Hid (decide (decide ((0 : Int) < 0) = true ∧ (0 : Int).natAbs = n) = smB true n) := Lib.hid (by unfold smB; rw [decide_eq_decide]; simp; omega)
  have ZV : Hid (smB true n = true → (0 : Int) = smV true n) := Lib.hid (fun e => by unfold smB at e; simp at e; omega)
  have CO : Hid (∀ W, Calls Tryd.prog 62 #[.int .i64 0] W (GivesI W (decide ((0 : Int) < 0)) (0 : Int).natAbs)) := Lib.hid (fun W => r2of_c W 0 (by decide) (by decide))
  have CS : Hid (∀ W a1 c1, Fr [] w W → In W a1 c1 (lims ((0 : Int)).natAbs) → Calls Tryd.prog 49 #[.agg #[.bool (decide ((0 : Int) < 0)), .slice a1 (lims ((0 : Int)).natAbs).length c1], .agg #[.bool true, .slice a (lims n).length cap]] W fun e w' => e = .returned (.bool (smB true n)) ∧ Fr [] W w') := Lib.hid (fun W a1 c1 hW hI => by
    have := r2same_c W (decide ((0 : Int) < 0)) true ((0 : Int)).natAbs n hI (H.out.keep hW)
    rwa [LAW.out] at this)
  have D : Hid (∀ W z, (smB true n = true → z = smV true n) → smB true n = true → Fr [] w W → SmallI w true n (.returned (.tuple #[.int .i64 z, .bool true])) W) := Lib.hid (fun W z hz hg h => by unfold SmallI; rw [if_pos hg, hz hg]; exact ⟨rfl, h⟩)
  have E : Hid (∀ W, smB true n = false → Fr [] w W → SmallI w true n (.returned (.tuple #[.int .i64 0, .bool false])) W) := Lib.hid (fun W hg h => by unfold SmallI; rw [if_neg (by rw [hg]; decide)]; exact ⟨rfl, h⟩)
  have hlI : ¬ ((lims n).length : Int) ≤ 2 := by omega
  have hi0 : (0 : Int) ≤ ((lims n).length : Int) - 1 := by omega
  have hub : ((lims n).length : Int) ≤ 100000 := by have := H0.out.sm; omega
  cases hg : smB true n with
  | true =>
    rw [hg] at CS
    have HG := Lib.hid hg
    clear hg LAW
    go_enter Tryd.func64, Tryd.ntmps64
    go_wp2_with fail
    go_loopg [4, 5] 0 (fun _ s4 s5 wr => s4 = .int .u64 0 ∧ s5 = .int .i64 (((lims n).length : Int) - 1) ∧ wr = w.alloc (.cells #[.bool true, .slice a (lims n).length cap] 52))
    case atStart => exact ⟨rfl, rfl, rfl⟩
    case round =>
      obtain ⟨rfl, rfl, rfl⟩ := hrel
      go_wp2_with fail
      go_region_held3 (fun W => W.cell? ⟨w.heap.size, 0, none⟩ = some (.bool true) ∧ W.cell? ⟨w.heap.size, 1, none⟩ = some (.slice a (lims n).length cap)) (with_reducible first | exact Bx.c2 (P.out.fr (Fr.refl [] _).drew) | exact Bx.c2 P6.out | exact Bx.c2 P5.out) (first | (go_at_call 62; refine Calls.mono (CO.out _) ?_; rintro e w5 ⟨a5, c5, rfl, I5, G5⟩; have K5 := Lib.hid ((Fr.refl [] _).drew.same G5); have P5 := Lib.hid (P.out.fr K5.out)) | (go_at_call 49; refine Calls.mono (CS.out _ _ _ (F0.out.same K5.out) I5) ?_; rintro e w6 ⟨rfl, G6⟩; have P6 := Lib.hid (P5.out.fr G6); have F6 := Lib.hid ((F0.out.same K5.out).same G6)))
      go_wp2
      go_ret2
      exact D.out _ _ ZV.out HG.out F6.out
  | false =>
    rw [hg] at CS
    have HG := Lib.hid hg
    clear hg LAW
    go_enter Tryd.func64, Tryd.ntmps64
    go_wp2_with fail
    go_loopg [4, 5] 0 (fun _ s4 s5 wr => s4 = .int .u64 0 ∧ s5 = .int .i64 (((lims n).length : Int) - 1) ∧ wr = w.alloc (.cells #[.bool true, .slice a (lims n).length cap] 52))
    case atStart => exact ⟨rfl, rfl, rfl⟩
    case round =>
      obtain ⟨rfl, rfl, rfl⟩ := hrel
      go_wp2_with fail
      go_region_held3 (fun W => W.cell? ⟨w.heap.size, 0, none⟩ = some (.bool true) ∧ W.cell? ⟨w.heap.size, 1, none⟩ = some (.slice a (lims n).length cap)) (with_reducible first | exact Bx.c2 (P.out.fr (Fr.refl [] _).drew) | exact Bx.c2 P6.out | exact Bx.c2 P5.out) (first | (go_at_call 62; refine Calls.mono (CO.out _) ?_; rintro e w5 ⟨a5, c5, rfl, I5, G5⟩; have K5 := Lib.hid ((Fr.refl [] _).drew.same G5); have P5 := Lib.hid (P.out.fr K5.out)) | (go_at_call 49; refine Calls.mono (CS.out _ _ _ (F0.out.same K5.out) I5) ?_; rintro e w6 ⟨rfl, G6⟩; have P6 := Lib.hid (P5.out.fr G6); have F6 := Lib.hid ((F0.out.same K5.out).same G6)))
      go_wp2
      go_ret2
      exact E.out _ HG.out F6.out
set_option maxRecDepth 100000 in
set_option maxHeartbeats 4000000 in
theorem r2small_true_two (w : World) (n : Nat) (h : In w a cap (lims n)) (hl : (lims n).length ≤ 2) (h0 : n ≠ 0) : Calls Tryd.prog 64 #[.agg #[.bool true, .slice a (lims n).length cap]] w (SmallI w true n) := by
  have H := Lib.hid h
  clear h
  have F0 : Hid (Fr [] w (w.alloc (.cells #[.bool true, .slice a (lims n).length cap] 52))) := Lib.hid ((Fr.refl [] w).alloc _)
  have P : Hid (Bx (w.alloc (.cells #[.bool true, .slice a (lims n).length cap] 52)) w.heap.size (.bool true) (.slice a (lims n).length cap)) := Lib.hid (Bx.new _ _ _)
  have H0 := Lib.hid (H.out.keep F0.out)
  have pc0 := P.out.c0
  have pc1 := P.out.c1
  have hb : n < 18446744073709551616 := by have := len_lims.1 hl; omega
  have LAW : Hid (decide (decide (wrap64 (IntKind.u64.wrap (-(n : Int))) < 0) = true ∧ (wrap64 (IntKind.u64.wrap (-(n : Int)))).natAbs = n) = smB true n) := Lib.hid (small_law_neg hb h0)
  have ZV : Hid (smB true n = true → wrap64 (IntKind.u64.wrap (-(n : Int))) = smV true n) := Lib.hid (fun e => by unfold smB at e; rw [decide_eq_true_eq] at e; rw [neg_back e]; rfl)
  have CO : Hid (∀ W, Calls Tryd.prog 62 #[.int .i64 (wrap64 (IntKind.u64.wrap (-(n : Int))))] W (GivesI W (decide (wrap64 (IntKind.u64.wrap (-(n : Int))) < 0)) (wrap64 (IntKind.u64.wrap (-(n : Int)))).natAbs)) := Lib.hid (fun W => r2of_c W _ (wrap64_rng _).1 (wrap64_rng _).2)
  have CS : Hid (∀ W a1 c1, Fr [] w W → In W a1 c1 (lims (wrap64 (IntKind.u64.wrap (-(n : Int)))).natAbs) → Calls Tryd.prog 49 #[.agg #[.bool (decide (wrap64 (IntKind.u64.wrap (-(n : Int))) < 0)), .slice a1 (lims (wrap64 (IntKind.u64.wrap (-(n : Int)))).natAbs).length c1], .agg #[.bool true, .slice a (lims n).length cap]] W fun e w' => e = .returned (.bool (smB true n)) ∧ Fr [] W w') := Lib.hid (fun W a1 c1 hW hI => by
    have := r2same_c W (decide (wrap64 (IntKind.u64.wrap (-(n : Int))) < 0)) true (wrap64 (IntKind.u64.wrap (-(n : Int)))).natAbs n hI (H.out.keep hW)
    rwa [LAW.out] at this)
  have D : Hid (∀ W z, (smB true n = true → z = smV true n) → smB true n = true → Fr [] w W → SmallI w true n (.returned (.tuple #[.int .i64 z, .bool true])) W) := Lib.hid (fun W z hz hg h => by unfold SmallI; rw [if_pos hg, hz hg]; exact ⟨rfl, h⟩)
  have E : Hid (∀ W, smB true n = false → Fr [] w W → SmallI w true n (.returned (.tuple #[.int .i64 0, .bool false])) W) := Lib.hid (fun W hg h => by unfold SmallI; rw [if_neg (by rw [hg]; decide)]; exact ⟨rfl, h⟩)
  have HZ : Hid (val ((lims n).drop 0) = n) := Lib.hid (by rw [List.drop_zero, val_lims])
  have HD : Hid (val ((lims n).drop (lims n).length) = 0) := Lib.hid (by rw [List.drop_length]; rfl)
  have STEP : Hid (∀ j, j < (lims n).length → val ((lims n).drop j) = (lims n)[j]?.getD 0 + 4294967296 * val ((lims n).drop (j + 1)) ∧ (lims n)[j]?.getD 0 < 4294967296 ∧ val ((lims n).drop (j + 1)) < 4294967296) := Lib.hid (fun j hj => ⟨val_drop _ j, lim_get (lim_lims n) j, by
    have h1 : val ((lims n).drop (j + 1)) < 4294967296 ^ ((lims n).drop (j + 1)).length := val_lt (lim_drop (lim_lims n) _)
    have h2 : ((lims n).drop (j + 1)).length ≤ 1 := by rw [List.length_drop]; omega
    exact Nat.lt_of_lt_of_le h1 (Nat.le_trans (Nat.pow_le_pow_right (by decide) h2) (by decide))⟩)
  have hlI : ((lims n).length : Int) ≤ 2 := by omega
  cases hg : smB true n with
  | true =>
    rw [hg] at CS
    have HG := Lib.hid hg
    clear hg LAW
    go_enter Tryd.func64, Tryd.ntmps64
    go_wp2_with fail
    go_loopg [4, 5] (lims n).length (fun j s4 s5 wr => s5 = .int .i64 ((j : Int) - 1) ∧ s4 = .int .u64 ((val ((lims n).drop j) : Nat) : Int) ∧ Hid (j ≤ (lims n).length) ∧ wr = w.alloc (.cells #[.bool true, .slice a (lims n).length cap] 52))
    case atStart => exact ⟨rfl, by rw [HD.out]; rfl, Lib.hid (Nat.le_refl _), rfl⟩
    case round =>
      obtain ⟨rfl, rfl, hj, rfl⟩ := hrel
      by_cases hj0 : gk = 0
      · subst hj0
        rw [HZ.out]
        clear HZ HD STEP
        go_wp2_with fail
        go_region_held3 (fun W => W.cell? ⟨w.heap.size, 0, none⟩ = some (.bool true) ∧ W.cell? ⟨w.heap.size, 1, none⟩ = some (.slice a (lims n).length cap)) (with_reducible first | exact Bx.c2 (P.out.fr (Fr.refl [] _).drew) | exact Bx.c2 P6.out | exact Bx.c2 P5.out) (first | (go_at_call 62; refine Calls.mono (CO.out _) ?_; rintro e w5 ⟨a5, c5, rfl, I5, G5⟩; have K5 := Lib.hid ((Fr.refl [] _).drew.same G5); have P5 := Lib.hid (P.out.fr K5.out)) | (go_at_call 49; refine Calls.mono (CS.out _ _ _ (F0.out.same K5.out) I5) ?_; rintro e w6 ⟨rfl, G6⟩; have P6 := Lib.hid (P5.out.fr G6); have F6 := Lib.hid ((F0.out.same K5.out).same G6)))
        go_wp2
        go_ret2
        exact D.out _ _ ZV.out HG.out F6.out
      · obtain ⟨i, rfl⟩ : ∃ i, gk = i + 1 := ⟨gk - 1, by omega⟩
        have hi : i < (lims n).length := hj.out
        obtain ⟨e1, hx, hu⟩ := STEP.out i hi
        obtain ⟨b, o', rfl, hbl, hc⟩ := H0.out.at hi
        have e2 : ((i + 1 : Nat) : Int) - 1 = (i : Int) := by omega
        have e3 : (0 : Int) ≤ (i : Int) := by omega
        have e4 : (i : Int) < ((lims n).length : Int) := by omega
        rw [e2]
        have HV := Lib.hid e1
        obtain ⟨v, hv⟩ : ∃ v, v = val ((lims n).drop i) := ⟨_, rfl⟩
        have HV2 := Lib.hid hv
        rw [← hv] at HV
        have HVI : Hid (((v : Nat) : Int) = ((val ((lims n).drop (i + 1)) : Nat) : Int) * 4294967296 + (((lims n)[i]?.getD 0 : Nat) : Int)) := Lib.hid (by rw [HV.out]; omega)
        have HJ : Hid (i ≤ (lims n).length) := Lib.hid (by omega)
        clear hv e1 e2 STEP HZ HD
        generalize (lims n)[i]?.getD 0 = x at *
        generalize val ((lims n).drop (i + 1)) = u at *
        go_wp2_with fail
        go_roundg i
        case measure => omega
        case rel => exact ⟨rfl, by rw [← HV2.out, HVI.out], HJ, rfl⟩
  | false =>
    rw [hg] at CS
    have HG := Lib.hid hg
    clear hg LAW
    go_enter Tryd.func64, Tryd.ntmps64
    go_wp2_with fail
    go_loopg [4, 5] (lims n).length (fun j s4 s5 wr => s5 = .int .i64 ((j : Int) - 1) ∧ s4 = .int .u64 ((val ((lims n).drop j) : Nat) : Int) ∧ Hid (j ≤ (lims n).length) ∧ wr = w.alloc (.cells #[.bool true, .slice a (lims n).length cap] 52))
    case atStart => exact ⟨rfl, by rw [HD.out]; rfl, Lib.hid (Nat.le_refl _), rfl⟩
    case round =>
      obtain ⟨rfl, rfl, hj, rfl⟩ := hrel
      by_cases hj0 : gk = 0
      · subst hj0
        rw [HZ.out]
        clear HZ HD STEP
        go_wp2_with fail
        go_region_held3 (fun W => W.cell? ⟨w.heap.size, 0, none⟩ = some (.bool true) ∧ W.cell? ⟨w.heap.size, 1, none⟩ = some (.slice a (lims n).length cap)) (with_reducible first | exact Bx.c2 (P.out.fr (Fr.refl [] _).drew) | exact Bx.c2 P6.out | exact Bx.c2 P5.out) (first | (go_at_call 62; refine Calls.mono (CO.out _) ?_; rintro e w5 ⟨a5, c5, rfl, I5, G5⟩; have K5 := Lib.hid ((Fr.refl [] _).drew.same G5); have P5 := Lib.hid (P.out.fr K5.out)) | (go_at_call 49; refine Calls.mono (CS.out _ _ _ (F0.out.same K5.out) I5) ?_; rintro e w6 ⟨rfl, G6⟩; have P6 := Lib.hid (P5.out.fr G6); have F6 := Lib.hid ((F0.out.same K5.out).same G6)))
        go_wp2
        go_ret2
        exact E.out _ HG.out F6.out
      · obtain ⟨i, rfl⟩ : ∃ i, gk = i + 1 := ⟨gk - 1, by omega⟩
        have hi : i < (lims n).length := hj.out
        obtain ⟨e1, hx, hu⟩ := STEP.out i hi
        obtain ⟨b, o', rfl, hbl, hc⟩ := H0.out.at hi
        have e2 : ((i + 1 : Nat) : Int) - 1 = (i : Int) := by omega
        have e3 : (0 : Int) ≤ (i : Int) := by omega
        have e4 : (i : Int) < ((lims n).length : Int) := by omega
        rw [e2]
        have HV := Lib.hid e1
        obtain ⟨v, hv⟩ : ∃ v, v = val ((lims n).drop i) := ⟨_, rfl⟩
        have HV2 := Lib.hid hv
        rw [← hv] at HV
        have HVI : Hid (((v : Nat) : Int) = ((val ((lims n).drop (i + 1)) : Nat) : Int) * 4294967296 + (((lims n)[i]?.getD 0 : Nat) : Int)) := Lib.hid (by rw [HV.out]; omega)
        have HJ : Hid (i ≤ (lims n).length) := Lib.hid (by omega)
        clear hv e1 e2 STEP HZ HD
        generalize (lims n)[i]?.getD 0 = x at *
        generalize val ((lims n).drop (i + 1)) = u at *
        go_wp2_with fail
        go_roundg i
        case measure => omega
        case rel => exact ⟨rfl, by rw [← HV2.out, HVI.out], HJ, rfl⟩
theorem r2small_c (w : World) (s : Bool) (n : Nat) (h : In w a cap (lims n)) (h0 : s = true → n ≠ 0) : Calls Tryd.prog 64 #[.agg #[.bool s, .slice a (lims n).length cap]] w (SmallI w s n) := by
  by_cases hl : (lims n).length ≤ 2
  · cases s with
    | true => exact r2small_true_two w n h hl (h0 rfl)
    | false => exact r2small_false_two w n h hl
  · cases s with
    | true => exact r2small_true_far w n h (by omega)
    | false => exact r2small_false_far w n h (by omega)
end Go.Proofs.YtladhmbidicncaaDoor
