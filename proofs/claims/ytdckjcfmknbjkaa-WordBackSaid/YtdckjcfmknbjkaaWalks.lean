/- The contracts of the words' functions: what each returns, for every input. -/
import Derived.Test.YtdckjcfmknbjkaaRows
import Derived.WalkKit
import Derived.WalkLawsBesides
import Derived.WalkSpells
import Derived.Outline
import Derived.OpenShut
import Derived.Laws.BitsAllLaws
namespace Go.Proofs.Ytdckjcfmknbjkaa
open Go.ChangeShapes Go.WideShapes Go.RowKit
/-- A word with a tag. -/
def mk (t n : Int) : Int := (n % 2305843009213693952) * 8 + t
def mkVal (w : Int) : Int := if w % 8 = 0 ∧ 9223372036854775808 ≤ w then w / 8 - 2305843009213693952 else w / 8
def rightB (w : Int) : Bool := decide (w % 8 = 0) || (decide (1 ≤ w % 8 ∧ w % 8 ≤ 4) && decide (w / 8 ≤ 16777215)) || (decide (w % 8 = 5) && decide (w / 8 ≤ 5))
theorem mk_bd (t n : Int) (h0 : 0 ≤ t) (h1 : t ≤ 5) : 0 ≤ mk t n ∧ mk t n < 18446744073709551616 := by unfold mk; omega
theorem wraps_u64 (n : Int) (h₀ : 0 ≤ n) (h₁ : n < 2 ^ 64) : IntKind.u64.wrap n = n := by rw [IntKind.wrap_u64]; omega
theorem and7 (t : Int) (h0 : 0 ≤ t) (h1 : t < 18446744073709551616) : bits BinOp.and IntKind.u64 t 7 = t % 8 :=
  bits_mask .u64 64 (by decide) wraps_u64 3 (by decide) t h0 (by omega)
theorem or_made (t n : Int) (h0 : 0 ≤ t) (h1 : t ≤ 5) : bits BinOp.or IntKind.u64 (IntKind.u64.wrap (IntKind.u64.wrap n * 8)) t = mk t n := by
  have e : IntKind.u64.wrap (IntKind.u64.wrap n * 8) = (n % 2305843009213693952) * 8 := by
    rw [IntKind.wrap_u64, IntKind.wrap_u64]; omega
  rw [e, bits_join .u64 64 (by decide) wraps_u64 3 _ _ (by omega) (by omega) (by omega) h0 (by omega) (by omega)]
  rfl
theorem ret_int {k : IntKind} {a b : Int} (h : a = b) : Ending.returned (.int k a) = .returned (.int k b) := by rw [h]
theorem ret_bool {a b : Bool} (h : a = b) : Ending.returned (.bool a) = .returned (.bool b) := by rw [h]

theorem made_c (t n : Int) (w : World) (h0 : 0 ≤ t) (h1 : t ≤ 5) :
    Calls Try.prog 24 #[.int .u64 t, .int .i64 n] w fun e w' => e = .returned (.int .u64 (mk t n)) ∧ w = w' := by
  go_enter Try.func24, Try.ntmps24
  go_wp2
  go_ret
  exact ⟨ret_int (or_made t n h0 h1), rfl⟩
theorem made_r (t n : Int) (w : World) (h0 : 0 ≤ t) (h1 : t ≤ 5) :
    Calls Try.prog 11 #[.int .i64 t, .int .i64 n] w fun e w' => e = .returned (.int .u64 (mk t n)) ∧ w = w' := by
  go_enter Try.func11, Try.ntmps11
  go_wp2
  go_ret
  refine ⟨ret_int ?_, rfl⟩
  simp only [IntKind.wrap_u64, mk]
  rw [Int.tmod_eq_emod_of_nonneg (by omega)]
  omega
theorem small_c (n : Int) (w : World) :
    Calls Try.prog 8 #[.int .i64 n] w fun e w' => e = .returned (.tuple #[.int .u64 (if -1152921504606846976 ≤ n ∧ n ≤ 1152921504606846975 then mk 0 n else 0), .bool (decide (-1152921504606846976 ≤ n ∧ n ≤ 1152921504606846975))]) ∧ w = w' := by
  by_cases h1 : n < -1152921504606846976
  · rw [if_neg (by omega), decide_eq_false (by omega)]
    go_enter Try.func8, Try.ntmps8
    go_wp2
    go_ret2
    exact ⟨rfl, rfl⟩
  by_cases h2 : 1152921504606846975 < n
  · rw [if_neg (by omega), decide_eq_false (by omega)]
    go_enter Try.func8, Try.ntmps8
    go_wp2
    go_ret2
    exact ⟨rfl, rfl⟩
  rw [if_pos (by omega), decide_eq_true (by omega)]
  go_enter Try.func8, Try.ntmps8
  go_wp2_with (go_at_call 24; refine (made_c _ _ _ (by omega) (by omega)).mono ?_; rintro e w' ⟨rfl, rfl⟩)
  go_ret2
  exact ⟨rfl, rfl⟩
theorem small_r (n : Int) (w : World) :
    Calls Try.prog 9 #[.int .i64 n] w fun e w' => e = .returned (.tuple #[.int .u64 (if -1152921504606846976 ≤ n ∧ n ≤ 1152921504606846975 then mk 0 n else 0), .bool (decide (-1152921504606846976 ≤ n ∧ n ≤ 1152921504606846975))]) ∧ w = w' := by
  by_cases h1 : n < -1152921504606846976
  · rw [if_neg (by omega), decide_eq_false (by omega)]
    go_enter Try.func9, Try.ntmps9
    go_wp2
    go_ret2
    exact ⟨rfl, rfl⟩
  by_cases h2 : 1152921504606846975 < n
  · rw [if_neg (by omega), decide_eq_false (by omega)]
    go_enter Try.func9, Try.ntmps9
    go_wp2
    go_ret2
    exact ⟨rfl, rfl⟩
  rw [if_pos (by omega), decide_eq_true (by omega)]
  go_enter Try.func9, Try.ntmps9
  go_wp2_with (go_at_call 11; refine (made_r _ _ _ (by omega) (by omega)).mono ?_; rintro e w' ⟨rfl, rfl⟩)
  go_ret2
  exact ⟨rfl, rfl⟩
theorem place_c (n : Int) (w : World) : Calls Try.prog 10 #[.int .i64 n] w fun e w' => e = .returned (.int .u64 (mk 1 n)) ∧ w = w' := by
  go_enter Try.func10, Try.ntmps10
  go_wp2_with (go_at_call 24; refine (made_c _ _ _ (by omega) (by omega)).mono ?_; rintro e w' ⟨rfl, rfl⟩)
  go_ret
  exact ⟨rfl, rfl⟩
theorem char_c (n : Int) (w : World) : Calls Try.prog 12 #[.int .i64 n] w fun e w' => e = .returned (.int .u64 (mk 2 n)) ∧ w = w' := by
  go_enter Try.func12, Try.ntmps12
  go_wp2_with (go_at_call 24; refine (made_c _ _ _ (by omega) (by omega)).mono ?_; rintro e w' ⟨rfl, rfl⟩)
  go_ret
  exact ⟨rfl, rfl⟩
theorem symbol_c (n : Int) (w : World) : Calls Try.prog 13 #[.int .i64 n] w fun e w' => e = .returned (.int .u64 (mk 3 n)) ∧ w = w' := by
  go_enter Try.func13, Try.ntmps13
  go_wp2_with (go_at_call 24; refine (made_c _ _ _ (by omega) (by omega)).mono ?_; rintro e w' ⟨rfl, rfl⟩)
  go_ret
  exact ⟨rfl, rfl⟩
theorem prim_c (n : Int) (w : World) : Calls Try.prog 14 #[.int .i64 n] w fun e w' => e = .returned (.int .u64 (mk 4 n)) ∧ w = w' := by
  go_enter Try.func14, Try.ntmps14
  go_wp2_with (go_at_call 24; refine (made_c _ _ _ (by omega) (by omega)).mono ?_; rintro e w' ⟨rfl, rfl⟩)
  go_ret
  exact ⟨rfl, rfl⟩
theorem single_c (n : Int) (w : World) : Calls Try.prog 15 #[.int .i64 n] w fun e w' => e = .returned (.int .u64 (mk 5 n)) ∧ w = w' := by
  go_enter Try.func15, Try.ntmps15
  go_wp2_with (go_at_call 24; refine (made_c _ _ _ (by omega) (by omega)).mono ?_; rintro e w' ⟨rfl, rfl⟩)
  go_ret
  exact ⟨rfl, rfl⟩
theorem kind_c (t : Int) (w : World) (h0 : 0 ≤ t) (h1 : t < 18446744073709551616) :
    Calls Try.prog 16 #[.int .u64 t] w fun e w' => e = .returned (.int .i64 (t % 8)) ∧ w = w' := by
  have e7 := and7 t h0 h1
  go_enter Try.func16, Try.ntmps16
  go_wp2
  go_ret
  exact ⟨rfl, rfl⟩
theorem kind_r (t : Int) (w : World) (h0 : 0 ≤ t) (h1 : t < 18446744073709551616) :
    Calls Try.prog 17 #[.int .u64 t] w fun e w' => e = .returned (.int .i64 (t % 8)) ∧ w = w' := by
  go_enter Try.func17, Try.ntmps17
  go_wp2
  go_ret
  exact ⟨rfl, rfl⟩
theorem value_c (t : Int) (w : World) (h0 : 0 ≤ t) (h1 : t < 18446744073709551616) :
    Calls Try.prog 18 #[.int .u64 t] w fun e w' => e = .returned (.int .i64 (mkVal t)) ∧ w = w' := by
  have e7 := and7 t h0 h1
  by_cases hk : t % 8 = 0
  · have hb : (t % 8 == 0) = true := by simpa using hk
    go_enter Try.func18, Try.ntmps18
    go_wp2
    go_ret
    refine ⟨ret_int ?_, rfl⟩
    unfold mkVal wrap64
    omega
  · have hb : (t % 8 == 0) = false := by simpa using hk
    go_enter Try.func18, Try.ntmps18
    go_wp2
    go_ret
    refine ⟨ret_int ?_, rfl⟩
    unfold mkVal
    rw [if_neg (by omega)]
theorem value_r (t : Int) (w : World) (h0 : 0 ≤ t) (h1 : t < 18446744073709551616) :
    Calls Try.prog 19 #[.int .u64 t] w fun e w' => e = .returned (.int .i64 (mkVal t)) ∧ w = w' := by
  go_enter Try.func19, Try.ntmps19
  go_wp2
  all_goals go_ret
  all_goals refine ⟨ret_int ?_, rfl⟩
  all_goals unfold mkVal
  · rw [if_pos (by omega)]; omega
  · rw [if_neg (by omega)]
  · rw [if_neg (by omega)]
theorem rightB_eq (w : Int) (h0 : 0 ≤ w) (h1 : w < 18446744073709551616) : rightB w =
    (if w % 8 = 0 then true else if w % 8 = 1 ∨ w % 8 = 2 ∨ w % 8 = 3 ∨ w % 8 = 4 then decide (mkVal w ≤ 16777215) else if w % 8 = 5 then decide (mkVal w ≤ 5) else false) := by
  have e : w % 8 ≠ 0 → mkVal w = w / 8 := fun h => by unfold mkVal; rw [if_neg (by omega)]
  by_cases a : w % 8 = 0
  · simp [rightB, a]
  · rw [e a, if_neg a, Bool.eq_iff_iff]
    unfold rightB
    by_cases b : w % 8 = 1 ∨ w % 8 = 2 ∨ w % 8 = 3 ∨ w % 8 = 4
    · rw [if_pos b]; simp; omega
    · rw [if_neg b]
      by_cases c : w % 8 = 5
      · rw [if_pos c]; simp; omega
      · rw [if_neg c]; simp; omega
theorem right_c (t : Int) (w : World) (h0 : 0 ≤ t) (h1 : t < 18446744073709551616) :
    Calls Try.prog 20 #[.int .u64 t] w fun e w' => e = .returned (.bool (rightB t)) ∧ w = w' := by
  rw [rightB_eq t h0 h1]
  have hk : t % 8 = 0 ∨ t % 8 = 1 ∨ t % 8 = 2 ∨ t % 8 = 3 ∨ t % 8 = 4 ∨ t % 8 = 5 ∨ t % 8 = 6 ∨ t % 8 = 7 := by omega
  rcases hk with hk | hk | hk | hk | hk | hk | hk | hk
  all_goals
    go_enter Try.func20, Try.ntmps20
    go_wp2_with (first | (go_at_call 16; refine (kind_c _ _ h0 h1).mono ?_; rintro e w' ⟨rfl, rfl⟩) | (go_at_call 18; refine (value_c _ _ h0 h1).mono ?_; rintro e w' ⟨rfl, rfl⟩))
    go_ret
    exact ⟨ret_bool (by simp), rfl⟩
theorem right_r (t : Int) (w : World) (h0 : 0 ≤ t) (h1 : t < 18446744073709551616) :
    Calls Try.prog 21 #[.int .u64 t] w fun e w' => e = .returned (.bool (rightB t)) ∧ w = w' := by
  rw [rightB_eq t h0 h1]
  have hk : t % 8 = 0 ∨ t % 8 = 1 ∨ t % 8 = 2 ∨ t % 8 = 3 ∨ t % 8 = 4 ∨ t % 8 = 5 ∨ t % 8 = 6 ∨ t % 8 = 7 := by omega
  rcases hk with hk | hk | hk | hk | hk | hk | hk | hk
  all_goals
    go_enter Try.func21, Try.ntmps21
    go_wp2_with (first | (go_at_call 17; refine (kind_r _ _ h0 h1).mono ?_; rintro e w' ⟨rfl, rfl⟩) | (go_at_call 19; refine (value_r _ _ h0 h1).mono ?_; rintro e w' ⟨rfl, rfl⟩))
    all_goals go_ret
    all_goals exact ⟨ret_bool (by simp [*]), rfl⟩
theorem least_c (w : World) : Calls Try.prog 22 #[] w fun e w' => e = .returned (.int .i64 (-1152921504606846976)) ∧ w = w' := by
  go_enter Try.func22, Try.ntmps22
  go_wp2
  go_ret
  exact ⟨rfl, rfl⟩
theorem most_c (w : World) : Calls Try.prog 23 #[] w fun e w' => e = .returned (.int .i64 1152921504606846975) ∧ w = w' := by
  go_enter Try.func23, Try.ntmps23
  go_wp2
  go_ret
  exact ⟨rfl, rfl⟩
theorem alive_c (w : World) : Calls Try.prog 7 #[] w fun e w' => e = .returned (.bool true) ∧ w = w' := by
  go_enter Try.func7, Try.ntmps7
  go_wp2_with (first | (go_at_call 8; refine (small_c _ _).mono ?_; rintro e w' ⟨rfl, rfl⟩) | (go_at_call 23; refine (most_c _).mono ?_; rintro e w' ⟨rfl, rfl⟩) | (go_at_call 16; refine (kind_c _ _ (by decide) (by decide)).mono ?_; rintro e w' ⟨rfl, rfl⟩) | (go_at_call 18; refine (value_c _ _ (by decide) (by decide)).mono ?_; rintro e w' ⟨rfl, rfl⟩) | (go_at_call 10; refine (place_c _ _).mono ?_; rintro e w' ⟨rfl, rfl⟩))
  go_ret
  exact ⟨ret_bool (by decide), rfl⟩
end Go.Proofs.Ytdckjcfmknbjkaa
