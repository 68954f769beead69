/- The words: what each function of them returns. -/
import Derived.Test.YtjgndfhfiekomaaBase
import Derived.Laws.BitsAllLaws
set_option linter.all false
namespace Go.Proofs.Ytjgndfhfiekomaa
open Go.ChangeShapes Go.WideShapes Go.RowKit
/-- A word with a tag. -/
def mkW (t n : Int) : Int := (n % 2305843009213693952) * 8 + t
def wVal (w : Int) : Int := if w % 8 = 0 ∧ 9223372036854775808 ≤ w then w / 8 - 2305843009213693952 else w / 8
theorem mkW_bd (t n : Int) (h0 : 0 ≤ t) (h1 : t ≤ 5) : 0 ≤ mkW t n ∧ mkW t n < 18446744073709551616 := by unfold mkW; omega
theorem wraps_u64 (n : Int) (h₀ : 0 ≤ n) (h₁ : n < 2 ^ 64) : IntKind.u64.wrap n = n := by rw [IntKind.wrap_u64]; omega
theorem and7 (t : Int) (h0 : 0 ≤ t) (h1 : t < 18446744073709551616) : bits BinOp.and IntKind.u64 t 7 = t % 8 :=
  bits_mask .u64 64 (by decide) wraps_u64 3 (by decide) t h0 (by omega)
theorem or_made (t n : Int) (h0 : 0 ≤ t) (h1 : t ≤ 7) : bits BinOp.or IntKind.u64 (IntKind.u64.wrap (IntKind.u64.wrap n * 8)) t = mkW t n := by
  have e : IntKind.u64.wrap (IntKind.u64.wrap n * 8) = (n % 2305843009213693952) * 8 := by
    rw [IntKind.wrap_u64, IntKind.wrap_u64]; omega
  rw [e, bits_join .u64 64 (by decide) wraps_u64 3 _ _ (by omega) (by omega) (by omega) h0 (by omega) (by omega)]
  rfl
theorem made_c (t n : Int) (w : World) (h0 : 0 ≤ t) (h1 : t ≤ 5) :
    Calls Try.prog 123 #[.int .u64 t, .int .i64 n] w fun e w' => e = .returned (.int .u64 (mkW t n)) ∧ w = w' := by
  go_enter Try.func123, Try.ntmps123
  go_wp2
  go_ret
  exact ⟨ret_int (or_made t n h0 (by omega)), rfl⟩
theorem place_c (n : Int) (w : World) : Calls Try.prog 72 #[.int .i64 n] w fun e w' => e = .returned (.int .u64 (mkW 1 n)) ∧ w = w' := by
  go_enter Try.func72, Try.ntmps72
  go_wp2_with (go_at_call 123; refine (made_c _ _ _ (by omega) (by omega)).mono ?_; rintro e w' ⟨rfl, rfl⟩)
  go_ret
  exact ⟨rfl, rfl⟩
theorem single_c (n : Int) (w : World) : Calls Try.prog 70 #[.int .i64 n] w fun e w' => e = .returned (.int .u64 (mkW 5 n)) ∧ w = w' := by
  go_enter Try.func70, Try.ntmps70
  go_wp2_with (go_at_call 123; refine (made_c _ _ _ (by omega) (by omega)).mono ?_; rintro e w' ⟨rfl, rfl⟩)
  go_ret
  exact ⟨rfl, rfl⟩
theorem kind_c (t : Int) (w : World) (h0 : 0 ≤ t) (h1 : t < 18446744073709551616) :
    Calls Try.prog 81 #[.int .u64 t] w fun e w' => e = .returned (.int .i64 (t % 8)) ∧ w = w' := by
  have e7 := and7 t h0 h1
  go_enter Try.func81, Try.ntmps81
  go_wp2
  go_ret
  exact ⟨rfl, rfl⟩
theorem value_c (t : Int) (w : World) (h0 : 0 ≤ t) (h1 : t < 18446744073709551616) :
    Calls Try.prog 82 #[.int .u64 t] w fun e w' => e = .returned (.int .i64 (wVal t)) ∧ w = w' := by
  have e7 := and7 t h0 h1
  by_cases hk : t % 8 = 0
  · have hb : (t % 8 == 0) = true := by simpa using hk
    go_enter Try.func82, Try.ntmps82
    go_wp2
    go_ret
    refine ⟨ret_int ?_, rfl⟩
    unfold wVal wrap64
    omega
  · have hb : (t % 8 == 0) = false := by simpa using hk
    go_enter Try.func82, Try.ntmps82
    go_wp2
    go_ret
    refine ⟨ret_int ?_, rfl⟩
    unfold wVal
    rw [if_neg (by omega)]
theorem wmade_r (t n : Int) (w : World) (h0 : 0 ≤ t) (h1 : t ≤ 5) :
    Calls Try.prog 64 #[.int .i64 t, .int .i64 n] w fun e w' => e = .returned (.int .u64 (mkW t n)) ∧ w = w' := by
  go_enter Try.func64, Try.ntmps64
  go_wp2
  go_ret
  refine ⟨ret_int ?_, rfl⟩
  simp only [IntKind.wrap_u64, mkW]
  rw [Int.tmod_eq_emod_of_nonneg (by omega)]
  omega
end Go.Proofs.Ytjgndfhfiekomaa
