/- Exact: powers, on paper. -/
import Derived.Test.YtladhmbidicncaaDoorExaW
namespace Go.Proofs.YtladhmbidicncaaDoor
open Go.ChangeShapes Go.WideShapes Go.RowKit
variable {w w' w2 wr : World} {a b : Option Addr} {cap cap2 : Nat} {L M : List Nat} {B : Nat}
/-- A power: what is left of the exponent, what has come out, the number's square. -/
def powP (k : Nat) (so : Bool) (no : Nat) (sa : Bool) (na : Nat) : Option (Bool × Nat) :=
  if k % 2 = 1 ∧ fits (no * na) = false then none
  else if _h : k / 2 = 0 then some (if k % 2 = 1 then (sg (so != sa) (no * na), no * na) else (so, no))
  else if fits (na * na) = false then none
  else powP (k / 2) (if k % 2 = 1 then sg (so != sa) (no * na) else so) (if k % 2 = 1 then no * na else no) (sg (sa != sa) (na * na)) (na * na)
termination_by k
decreasing_by omega
theorem pow_big {k no na : Nat} {so sa : Bool} (h : k % 2 = 1) (hf : fits (no * na) = false) : powP k so no sa na = none := by
  rw [powP, if_pos ⟨h, hf⟩]
theorem pow_odd_end {k no na : Nat} {so sa : Bool} (h : k % 2 = 1) (hf : fits (no * na) = true) (h2 : k / 2 = 0) : powP k so no sa na = some (sg (so != sa) (no * na), no * na) := by
  rw [powP, if_neg (by rw [hf]; simp), dif_pos h2, if_pos h]
theorem pow_even_end {k no na : Nat} {so sa : Bool} (h : ¬ k % 2 = 1) (h2 : k / 2 = 0) : powP k so no sa na = some (so, no) := by
  rw [powP, if_neg (by simp [h]), dif_pos h2, if_neg h]
theorem pow_odd_big {k no na : Nat} {so sa : Bool} (_ : k % 2 = 1) (hf : fits (no * na) = true) (h2 : ¬ k / 2 = 0) (hg : fits (na * na) = false) : powP k so no sa na = none := by
  rw [powP, if_neg (by rw [hf]; simp), dif_neg h2, if_pos hg]
theorem pow_even_big {k no na : Nat} {so sa : Bool} (h : ¬ k % 2 = 1) (h2 : ¬ k / 2 = 0) (hg : fits (na * na) = false) : powP k so no sa na = none := by
  rw [powP, if_neg (by simp [h]), dif_neg h2, if_pos hg]
theorem pow_odd {k no na : Nat} {so sa : Bool} (h : k % 2 = 1) (hf : fits (no * na) = true) (h2 : ¬ k / 2 = 0) (hg : fits (na * na) = true) : powP k so no sa na = powP (k / 2) (sg (so != sa) (no * na)) (no * na) (sg (sa != sa) (na * na)) (na * na) := by
  rw [powP, if_neg (by rw [hf]; simp), dif_neg h2, if_neg (by rw [hg]; decide), if_pos h, if_pos h]
theorem pow_even {k no na : Nat} {so sa : Bool} (h : ¬ k % 2 = 1) (h2 : ¬ k / 2 = 0) (hg : fits (na * na) = true) : powP k so no sa na = powP (k / 2) so no (sg (sa != sa) (na * na)) (na * na) := by
  rw [powP, if_neg (by simp [h]), dif_neg h2, if_neg (by rw [hg]; decide), if_neg h, if_neg h]
theorem and_one (k : Nat) (hk : k ≤ 1000) : bits BinOp.and IntKind.i64 (k : Int) 1 = ((k % 2 : Nat) : Int) := by
  have : ∀ k : Fin 1001, bits BinOp.and IntKind.i64 ((k.val : Nat) : Int) 1 = ((k.val % 2 : Nat) : Int) := by decide +kernel
  exact this ⟨k, by omega⟩
/-- What a power gives. -/
def PowI (w : World) (T : Option (Bool × Nat)) (e : Ending) (w' : World) : Prop :=
  match T with
  | some (s, n) => ∃ a c, e = .returned (.tuple #[.agg #[.bool s, .slice a (lims n).length c], .int .i64 0]) ∧ In w' a c (lims n) ∧ Fr [] w w'
  | none => e = .returned (.tuple #[.agg #[.bool false, .slice none 0 0], .int .i64 11]) ∧ Fr [] w w'
end Go.Proofs.YtladhmbidicncaaDoor
