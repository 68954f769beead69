/- Limbs: Of, Small, Div. -/
import Derived.Test.YtjdanblijcdllaaGreatDoorLimbJ
set_option linter.all false
namespace Go.Proofs.YtjdanblijcdllaaGreatDoor
open Go.ChangeShapes Go.WideShapes Go.RowKit
variable {w w' w2 wr : World} {a b : Option Addr} {cap cap2 : Nat} {L M : List Nat} {B : Nat}
theorem val_two (n : Nat) : val [n % 4294967296, n / 4294967296] = n := by simp only [val]; omega
theorem lof_c (w : World) (n : Nat) (hn : n < 18446744073709551616) : Calls Tryz.prog 94 #[.int .u64 (n : Int)] w (Gives w (lims n)) := by
  have q1 : ((n : Int) % 4294967296) = ((n % 4294967296 : Nat) : Int) := by omega
  have q2 : ((n : Int) / 4294967296) = ((n / 4294967296 : Nat) : Int) := by omega
  have h1 : n % 4294967296 < 4294967296 := Nat.mod_lt _ (by decide)
  have h2 : n / 4294967296 < 4294967296 := by omega
  have HV := Lib.hid (val_two n)
  have hn2 : n ≤ 18446744073709551615 := by omega
  clear hn
  generalize n % 4294967296 = x at *
  generalize n / 4294967296 = y at *
  have N0 : Hid (Nw (w.alloc (.cells #[.int .u32 (x : Int), .int .u32 (y : Int)] 108)) w.heap.size (some ⟨w.heap.size, 0, none⟩) 2 [x, y]) := Lib.hid (Nw.new w [x, y] 2 _ (Nat.le_refl _) (lim_cons.2 ⟨h1, lim_cons.2 ⟨h2, lim_nil⟩⟩) (by simp) (by simp) (by unfold maxLen; omega) rfl rfl)
  have CT := Lib.hid (ltrim_c _ N0.out.in)
  rw [HV.out] at CT
  clear h1 h2
  go_enter Tryz.func94, Tryz.ntmps94
  go_wp2_with fail
  refine CT.out.mono ?_
  rintro e w3 ⟨a', cap', rfl, hN, hF⟩
  have D := Lib.hid (gives_mk (w := w) (hN.base (by simp)) (((Fr.refl [] w).alloc _).same hF))
  clear hN hF
  go_wp2
  go_ret
  exact D.out
theorem one_of_len {L : List Nat} (h : L.length = 1) : L[0]?.getD 0 = val L := by
  match L, h with
  | [x], _ => simp [val]
/-- What a division gives. -/
def QR (n m q r : Nat) : Prop := n / m = q ∧ n % m = r
def DivR (w : World) (n m : Nat) (e : Ending) (w' : World) : Prop :=
  if (fits n && fits m) = false then e = .returned (.tuple #[.slice none 0 0, .slice none 0 0, .int .i64 11]) ∧ Fr [] w w'
  else if m = 0 then e = .returned (.tuple #[.slice none 0 0, .slice none 0 0, .int .i64 12]) ∧ Fr [] w w'
  else ∃ a1 c1 a2 c2, e = .returned (.tuple #[.slice a1 (lims (n / m)).length c1, .slice a2 (lims (n % m)).length c2, .int .i64 0]) ∧ Nw w' w.heap.size a1 c1 (lims (n / m)) ∧ Nw w' w.heap.size a2 c2 (lims (n % m)) ∧ Fr [] w w'
end Go.Proofs.YtjdanblijcdllaaGreatDoor
