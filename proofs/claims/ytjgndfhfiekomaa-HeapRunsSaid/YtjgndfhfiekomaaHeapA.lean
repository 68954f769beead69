/- The heap: an object's head, its place; fields. -/
import Derived.Test.YtjgndfhfiekomaaWord
import Derived.Test.YtjgndfhfiekomaaArenaI
import Derived.StillTailTactics
import Derived.Deep.RegionWith
import Derived.Deep.RegionLaw
set_option linter.all false
namespace Go.Proofs.Ytjgndfhfiekomaa
open Go.ChangeShapes Go.WideShapes Go.RowKit
/-- The words are words. -/
def Ar.Wd (A : Ar) : Prop := ∀ x, x ∈ A.words → 0 ≤ x ∧ x < 18446744073709551616
def Ar.wd (A : Ar) (i : Nat) : Int := A.words[i]?.getD 0
theorem Ar.Wd.at {A : Ar} (h : A.Wd) (i : Nat) : 0 ≤ Ar.wd A i ∧ Ar.wd A i < 18446744073709551616 := by
  unfold Ar.wd
  rcases Nat.lt_or_ge i A.words.length with hi | hi
  · rw [List.getElem?_eq_getElem hi]; exact h _ (List.getElem_mem hi)
  · rw [List.getElem?_eq_none hi]; simp
structure Hd where
  a : Nat
  kind : Nat
  pins : Nat
  n : Nat
/-- A head as a word. -/
def hdW (kind pins n : Int) : Int := (n * 256 + pins * 32 + kind) * 8 + 6
/-- The object that a word tells. -/
def hAt (A : Ar) (m : Nat) (w : Int) : Option Hd :=
  if w % 8 = 1 ∧ w / 8 < (m : Int) * 256 ∧ A.wd (w / 8).toNat % 8 = 6 then
    some ⟨(w / 8).toNat, (A.wd (w / 8).toNat / 8 % 32).toNat, (A.wd (w / 8).toNat / 256 % 8).toNat, (A.wd (w / 8).toNat / 2048).toNat⟩
  else none
/-- A heap at its block, over its arena. -/
structure HeAt (w : World) (hb b wb lb : Nat) (A : Ar) : Prop where
  p : blk w hb = some (.cells #[.pointer (some ⟨b, 0, none⟩)] 111 (0, 0))
  ar : ArAt w b wb lb A
  n1 : hb ≠ b
  n2 : hb ≠ wb
  n3 : hb ≠ lb
variable {w : World} {hb b wb lb : Nat} {A : Ar} {m : Nat}
theorem HeAt.fr {S : List Nat} {w' : World} (h : HeAt w hb b wb lb A) (hF : Fr S w w') (h0 : hb ∉ S) (h1 : b ∉ S) (h2 : wb ∉ S) (h3 : lb ∉ S) : HeAt w' hb b wb lb A :=
  ⟨hF.at h.p h0, h.ar.fr hF h1 h2 h3, h.n1, h.n2, h.n3⟩
theorem HeAt.keep {w' : World} (h : HeAt w hb b wb lb A) (hF : Fr [] w w') : HeAt w' hb b wb lb A := h.fr hF (by simp) (by simp) (by simp) (by simp)
theorem HeAt.cell (h : HeAt w hb b wb lb A) : w.cell? ⟨hb, 0, none⟩ = some (.pointer (some ⟨b, 0, none⟩)) := cell_of h.p rfl
theorem HeAt.arena {S : List Nat} {w' : World} {A' : Ar} (h : HeAt w hb b wb lb A) (hF : Fr S w w') (h0 : hb ∉ S) (hA : ArAt w' b wb lb A') : HeAt w' hb b wb lb A' :=
  ⟨hF.at h.p h0, hA, h.n1, h.n2, h.n3⟩
def hdVal : Option Hd → Value
  | some h => .tuple #[.int .i64 h.a, .agg #[.int .i64 h.kind, .int .i64 h.pins, .int .i64 h.n], .bool true]
  | none => .tuple #[.int .i64 0, .agg #[.int .i64 0, .int .i64 0, .int .i64 0], .bool false]
def AtDone (w : World) (o : Option Hd) (e : Ending) (w' : World) : Prop := e = .returned (hdVal o) ∧ Fr [] w w'
theorem at_no1 (w : World) (x : Int) (h0 : 0 ≤ x) (h1 : x < 18446744073709551616) (hx : x % 8 ≠ 1) (ptr : Value) :
    Calls Try.prog 74 #[ptr, .int .u64 x] w (AtDone w none) := by
  have hbb : (x % 8 != 1) = true := by simpa using hx
  go_enter Try.func74, Try.ntmps74
  go_wp2_with (go_at_call 81; refine (kind_c _ _ h0 h1).mono ?_; rintro e w' ⟨rfl, rfl⟩)
  refine bodyPost_ret (v := hdVal none) (by simp [results, Try.results74, go_sem, hdVal]) rfl ⟨rfl, ?_⟩
  exact (Fr.refl _ _).alloc _
theorem wraps_i64 (n : Int) (h₀ : 0 ≤ n) (h₁ : n < 2 ^ 63) : IntKind.i64.wrap n = n := by rw [IntKind.wrap_i64]; omega
theorem andi7 (t : Int) (h0 : 0 ≤ t) (h1 : t < 9223372036854775808) : bits BinOp.and IntKind.i64 t 7 = t % 8 :=
  bits_mask .i64 63 (by decide) wraps_i64 3 (by decide) t h0 (by omega)
theorem val1 (x : Int) (hx : x % 8 = 1) : wVal x = x / 8 := by unfold wVal; rw [if_neg (by omega)]
theorem at_out (w : World) (hH : HeAt w hb b wb lb A) (ok : A.Ok m) (x : Int) (h0 : 0 ≤ x) (h1 : x < 18446744073709551616) (hx : x % 8 = 1) (ha : (m : Int) * 256 ≤ x / 8) :
    Calls Try.prog 74 #[.pointer (some ⟨hb, 0, none⟩), .int .u64 x] w (AtDone w none) := by
  have hbb : (x % 8 != 1) = false := by simpa using hx
  have c0 := hH.cell
  have HH := Lib.hid hH
  have OK := Lib.hid ok
  have V1 := Lib.hid (val1 x hx)
  have qb := lt_size hH.p
  clear hH ok hx
  go_enter Try.func74, Try.ntmps74
  go_wp2_with fail
  refine (kind_c _ _ h0 h1).mono ?_
  rintro e w' ⟨rfl, rfl⟩
  go_wp2_with fail
  refine (value_c _ _ h0 h1).mono ?_
  rintro e w' ⟨rfl, rfl⟩
  rw [V1.out]
  go_wp2_with fail
  refine (get_no _ (HH.out.ar.fr ((Fr.refl [] w).alloc _) (by simp) (by simp) (by simp)) OK.out (x / 8) (.inr ha)).mono ?_
  rintro e w' ⟨rfl, rfl⟩
  go_wp2
  refine bodyPost_ret (v := hdVal none) (by simp [results, Try.results74, go_sem, hdVal]) rfl ⟨rfl, ?_⟩
  exact (Fr.refl _ _).alloc _
theorem at_in (w : World) (hH : HeAt w hb b wb lb A) (ok : A.Ok m) (x : Int) (a : Nat) (y : Int) (h0 : 0 ≤ x) (h1 : x < 18446744073709551616) (hx : x % 8 = 1) (ha : x / 8 = a) (hm : a < m * 256) (hy : A.words[a]?.getD 0 = y) (y0 : 0 ≤ y) (y1 : y < 18446744073709551616) (h6 : y % 8 ≠ 6) :
    Calls Try.prog 74 #[.pointer (some ⟨hb, 0, none⟩), .int .u64 x] w (AtDone w none) := by
  have hbb : (x % 8 != 1) = false := by simpa using hx
  have h6b : (y % 8 != 6) = true := by simpa using h6
  have c0 := hH.cell
  have e7 := and7 y y0 y1
  have HH := Lib.hid hH
  have OK := Lib.hid ok
  have V1 := Lib.hid ((val1 x hx).trans ha)
  have qb := lt_size hH.p
  have HY := Lib.hid hy
  clear hH ok hx ha hy h6
  go_enter Try.func74, Try.ntmps74
  go_wp2_with fail
  refine (kind_c _ _ h0 h1).mono ?_
  rintro e w' ⟨rfl, rfl⟩
  go_wp2_with fail
  refine (value_c _ _ h0 h1).mono ?_
  rintro e w' ⟨rfl, rfl⟩
  rw [V1.out]
  go_wp2_with fail
  refine (get_yes _ (HH.out.ar.fr ((Fr.refl [] w).alloc _) (by simp) (by simp) (by simp)) OK.out a hm).mono ?_
  rintro e w' ⟨rfl, rfl⟩
  rw [HY.out]
  go_wp2
  refine bodyPost_ret (v := hdVal none) (by simp [results, Try.results74, go_sem, hdVal]) rfl ⟨rfl, ?_⟩
  exact (Fr.refl _ _).alloc _
theorem at_yes (w : World) (hH : HeAt w hb b wb lb A) (ok : A.Ok m) (x : Int) (a : Nat) (y : Int) (h0 : 0 ≤ x) (h1 : x < 18446744073709551616) (hx : x % 8 = 1) (ha : x / 8 = a) (hm : a < m * 256) (hy : A.words[a]?.getD 0 = y) (y0 : 0 ≤ y) (y1 : y < 18446744073709551616) (h6 : y % 8 = 6) :
    Calls Try.prog 74 #[.pointer (some ⟨hb, 0, none⟩), .int .u64 x] w fun e w' => e = .returned (.tuple #[.int .i64 (a : Int), .agg #[.int .i64 (y / 8 % 32), .int .i64 (y / 8 / 32 % 8), .int .i64 (y / 8 / 256)], .bool true]) ∧ Fr [] w w' := by
  have hbb : (x % 8 != 1) = false := by simpa using hx
  have h6b : (y % 8 != 6) = false := by simpa using h6
  have c0 := hH.cell
  have e7 := and7 y y0 y1
  have e8 := andi7 (y / 8 / 32) (by omega) (by omega)
  have HH := Lib.hid hH
  have OK := Lib.hid ok
  have V1 := Lib.hid ((val1 x hx).trans ha)
  have qb := lt_size hH.p
  have HY := Lib.hid hy
  clear hH ok hx ha hy h6
  go_enter Try.func74, Try.ntmps74
  go_wp2_with fail
  refine (kind_c _ _ h0 h1).mono ?_
  rintro e w' ⟨rfl, rfl⟩
  go_wp2_with fail
  refine (value_c _ _ h0 h1).mono ?_
  rintro e w' ⟨rfl, rfl⟩
  rw [V1.out]
  go_wp2_with fail
  refine (get_yes _ (HH.out.ar.fr ((Fr.refl [] w).alloc _) (by simp) (by simp) (by simp)) OK.out a hm).mono ?_
  rintro e w' ⟨rfl, rfl⟩
  rw [HY.out]
  go_wp2
  refine bodyPost_ret (v := .tuple #[.int .i64 (a : Int), .agg #[.int .i64 (y / 8 % 32), .int .i64 (y / 8 / 32 % 8), .int .i64 (y / 8 / 256)], .bool true]) (by simp [results, Try.results74, go_sem]) rfl ⟨rfl, ?_⟩
  exact (Fr.refl _ _).alloc _
theorem at_c (w : World) (hH : HeAt w hb b wb lb A) (ok : A.Ok m) (wd : A.Wd) (x : Int) (h0 : 0 ≤ x) (h1 : x < 18446744073709551616) :
    Calls Try.prog 74 #[.pointer (some ⟨hb, 0, none⟩), .int .u64 x] w (AtDone w (hAt A m x)) := by
  have hwd := wd.at (x / 8).toNat
  by_cases hx : x % 8 = 1
  · by_cases ha : x / 8 < (m : Int) * 256
    · by_cases h6 : A.wd (x / 8).toNat % 8 = 6
      · have := at_yes w hH ok x (x / 8).toNat (A.wd (x / 8).toNat) h0 h1 hx (by omega) (by omega) rfl hwd.1 hwd.2 h6
        unfold hAt
        rw [if_pos ⟨hx, ha, h6⟩]
        refine this.mono ?_
        rintro e w' ⟨rfl, hF⟩
        refine ⟨?_, hF⟩
        simp only [hdVal]
        rw [show ((A.wd (x / 8).toNat / 8 % 32).toNat : Int) = A.wd (x / 8).toNat / 8 % 32 by omega, show ((A.wd (x / 8).toNat / 256 % 8).toNat : Int) = A.wd (x / 8).toNat / 8 / 32 % 8 by omega, show ((A.wd (x / 8).toNat / 2048).toNat : Int) = A.wd (x / 8).toNat / 8 / 256 by omega]
      · unfold hAt
        rw [if_neg (by omega)]
        exact at_in w hH ok x (x / 8).toNat (A.wd (x / 8).toNat) h0 h1 hx (by omega) (by omega) rfl hwd.1 hwd.2 h6
    · unfold hAt
      rw [if_neg (by omega)]
      exact at_out w hH ok x h0 h1 hx (by omega)
  · unfold hAt
    rw [if_neg (by omega)]
    exact at_no1 w x h0 h1 hx _
end Go.Proofs.Ytjgndfhfiekomaa
