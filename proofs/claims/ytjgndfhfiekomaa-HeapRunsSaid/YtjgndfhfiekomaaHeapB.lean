/- The heap: fields, kinds, sizes, pins. -/
import Derived.Test.YtjgndfhfiekomaaHeapA
set_option linter.all false
namespace Go.Proofs.Ytjgndfhfiekomaa
open Go.ChangeShapes Go.WideShapes Go.RowKit
variable {w : World} {hb b wb lb : Nat} {A : Ar} {m : Nat}
theorem hAt_bd (wd : A.Wd) {x : Int} {h : Hd} (h0 : 0 ≤ x) (hh : hAt A m x = some h) : h.a < m * 256 ∧ h.kind < 32 ∧ h.pins < 8 ∧ h.n < 9007199254740992 ∧ x % 8 = 1 ∧ x / 8 = h.a ∧ A.wd h.a = hdW h.kind h.pins h.n := by
  unfold hAt at hh
  split at hh
  · rename_i hc
    obtain ⟨c1, c2, c3⟩ := hc
    have := wd.at (x / 8).toNat
    simp only [Option.some.injEq] at hh
    subst hh
    simp only [hdW]
    refine ⟨by omega, by omega, by omega, by omega, c1, by omega, by omega⟩
  · simp at hh
/-- Field i of the object that a word tells, and the error's number. -/
def getF (A : Ar) (m : Nat) (x i : Int) : Int × Int :=
  match hAt A m x with
  | none => (0, 151)
  | some h => if i < 0 ∨ (h.n : Int) ≤ i ∨ (m : Int) * 256 ≤ h.a + 1 + i then (0, 151) else (A.wd (h.a + 1 + i.toNat), 0)
theorem oget_c (w : World) (hH : HeAt w hb b wb lb A) (ok : A.Ok m) (wd : A.Wd) (x i : Int) (h0 : 0 ≤ x) (h1 : x < 18446744073709551616) (bi : -9223372036854775808 ≤ i ∧ i ≤ 9223372036854775807) :
    Calls Try.prog 17 #[.pointer (some ⟨hb, 0, none⟩), .int .u64 x, .int .i64 i] w fun e w' => e = .returned (.tuple #[.int .u64 (getF A m x i).1, .int .i64 (getF A m x i).2]) ∧ Fr [] w w' := by
  have CA := Lib.hid (at_c w hH ok wd x h0 h1)
  have HH := Lib.hid hH
  have OK := Lib.hid ok
  have m1 := ok.m1
  have m2 := ok.m2
  cases ho : hAt A m x with
  | none =>
    rw [ho] at CA
    have HG : Hid (getF A m x i = (0, 151)) := Lib.hid (by unfold getF; rw [ho])
    clear hH ok ho
    rw [HG.out]
    go_enter Try.func17, Try.ntmps17
    go_wp2_with fail
    refine CA.out.mono ?_
    rintro e w1 ⟨rfl, hF⟩
    simp only [hdVal]
    go_wp2
    go_ret2
    exact ⟨rfl, hF.alloc _⟩
  | some h =>
    rw [ho] at CA
    obtain ⟨p1, p2, p3, p4, _, _, _⟩ := hAt_bd wd h0 ho
    by_cases hlo : i < 0
    · have HG : Hid (getF A m x i = (0, 151)) := Lib.hid (by unfold getF; rw [ho]; simp only []; rw [if_pos (.inl hlo)])
      clear hH ok ho
      rw [HG.out]
      go_enter Try.func17, Try.ntmps17
      go_wp2_with fail
      refine CA.out.mono ?_
      rintro e w1 ⟨rfl, hF⟩
      simp only [hdVal]
      go_wp2
      go_ret2
      exact ⟨rfl, hF.alloc _⟩
    by_cases hhi : (h.n : Int) ≤ i
    · have HG : Hid (getF A m x i = (0, 151)) := Lib.hid (by unfold getF; rw [ho]; simp only []; rw [if_pos (.inr (.inl hhi))])
      clear hH ok ho
      rw [HG.out]
      go_enter Try.func17, Try.ntmps17
      go_wp2_with fail
      refine CA.out.mono ?_
      rintro e w1 ⟨rfl, hF⟩
      simp only [hdVal]
      go_wp2
      go_ret2
      exact ⟨rfl, hF.alloc _⟩
    by_cases hout : (m : Int) * 256 ≤ h.a + 1 + i
    · have HG : Hid (getF A m x i = (0, 151)) := Lib.hid (by unfold getF; rw [ho]; simp only []; rw [if_pos (.inr (.inr hout))])
      have c0 := hH.cell
      clear hH ok ho
      rw [HG.out]
      go_enter Try.func17, Try.ntmps17
      go_wp2_with fail
      refine CA.out.mono ?_
      rintro e w1 ⟨rfl, hF⟩
      simp only [hdVal]
      have H1 := Lib.hid (HH.out.keep hF)
      have c1 := H1.out.cell
      have q1 := lt_size H1.out.p
      clear c0
      go_wp2_with fail
      refine (get_no _ ((H1.out.keep ((Fr.refl [] _).alloc _)).ar) OK.out _ (.inr hout)).mono ?_
      rintro e w' ⟨rfl, rfl⟩
      go_wp2
      go_ret2
      exact ⟨rfl, hF.alloc _⟩
    · have HG : Hid (getF A m x i = (A.wd (h.a + 1 + i.toNat), 0)) := Lib.hid (by unfold getF; rw [ho]; simp only []; rw [if_neg (by omega)])
      have c0 := hH.cell
      have hidx : Hid ((h.a : Int) + 1 + i = ((h.a + 1 + i.toNat : Nat) : Int)) := Lib.hid (by omega)
      have hin : h.a + 1 + i.toNat < m * 256 := by omega
      clear hH ok ho
      rw [HG.out]
      go_enter Try.func17, Try.ntmps17
      go_wp2_with fail
      refine CA.out.mono ?_
      rintro e w1 ⟨rfl, hF⟩
      simp only [hdVal]
      have H1 := Lib.hid (HH.out.keep hF)
      have c1 := H1.out.cell
      have q1 := lt_size H1.out.p
      clear c0
      go_wp2_with fail
      rw [hidx.out]
      refine (get_yes _ ((H1.out.keep ((Fr.refl [] _).alloc _)).ar) OK.out _ hin).mono ?_
      rintro e w' ⟨rfl, rfl⟩
      go_wp2
      go_ret2
      exact ⟨rfl, hF.alloc _⟩
/-- The heap's arena with another word in field i, and the error's number. -/
def setF (A : Ar) (m : Nat) (x i v : Int) : Ar × Int :=
  match hAt A m x with
  | none => (A, 151)
  | some h => if i < 0 ∨ (h.n : Int) ≤ i ∨ (m : Int) * 256 ≤ h.a + 1 + i then (A, 151) else (A.set (h.a + 1 + i.toNat) v, 0)
def HDone (hb b wb lb : Nat) (w : World) (A' : Ar) (v : Value) (e : Ending) (w' : World) : Prop := e = .returned v ∧ HeAt w' hb b wb lb A' ∧ Fr [b, wb, lb] w w'
theorem oset_c (w : World) (hH : HeAt w hb b wb lb A) (ok : A.Ok m) (wd : A.Wd) (x i v : Int) (h0 : 0 ≤ x) (h1 : x < 18446744073709551616) (bi : -9223372036854775808 ≤ i ∧ i ≤ 9223372036854775807) :
    Calls Try.prog 19 #[.pointer (some ⟨hb, 0, none⟩), .int .u64 x, .int .i64 i, .int .u64 v] w (HDone hb b wb lb w (setF A m x i v).1 (.int .i64 (setF A m x i v).2)) := by
  have CA := Lib.hid (at_c w hH ok wd x h0 h1)
  have HH := Lib.hid hH
  have OK := Lib.hid ok
  have m1 := ok.m1
  have m2 := ok.m2
  cases ho : hAt A m x with
  | none =>
    rw [ho] at CA
    have HG : Hid (setF A m x i v = (A, 151)) := Lib.hid (by unfold setF; rw [ho])
    clear hH ok ho
    rw [HG.out]
    go_enter Try.func19, Try.ntmps19
    go_wp2_with fail
    refine CA.out.mono ?_
    rintro e w1 ⟨rfl, hF⟩
    simp only [hdVal]
    go_wp2
    go_ret
    exact ⟨rfl, HH.out.keep (hF.alloc _), (hF.alloc _).mono (by simp)⟩
  | some h =>
    rw [ho] at CA
    obtain ⟨p1, p2, p3, p4, _, _, _⟩ := hAt_bd wd h0 ho
    by_cases hlo : i < 0
    · have HG : Hid (setF A m x i v = (A, 151)) := Lib.hid (by unfold setF; rw [ho]; simp only []; rw [if_pos (.inl hlo)])
      clear hH ok ho
      rw [HG.out]
      go_enter Try.func19, Try.ntmps19
      go_wp2_with fail
      refine CA.out.mono ?_
      rintro e w1 ⟨rfl, hF⟩
      simp only [hdVal]
      go_wp2
      go_ret
      exact ⟨rfl, HH.out.keep (hF.alloc _), (hF.alloc _).mono (by simp)⟩
    by_cases hhi : (h.n : Int) ≤ i
    · have HG : Hid (setF A m x i v = (A, 151)) := Lib.hid (by unfold setF; rw [ho]; simp only []; rw [if_pos (.inr (.inl hhi))])
      clear hH ok ho
      rw [HG.out]
      go_enter Try.func19, Try.ntmps19
      go_wp2_with fail
      refine CA.out.mono ?_
      rintro e w1 ⟨rfl, hF⟩
      simp only [hdVal]
      go_wp2
      go_ret
      exact ⟨rfl, HH.out.keep (hF.alloc _), (hF.alloc _).mono (by simp)⟩
    by_cases hout : (m : Int) * 256 ≤ h.a + 1 + i
    · have HG : Hid (setF A m x i v = (A, 151)) := Lib.hid (by unfold setF; rw [ho]; simp only []; rw [if_pos (.inr (.inr hout))])
      have c0 := hH.cell
      clear hH ok ho
      rw [HG.out]
      go_enter Try.func19, Try.ntmps19
      go_wp2_with fail
      refine CA.out.mono ?_
      rintro e w1 ⟨rfl, hF⟩
      simp only [hdVal]
      have H1 := Lib.hid (HH.out.keep hF)
      have c1 := H1.out.cell
      have q1 := lt_size H1.out.p
      clear c0
      go_wp2_with fail
      refine (set_no _ ((H1.out.keep ((Fr.refl [] _).alloc _)).ar) OK.out _ v (.inr hout)).mono ?_
      rintro e w' ⟨rfl, rfl⟩
      go_wp2
      go_ret
      exact ⟨rfl, HH.out.keep (hF.alloc _), (hF.alloc _).mono (by simp)⟩
    · have HG : Hid (setF A m x i v = (A.set (h.a + 1 + i.toNat) v, 0)) := Lib.hid (by unfold setF; rw [ho]; simp only []; rw [if_neg (by omega)])
      have c0 := hH.cell
      have hidx : Hid ((h.a : Int) + 1 + i = ((h.a + 1 + i.toNat : Nat) : Int)) := Lib.hid (by omega)
      have hin : h.a + 1 + i.toNat < m * 256 := by omega
      clear hH ok ho
      rw [HG.out]
      go_enter Try.func19, Try.ntmps19
      go_wp2_with fail
      refine CA.out.mono ?_
      rintro e w1 ⟨rfl, hF⟩
      simp only [hdVal]
      have H1 := Lib.hid (HH.out.keep hF)
      have c1 := H1.out.cell
      have q1 := lt_size H1.out.p
      clear c0
      go_wp2_with fail
      rw [hidx.out]
      refine (set_yes _ ((H1.out.keep ((Fr.refl [] _).alloc _)).ar) OK.out _ v hin).mono ?_
      rintro e w2 ⟨rfl, hA2, hF2⟩
      have D : Hid (HDone hb b wb lb w (A.set (h.a + 1 + i.toNat) v) (.int .i64 0) (.returned (.int .i64 0)) w2) := Lib.hid ⟨rfl, (H1.out.keep ((Fr.refl [] _).alloc _)).arena hF2 (by simpa using H1.out.n2) hA2, ((hF.alloc _).mono (by simp)).trans hF2 (by simp)⟩
      clear hA2 hF2
      go_wp2
      go_ret
      exact D.out
theorem okind_c (w : World) (hH : HeAt w hb b wb lb A) (ok : A.Ok m) (wd : A.Wd) (x : Int) (h0 : 0 ≤ x) (h1 : x < 18446744073709551616) :
    Calls Try.prog 29 #[.pointer (some ⟨hb, 0, none⟩), .int .u64 x] w fun e w' => e = .returned (.int .i64 (((hAt A m x).map fun h => (h.kind : Int)).getD (-1))) ∧ Fr [] w w' := by
  have CA := Lib.hid (at_c w hH ok wd x h0 h1)
  clear hH ok
  cases ho : hAt A m x with
  | none =>
    rw [ho] at CA
    clear ho
    go_enter Try.func29, Try.ntmps29
    go_wp2_with fail
    refine CA.out.mono ?_
    rintro e w1 ⟨rfl, hF⟩
    simp only [hdVal]
    go_wp2
    go_ret
    exact ⟨rfl, hF.alloc _⟩
  | some h =>
    rw [ho] at CA
    clear ho
    go_enter Try.func29, Try.ntmps29
    go_wp2_with fail
    refine CA.out.mono ?_
    rintro e w1 ⟨rfl, hF⟩
    simp only [hdVal]
    go_wp2
    go_ret
    exact ⟨rfl, hF.alloc _⟩
theorem osize_c (w : World) (hH : HeAt w hb b wb lb A) (ok : A.Ok m) (wd : A.Wd) (x : Int) (h0 : 0 ≤ x) (h1 : x < 18446744073709551616) :
    Calls Try.prog 30 #[.pointer (some ⟨hb, 0, none⟩), .int .u64 x] w fun e w' => e = .returned (.int .i64 (((hAt A m x).map fun h => (h.n : Int)).getD (-1))) ∧ Fr [] w w' := by
  have CA := Lib.hid (at_c w hH ok wd x h0 h1)
  clear hH ok
  cases ho : hAt A m x with
  | none =>
    rw [ho] at CA
    clear ho
    go_enter Try.func30, Try.ntmps30
    go_wp2_with fail
    refine CA.out.mono ?_
    rintro e w1 ⟨rfl, hF⟩
    simp only [hdVal]
    go_wp2
    go_ret
    exact ⟨rfl, hF.alloc _⟩
  | some h =>
    rw [ho] at CA
    clear ho
    go_enter Try.func30, Try.ntmps30
    go_wp2_with fail
    refine CA.out.mono ?_
    rintro e w1 ⟨rfl, hF⟩
    simp only [hdVal]
    go_wp2
    go_ret
    exact ⟨rfl, hF.alloc _⟩
theorem opinned_c (w : World) (hH : HeAt w hb b wb lb A) (ok : A.Ok m) (wd : A.Wd) (x : Int) (h0 : 0 ≤ x) (h1 : x < 18446744073709551616) :
    Calls Try.prog 31 #[.pointer (some ⟨hb, 0, none⟩), .int .u64 x] w fun e w' => e = .returned (.bool (((hAt A m x).map fun h => decide (0 < h.pins)).getD false)) ∧ Fr [] w w' := by
  have CA := Lib.hid (at_c w hH ok wd x h0 h1)
  clear hH ok
  cases ho : hAt A m x with
  | none =>
    rw [ho] at CA
    clear ho
    go_enter Try.func31, Try.ntmps31
    go_wp2_with fail
    refine CA.out.mono ?_
    rintro e w1 ⟨rfl, hF⟩
    simp only [hdVal]
    go_wp2
    go_ret
    exact ⟨rfl, hF.alloc _⟩
  | some h =>
    rw [ho] at CA
    clear ho
    go_enter Try.func31, Try.ntmps31
    go_wp2_with fail
    refine CA.out.mono ?_
    rintro e w1 ⟨rfl, hF⟩
    simp only [hdVal]
    go_wp2
    go_ret
    exact ⟨ret_bool (by simp), hF.alloc _⟩
end Go.Proofs.Ytjgndfhfiekomaa
