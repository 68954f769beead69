/- The heap: Make, Move, Moved. -/
import Derived.Test.YtjgndfhfiekomaaHeapC
set_option linter.all false
namespace Go.Proofs.Ytjgndfhfiekomaa
open Go.ChangeShapes Go.WideShapes Go.RowKit
variable {w : World} {hb b wb lb : Nat} {A : Ar} {m : Nat}
def SetAny (b wb lb : Nat) (w : World) (A' : Ar) (e : Ending) (w' : World) : Prop := ∃ r, e = .returned (.int .i64 r) ∧ ArAt w' b wb lb A' ∧ Fr [wb] w w'
theorem set_any (w : World) (hA : ArAt w b wb lb A) (ok : A.Ok m) (I : Int) (i : Nat) (hI : I = i) (v : Int) :
    Calls Try.prog 68 #[.pointer (some ⟨b, 0, none⟩), .int .i64 I, .int .u64 v] w (SetAny b wb lb w (A.set i v)) := by
  subst hI
  by_cases h : i < m * 256
  · exact (set_yes w hA ok i v h).mono fun e w' ⟨h1, h2, h3⟩ => ⟨0, h1, h2, h3⟩
  · refine (set_no w hA ok (i : Int) v (.inr (by omega))).mono ?_
    rintro e w' ⟨rfl, rfl⟩
    refine ⟨141, rfl, ?_, Fr.refl _ _⟩
    have : A.set i v = A := by
      unfold Ar.set
      rw [List.set_eq_of_length_le (by rw [ok.wl]; omega)]
    rw [this]; exact hA
theorem alloc_le (ok : A.Ok m) (n : Int) {k : Nat} (h : (A.alloc m n).2 = some k) : k ≤ 1048576 := by
  have m2 := ok.m2
  have s1 := ok.s1
  have s2 := ok.s2
  have g1 := ok.g1
  have g2 := ok.g2
  have ll := ok.ll
  unfold Ar.alloc at h
  split at h
  · simp at h
  · split at h
    · unfold Ar.greatA at h
      split at h
      · simp at h; omega
      · split at h
        · rename_i q hq
          have := (blockBelow_lt _ _ _ hq).1
          simp at h; omega
        · split at h
          · simp at h
          · rename_i f t hf
            obtain ⟨p1, p2, p3, p4, p5⟩ := find_spec _ _ _ (by omega) _ _ hf
            simp at h; omega
    · unfold Ar.smallA at h
      split at h
      · simp at h; omega
      · split at h
        · simp at h
        · rename_i f t hf
          obtain ⟨p1, p2, p3, p4, p5⟩ := find_spec _ _ _ (by omega) _ _ hf
          simp at h; omega
/-- So many words from a place on are one word. -/
def fillW (A : Ar) (p : Nat) (v : Int) : Nat → Ar
  | 0 => A
  | k + 1 => (fillW A p v k).set (p + k) v
theorem fillW_ok (ok : A.Ok m) (p : Nat) (v : Int) (k : Nat) : (fillW A p v k).Ok m := by
  induction k with
  | zero => exact ok
  | succ k ih => exact ih.set _ _
/-- The word of a field that was never set. -/
def emptyW (kind : Int) : Int := if 16 ≤ kind ∧ kind < 32 then 0 else 45
def makeF (A : Ar) (m : Nat) (kind n : Int) : Ar × Option Int :=
  if kind < 0 ∨ 32 ≤ kind ∨ n < 0 ∨ 240 < n then (A, none) else
  match (A.alloc m (n + 1)).2 with
  | none => ((A.alloc m (n + 1)).1, none)
  | some k => (fillW (((A.alloc m (n + 1)).1).set k (hdW kind 0 n)) (k + 1) (emptyW kind) n.toNat, some (mkW 1 k))
def wordVal : Option Int → Value
  | some x => .tuple #[.int .u64 x, .bool true]
  | none => .tuple #[.int .u64 0, .bool false]
theorem omake_bad (w : World) (ptr : Value) (kind n : Int) (h : kind < 0 ∨ 32 ≤ kind ∨ n < 0 ∨ 240 < n) :
    Calls Try.prog 15 #[ptr, .int .i64 kind, .int .i64 n] w fun e w' => e = .returned (wordVal none) ∧ w = w' := by
  simp only [wordVal]
  by_cases h1 : kind < 0
  · clear h
    go_enter Try.func15, Try.ntmps15
    go_wp2
    go_ret2
    exact ⟨rfl, rfl⟩
  by_cases h2 : 32 ≤ kind
  · clear h
    go_enter Try.func15, Try.ntmps15
    go_wp2
    go_ret2
    exact ⟨rfl, rfl⟩
  by_cases h3 : n < 0
  · clear h
    go_enter Try.func15, Try.ntmps15
    go_wp2
    go_ret2
    exact ⟨rfl, rfl⟩
  · have h4 : 240 < n := by omega
    clear h
    go_enter Try.func15, Try.ntmps15
    go_wp2
    go_ret2
    exact ⟨rfl, rfl⟩
theorem omake_none (w : World) (hH : HeAt w hb b wb lb A) (ok : A.Ok m) (kind n : Int) (k0 : 0 ≤ kind) (k1 : kind < 32) (n0 : 0 ≤ n) (n1 : n ≤ 240) (ha : (A.alloc m (n + 1)).2 = none) :
    Calls Try.prog 15 #[.pointer (some ⟨hb, 0, none⟩), .int .i64 kind, .int .i64 n] w (HDone hb b wb lb w (A.alloc m (n + 1)).1 (wordVal none)) := by
  have c0 := hH.cell
  have CA := Lib.hid (alloc_c w hH.ar ok (n + 1))
  have HH := Lib.hid hH
  have HA := Lib.hid ha
  clear hH ok ha
  simp only [wordVal]
  go_enter Try.func15, Try.ntmps15
  go_wp2_with fail
  refine CA.out.mono ?_
  rintro e w1 ⟨rfl, hA1, hF1⟩
  rw [HA.out]
  simp only [optVal]
  have D : Hid (HDone hb b wb lb w (A.alloc m (n + 1)).1 (.tuple #[.int .u64 0, .bool false]) (.returned (.tuple #[.int .u64 0, .bool false])) w1) := Lib.hid ⟨rfl, HH.out.arena hF1 (by have := HH.out.n1; have := HH.out.n3; simp; omega) hA1, hF1.mono (by simp)⟩
  clear hA1 hF1 c0
  go_wp2
  go_ret2
  exact D.out
theorem single5 : mkW 5 5 = 45 := by decide
set_option maxHeartbeats 1600000 in
theorem omake_some (w : World) (hH : HeAt w hb b wb lb A) (ok : A.Ok m) (kind n : Int) (k0 : 0 ≤ kind) (k1 : kind < 32) (n0 : 0 ≤ n) (n1 : n ≤ 240) (k : Nat) (ha : (A.alloc m (n + 1)).2 = some k) :
    Calls Try.prog 15 #[.pointer (some ⟨hb, 0, none⟩), .int .i64 kind, .int .i64 n] w (HDone hb b wb lb w (fillW (((A.alloc m (n + 1)).1).set k (hdW kind 0 n)) (k + 1) (emptyW kind) n.toNat) (wordVal (some (mkW 1 k)))) := by
  have c0 := hH.cell
  have CA := Lib.hid (alloc_c w hH.ar ok (n + 1))
  have HH := Lib.hid hH
  have HA := Lib.hid ha
  have kle := alloc_le ok _ ha
  have OK1 := Lib.hid (ok.alloc (n + 1))
  obtain ⟨N, rfl⟩ := Int.eq_ofNat_of_zero_le n0
  simp only [Int.toNat_natCast]
  clear hH ok ha
  simp only [wordVal]
  go_enter Try.func15, Try.ntmps15
  go_wp2_with fail
  refine CA.out.mono ?_
  rintro e w1 ⟨rfl, hA1, hF1⟩
  rw [HA.out]
  simp only [optVal]
  have H1 : Hid (HeAt w1 hb b wb lb (A.alloc m ((N : Int) + 1)).1) := Lib.hid (HH.out.arena hF1 (by have := HH.out.n1; have := HH.out.n3; simp; omega) hA1)
  have F1 : Hid (Fr [b, wb, lb] w w1) := Lib.hid (hF1.mono (by simp))
  obtain ⟨A1, hA1e⟩ : ∃ A1, A1 = (A.alloc m ((N : Int) + 1)).1 := ⟨_, rfl⟩
  have HE := Lib.hid hA1e
  rw [← hA1e] at H1 OK1
  clear hA1e
  clear hA1 hF1 c0 CA HA
  have c1 := H1.out.cell
  have HW : Hid (∀ w2, Fr [] w1.drew w2 → HeAt w2 hb b wb lb A1 ∧ Fr [b, wb, lb] w w2) := Lib.hid (fun w2 h2 => ⟨(H1.out.keep (Fr.refl [] _).drew).keep h2, (F1.out.trans ((Fr.refl [] _).drew.same h2) (by simp))⟩)
  go_wp2_with fail
  go_region_with (first | (go_at_call 69; refine (word_c _ _ _ _ (by omega) (by omega) (by omega) (by omega) (by omega) (by omega)).mono ?_; rintro e w2 ⟨rfl, hF2⟩; have H2 := Lib.hid (HW.out w2 hF2).1; have F2 := Lib.hid (HW.out w2 hF2).2; have c2 := H2.out.cell; clear hF2) | (go_at_call 68; refine (set_any _ H2.out.ar OK1.out _ k rfl _).mono ?_; rintro e w3 ⟨r, rfl, hA3, hF3⟩; have H3 : Hid (HeAt w3 hb b wb lb (A1.set k (hdW kind 0 N))) := Lib.hid (H2.out.arena hF3 (by simpa using H2.out.n2) hA3); have F3 : Hid (Fr [b, wb, lb] w w3) := Lib.hid (F2.out.trans hF3 (by simp)); clear hA3 hF3))
  all_goals
    have c3 := H3.out.cell
    have OK2 : Hid ((A1.set k (hdW kind 0 N)).Ok m) := Lib.hid (OK1.out.set _ _)
    have HE2 : Hid (∀ w4, HeAt w4 hb b wb lb (fillW (A1.set k (hdW kind 0 N)) (k + 1) (emptyW kind) N) → Fr [b, wb, lb] w w4 → HDone hb b wb lb w (fillW ((A.alloc m ((N : Int) + 1)).1.set k (hdW kind 0 N)) (k + 1) (emptyW kind) N) (.tuple #[.int .u64 (mkW 1 k), .bool true]) (.returned (.tuple #[.int .u64 (mkW 1 k), .bool true])) w4) := Lib.hid (fun w4 h4 f4 => ⟨rfl, by rw [← HE.out]; exact h4, f4⟩)
    generalize A1.set k (hdW kind 0 N) = A2 at H3 OK2 HE2
    clear H2 F2 c2 H1 F1 HE OK1 HW
    by_cases hraw : 16 ≤ kind
    · have hem : emptyW kind = 0 := by unfold emptyW; rw [if_pos ⟨hraw, k1⟩]
      have HEM := Lib.hid hem
      clear hem
      go_wp2_with (first | (go_at_call 70; refine (single_c _ _).mono ?_; rintro e w' ⟨rfl, rfl⟩) | (go_at_call 71; refine (raw_c _ _).mono ?_; rintro e w' ⟨rfl, rfl⟩))
      go_loopw [52] (fun x wr => ∃ i : Nat, i ≤ N ∧ x = .int .i64 i ∧ Hid (HeAt wr hb b wb lb (fillW A2 (k + 1) 0 i)) ∧ Fr [b, wb, lb] w wr) (fun x _ => N - (intOf x).toNat)
      case atStart => exact ⟨0, by omega, rfl, H3, F3.out⟩
      case round =>
        obtain ⟨i, hi, rfl, hH, hF⟩ := hrel
        by_cases hlt : i < N
        · have c4 := hH.out.cell
          have OK3 := Lib.hid (fillW_ok OK2.out (k + 1) 0 i)
          clear c3
          go_wp2_with fail
          refine (set_any _ hH.out.ar OK3.out _ (k + 1 + i) (by omega) _).mono ?_
          rintro e w4 ⟨r, rfl, hA4, hF4⟩
          have H4 : Hid (HeAt w4 hb b wb lb (fillW A2 (k + 1) 0 (i + 1))) := Lib.hid (hH.out.arena hF4 (by simpa using hH.out.n2) hA4)
          have F4 : Fr [b, wb, lb] w w4 := hF.trans hF4 (by simp)
          clear hA4 hF4
          go_wp2
          go_roundw
          case rel => exact ⟨i + 1, by omega, by go_num, H4, F4⟩
          case measure => simp [intOf]; omega
        · have hiN : i = N := by omega
          subst hiN
          have D := Lib.hid (HE2.out wr (by rw [HEM.out]; exact hH.out) hF)
          clear c3
          go_wp2_with (go_at_call 72; refine (place_c _ _).mono ?_; rintro e w' ⟨rfl, rfl⟩)
          go_ret2
          exact D.out
    · have hem : emptyW kind = 45 := by unfold emptyW; rw [if_neg (by omega)]
      have HEM := Lib.hid hem
      clear hem
      go_wp2_with (first | (go_at_call 70; refine (single_c _ _).mono ?_; rintro e w' ⟨rfl, rfl⟩; rw [single5]) | (go_at_call 71; refine (raw_c _ _).mono ?_; rintro e w' ⟨rfl, rfl⟩))
      go_loopw [52] (fun x wr => ∃ i : Nat, i ≤ N ∧ x = .int .i64 i ∧ Hid (HeAt wr hb b wb lb (fillW A2 (k + 1) 45 i)) ∧ Fr [b, wb, lb] w wr) (fun x _ => N - (intOf x).toNat)
      case atStart => exact ⟨0, by omega, rfl, H3, F3.out⟩
      case round =>
        obtain ⟨i, hi, rfl, hH, hF⟩ := hrel
        by_cases hlt : i < N
        · have c4 := hH.out.cell
          have OK3 := Lib.hid (fillW_ok OK2.out (k + 1) 45 i)
          clear c3
          go_wp2_with fail
          refine (set_any _ hH.out.ar OK3.out _ (k + 1 + i) (by omega) _).mono ?_
          rintro e w4 ⟨r, rfl, hA4, hF4⟩
          have H4 : Hid (HeAt w4 hb b wb lb (fillW A2 (k + 1) 45 (i + 1))) := Lib.hid (hH.out.arena hF4 (by simpa using hH.out.n2) hA4)
          have F4 : Fr [b, wb, lb] w w4 := hF.trans hF4 (by simp)
          clear hA4 hF4
          go_wp2
          go_roundw
          case rel => exact ⟨i + 1, by omega, by go_num, H4, F4⟩
          case measure => simp [intOf]; omega
        · have hiN : i = N := by omega
          subst hiN
          have D := Lib.hid (HE2.out wr (by rw [HEM.out]; exact hH.out) hF)
          clear c3
          go_wp2_with (go_at_call 72; refine (place_c _ _).mono ?_; rintro e w' ⟨rfl, rfl⟩)
          go_ret2
          exact D.out
theorem omake_c (w : World) (hH : HeAt w hb b wb lb A) (ok : A.Ok m) (kind n : Int) :
    Calls Try.prog 15 #[.pointer (some ⟨hb, 0, none⟩), .int .i64 kind, .int .i64 n] w (HDone hb b wb lb w (makeF A m kind n).1 (wordVal (makeF A m kind n).2)) := by
  unfold makeF
  by_cases h : kind < 0 ∨ 32 ≤ kind ∨ n < 0 ∨ 240 < n
  · rw [if_pos h]
    refine (omake_bad w _ kind n h).mono ?_
    rintro e w' ⟨rfl, rfl⟩
    exact ⟨rfl, hH, Fr.refl _ _⟩
  · rw [if_neg h]
    cases ha : (A.alloc m (n + 1)).2 with
    | none => exact omake_none w hH ok kind n (by omega) (by omega) (by omega) (by omega) ha
    | some k => exact omake_some w hH ok kind n (by omega) (by omega) (by omega) (by omega) k ha
end Go.Proofs.Ytjgndfhfiekomaa
