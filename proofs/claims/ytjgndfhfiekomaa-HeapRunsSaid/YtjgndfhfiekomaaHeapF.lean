/- The heap: Move. -/
import Derived.Test.YtjgndfhfiekomaaHeapE
set_option linter.all false
namespace Go.Proofs.Ytjgndfhfiekomaa
open Go.ChangeShapes Go.WideShapes Go.RowKit
variable {w : World} {hb b wb lb : Nat} {A : Ar} {m : Nat}
def GetAny (w : World) (y : Int) (e : Ending) (w' : World) : Prop := ∃ r, e = .returned (.tuple #[.int .u64 y, .int .i64 r]) ∧ w = w'
theorem get_any (w : World) (hA : ArAt w b wb lb A) (ok : A.Ok m) (I : Int) (i : Nat) (hI : I = i) :
    Calls Try.prog 75 #[.pointer (some ⟨b, 0, none⟩), .int .i64 I] w (GetAny w (A.wd i)) := by
  subst hI
  by_cases h : i < m * 256
  · exact (get_yes w hA ok i h).mono fun e w' ⟨h1, h2⟩ => ⟨0, h1, h2⟩
  · refine (get_no w hA ok (i : Int) (.inr (by omega))).mono fun e w' ⟨h1, h2⟩ => ⟨141, ?_, h2⟩
    rw [h1]
    have : A.wd i = 0 := by unfold Ar.wd; rw [List.getElem?_eq_none (by rw [ok.wl]; omega)]; rfl
    rw [this]
theorem fresh_le (ok : A.Ok m) (n : Int) {k : Nat} (h : (A.fresh m n).2 = some k) : k ≤ 1048576 := by
  have m2 := ok.m2
  have s1 := ok.c1
  have s2 := ok.c2
  unfold Ar.fresh at h
  split at h
  · simp at h
  · unfold Ar.freshA at h
    split at h
    · simp at h; omega
    · split at h
      · rename_i q hq
        have := (blockBelow_lt _ _ _ hq).1
        simp at h; omega
      · simp at h
/-- So many words are copied, one after the other. -/
def copyW (A : Ar) (a k : Nat) : Nat → Ar
  | 0 => A
  | i + 1 => (copyW A a k i).set (k + i) ((copyW A a k i).wd (a + i))
theorem copyW_ok (ok : A.Ok m) (a k i : Nat) : (copyW A a k i).Ok m := by
  induction i with
  | zero => exact ok
  | succ i ih => exact ih.set _ _
def moveF (A : Ar) (m : Nat) (x : Int) : Ar × Option Int :=
  match hAt A m x with
  | none => (A, none)
  | some h => if 0 < h.pins ∨ 240 < h.n then (A, none) else
    match (A.fresh m ((h.n : Int) + 1)).2 with
    | none => ((A.fresh m ((h.n : Int) + 1)).1, none)
    | some k => ((copyW (A.fresh m ((h.n : Int) + 1)).1 h.a k (h.n + 1)).set h.a (mkW 7 k), some (mkW 1 k))
set_option maxHeartbeats 1000000 in
theorem omove_no (w : World) (hH : HeAt w hb b wb lb A) (ok : A.Ok m) (wd : A.Wd) (x : Int) (h0 : 0 ≤ x) (h1 : x < 18446744073709551616) (h : ∀ h, hAt A m x = some h → 0 < h.pins ∨ 240 < h.n) :
    Calls Try.prog 24 #[.pointer (some ⟨hb, 0, none⟩), .int .u64 x] w fun e w' => e = .returned (.tuple #[.int .u64 0, .bool false]) ∧ Fr [] w w' := by
  have CA := Lib.hid (at_c w hH ok wd x h0 h1)
  cases ho : hAt A m x with
  | none =>
    rw [ho] at CA
    clear hH ok ho h
    go_enter Try.func24, Try.ntmps24
    go_wp2_with fail
    refine CA.out.mono ?_
    rintro e w1 ⟨rfl, hF⟩
    simp only [hdVal]
    go_wp2
    go_ret2
    exact ⟨rfl, hF.alloc _⟩
  | some h' =>
    have hh := h h' ho
    rw [ho] at CA
    by_cases hp : 0 < h'.pins
    · clear hH ok ho h hh
      go_enter Try.func24, Try.ntmps24
      go_wp2_with fail
      refine CA.out.mono ?_
      rintro e w1 ⟨rfl, hF⟩
      simp only [hdVal]
      go_wp2
      go_ret2
      exact ⟨rfl, hF.alloc _⟩
    · have hp0 : h'.pins = 0 := by omega
      have hn : 240 < h'.n := by omega
      have HP0 := Lib.hid hp0
      clear hH ok ho h hh hp hp0
      go_enter Try.func24, Try.ntmps24
      go_wp2_with fail
      refine CA.out.mono ?_
      rintro e w1 ⟨rfl, hF⟩
      simp only [hdVal]
      rw [HP0.out]
      go_wp2
      go_ret2
      exact ⟨rfl, hF.alloc _⟩
set_option maxHeartbeats 1000000 in
theorem omove_none (w : World) (hH : HeAt w hb b wb lb A) (ok : A.Ok m) (wd : A.Wd) (x : Int) (h0 : 0 ≤ x) (h1 : x < 18446744073709551616) (h : Hd) (ho : hAt A m x = some h) (hp : h.pins = 0) (hn : h.n ≤ 240) (hf : (A.fresh m ((h.n : Int) + 1)).2 = none) :
    Calls Try.prog 24 #[.pointer (some ⟨hb, 0, none⟩), .int .u64 x] w (HDone hb b wb lb w (A.fresh m ((h.n : Int) + 1)).1 (wordVal none)) := by
  simp only [wordVal]
  have CA := Lib.hid (at_c w hH ok wd x h0 h1)
  rw [ho] at CA
  have HH := Lib.hid hH
  have OK := Lib.hid ok
  have HF := Lib.hid hf
  have HP0 := Lib.hid hp
  clear hH ok ho hf hp
  go_enter Try.func24, Try.ntmps24
  go_wp2_with fail
  refine CA.out.mono ?_
  rintro e w1 ⟨rfl, hF⟩
  simp only [hdVal]
  rw [HP0.out]
  have H1 := Lib.hid (HH.out.keep hF)
  have c1 := H1.out.cell
  have q1 := lt_size H1.out.p
  have H2 := Lib.hid ((H1.out.keep ((Fr.refl [] _).alloc (.cells #[.int .i64 h.kind, .int .i64 0, .int .i64 h.n] 117))).keep (Fr.refl [] _).drew)
  have F2 := Lib.hid (((hF.alloc (.cells #[.int .i64 h.kind, .int .i64 0, .int .i64 h.n] 117))).drew)
  have ew : IntKind.i64.wrap ((h.n : Int) + 1) = (h.n : Int) + 1 := IntWalk.i64_in _ (by omega)
  go_wp2
  go_region_with (go_at_call 79; refine (fresh_c _ H2.out.ar OK.out _).mono ?_; rintro e w2 ⟨rfl, hA2, hF2⟩; rw [HF.out]; simp only [optVal]; have D : Hid (HDone hb b wb lb w (A.fresh m ((h.n : Int) + 1)).1 (.tuple #[.int .u64 0, .bool false]) (.returned (.tuple #[.int .u64 0, .bool false])) w2) := Lib.hid ⟨rfl, H2.out.arena hF2 (by have := HH.out.n1; have := HH.out.n3; simp; omega) hA2, (F2.out.mono (by simp)).trans hF2 (by simp)⟩; clear hA2 hF2)
  all_goals
    go_wp2
    go_ret2
    exact D.out
set_option maxHeartbeats 2000000 in
theorem omove_some (w : World) (hH : HeAt w hb b wb lb A) (ok : A.Ok m) (wd : A.Wd) (x : Int) (h0 : 0 ≤ x) (h1 : x < 18446744073709551616) (h : Hd) (ho : hAt A m x = some h) (hp : h.pins = 0) (hn : h.n ≤ 240) (k : Nat) (hf : (A.fresh m ((h.n : Int) + 1)).2 = some k) :
    Calls Try.prog 24 #[.pointer (some ⟨hb, 0, none⟩), .int .u64 x] w (HDone hb b wb lb w ((copyW (A.fresh m ((h.n : Int) + 1)).1 h.a k (h.n + 1)).set h.a (mkW 7 k)) (wordVal (some (mkW 1 k)))) := by
  simp only [wordVal]
  have CA := Lib.hid (at_c w hH ok wd x h0 h1)
  obtain ⟨p1, _, _, _, _, _, _⟩ := hAt_bd wd h0 ho
  have m2 := ok.m2
  rw [ho] at CA
  have kle := fresh_le ok _ hf
  have HH := Lib.hid hH
  have OK := Lib.hid ok
  have OK1 := Lib.hid (ok.fresh ((h.n : Int) + 1))
  have HF := Lib.hid hf
  have HP0 := Lib.hid hp
  have O7 : Hid (bits BinOp.or IntKind.u64 ((k : Int) * 8) 7 = mkW 7 k) := Lib.hid (by
    rw [bits_join .u64 64 (by decide) wraps_u64 3 _ _ (by omega) (by omega) (by omega) (by omega) (by omega) (by omega)]
    unfold mkW; omega)
  clear hH ok ho hf hp
  go_enter Try.func24, Try.ntmps24
  go_wp2_with fail
  refine CA.out.mono ?_
  rintro e w1 ⟨rfl, hF⟩
  simp only [hdVal]
  rw [HP0.out]
  have H1 := Lib.hid (HH.out.keep hF)
  have c1 := H1.out.cell
  have q1 := lt_size H1.out.p
  have qb := lt_size H1.out.ar.hb
  have ql := lt_size H1.out.ar.hl
  have H2 := Lib.hid ((H1.out.keep ((Fr.refl [] _).alloc (.cells #[.int .i64 h.kind, .int .i64 0, .int .i64 h.n] 117))).keep (Fr.refl [] _).drew)
  have F2 := Lib.hid (((hF.alloc (.cells #[.int .i64 h.kind, .int .i64 0, .int .i64 h.n] 117))).drew)
  have ew : IntKind.i64.wrap ((h.n : Int) + 1) = (h.n : Int) + 1 := IntWalk.i64_in _ (by omega)
  have BX : Hid (blk (w1.alloc (.cells #[.int .i64 h.kind, .int .i64 0, .int .i64 h.n] 117)).drew w1.heap.size = some (.cells #[.int .i64 h.kind, .int .i64 0, .int .i64 h.n] 117 (0, 0))) := Lib.hid (by rw [blk_drew, blk_alloc, if_pos rfl])
  go_wp2
  go_region_with (go_at_call 79; refine (fresh_c _ H2.out.ar OK.out _).mono ?_; rintro e w2 ⟨rfl, hA2, hF2⟩; rw [HF.out]; simp only [optVal]; have H3 : Hid (HeAt w2 hb b wb lb (A.fresh m ((h.n : Int) + 1)).1) := Lib.hid (H2.out.arena hF2 (by have := HH.out.n1; have := HH.out.n3; simp; omega) hA2); have F3 : Hid (Fr [b, wb, lb] w w2) := Lib.hid ((F2.out.mono (by simp)).trans hF2 (by simp)); have B3 : Hid (blk w2 w1.heap.size = some (.cells #[.int .i64 h.kind, .int .i64 0, .int .i64 h.n] 117 (0, 0))) := Lib.hid (hF2.at BX.out (by simp; omega)); have c3 := H3.out.cell; have c4 : w2.cell? ⟨w1.heap.size, 2, none⟩ = some (.int .i64 h.n) := cell_of B3.out (i := 2) rfl; clear hA2 hF2)
  all_goals
    obtain ⟨A1, hA1e⟩ : ∃ A1, A1 = (A.fresh m ((h.n : Int) + 1)).1 := ⟨_, rfl⟩
    rw [← hA1e] at H3 OK1
    have HE2 : Hid (∀ w4, HeAt w4 hb b wb lb ((copyW A1 h.a k (h.n + 1)).set h.a (mkW 7 k)) → Fr [b, wb, lb] w w4 → HDone hb b wb lb w ((copyW (A.fresh m ((h.n : Int) + 1)).1 h.a k (h.n + 1)).set h.a (mkW 7 k)) (.tuple #[.int .u64 (mkW 1 k), .bool true]) (.returned (.tuple #[.int .u64 (mkW 1 k), .bool true])) w4) := Lib.hid (fun w4 h4 f4 => ⟨rfl, by rw [← hA1e]; exact h4, f4⟩)
    clear hA1e HF BX B3 c1 H1 H2 F2 HH OK CA
    go_wp2_with fail
    go_loopw [48] (fun x wr => ∃ i : Nat, i ≤ h.n + 1 ∧ x = .int .i64 i ∧ Hid (HeAt wr hb b wb lb (copyW A1 h.a k i)) ∧ Fr [b, wb, lb] w wr) (fun x _ => h.n + 1 - (intOf x).toNat)
    case atStart => exact ⟨0, by omega, rfl, H3, F3.out⟩
    case round =>
      obtain ⟨i, hi, rfl, hH, hF5⟩ := hrel
      clear c3 c4
      have c5 := hH.out.cell
      have OK3 := Lib.hid (copyW_ok OK1.out h.a k i)
      by_cases hlt : i < h.n + 1
      · go_wp2_with fail
        refine (get_any _ hH.out.ar OK3.out _ (h.a + i) (by omega)).mono ?_
        rintro e w' ⟨r0, rfl, rfl⟩
        go_wp2_with fail
        refine (set_any _ hH.out.ar OK3.out _ (k + i) (by omega) _).mono ?_
        rintro e w4 ⟨r, rfl, hA4, hF4⟩
        have H4 : Hid (HeAt w4 hb b wb lb (copyW A1 h.a k (i + 1))) := Lib.hid (hH.out.arena hF4 (by simpa using hH.out.n2) hA4)
        have F4 : Fr [b, wb, lb] w w4 := hF5.trans hF4 (by simp)
        clear hA4 hF4
        go_wp2
        go_roundw
        case rel => exact ⟨i + 1, by omega, by go_num, H4, F4⟩
        case measure => simp [intOf]; omega
      · have hin : i = h.n + 1 := by omega
        subst hin
        have o7 := O7.out
        go_wp2_with fail
        refine (set_any _ hH.out.ar OK3.out _ h.a rfl _).mono ?_
        rintro e w4 ⟨r, rfl, hA4, hF4⟩
        have D := Lib.hid (HE2.out w4 (hH.out.arena hF4 (by simpa using hH.out.n2) hA4) (hF5.trans hF4 (by simp)))
        clear hA4 hF4
        go_wp2_with (go_at_call 72; refine (place_c _ _).mono ?_; rintro e w' ⟨rfl, rfl⟩)
        go_ret2
        exact D.out
theorem omove_c (w : World) (hH : HeAt w hb b wb lb A) (ok : A.Ok m) (wd : A.Wd) (x : Int) (h0 : 0 ≤ x) (h1 : x < 18446744073709551616) :
    Calls Try.prog 24 #[.pointer (some ⟨hb, 0, none⟩), .int .u64 x] w (HDone hb b wb lb w (moveF A m x).1 (wordVal (moveF A m x).2)) := by
  unfold moveF
  cases ho : hAt A m x with
  | none =>
    refine (omove_no w hH ok wd x h0 h1 (by rw [ho]; simp)).mono ?_
    rintro e w' ⟨rfl, hF⟩
    exact ⟨rfl, hH.keep hF, hF.mono (by simp)⟩
  | some h =>
    simp only []
    by_cases hc : 0 < h.pins ∨ 240 < h.n
    · rw [if_pos hc]
      refine (omove_no w hH ok wd x h0 h1 (by rw [ho]; intro h' he; simp at he; subst he; exact hc)).mono ?_
      rintro e w' ⟨rfl, hF⟩
      exact ⟨rfl, hH.keep hF, hF.mono (by simp)⟩
    · rw [if_neg hc]
      cases hf : (A.fresh m ((h.n : Int) + 1)).2 with
      | none => exact omove_none w hH ok wd x h0 h1 h ho (by omega) (by omega) hf
      | some k => exact omove_some w hH ok wd x h0 h1 h ho (by omega) (by omega) k hf
end Go.Proofs.Ytjgndfhfiekomaa
