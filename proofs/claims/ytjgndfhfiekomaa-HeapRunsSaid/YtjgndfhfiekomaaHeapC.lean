/- The heap: heads as words, pins, New, Moved. -/
import Derived.Test.YtjgndfhfiekomaaHeapB
set_option linter.all false
namespace Go.Proofs.Ytjgndfhfiekomaa
open Go.ChangeShapes Go.WideShapes Go.RowKit
variable {w : World} {hb b wb lb : Nat} {A : Ar} {m : Nat}
theorem word_c (w : World) (k p n : Int) (k0 : 0 ≤ k) (k1 : k < 32) (p0 : 0 ≤ p) (p1 : p < 8) (n0 : 0 ≤ n) (n1 : n < 9007199254740992) :
    Calls Try.prog 69 #[.agg #[.int .i64 k, .int .i64 p, .int .i64 n]] w fun e w' => e = .returned (.int .u64 (hdW k p n)) ∧ Fr [] w w' := by
  have e1 : bits BinOp.or IntKind.i64 (n * 256) (p * 32) = n * 256 + p * 32 := bits_join .i64 63 (by decide) wraps_i64 8 _ _ (by omega) (by omega) (by omega) (by omega) (by omega) (by omega)
  have e2 : bits BinOp.or IntKind.i64 (n * 256 + p * 32) k = n * 256 + p * 32 + k := bits_join .i64 63 (by decide) wraps_i64 5 _ _ (by omega) (by omega) (by omega) (by omega) (by omega) (by omega)
  have e3 : bits BinOp.or IntKind.u64 ((n * 256 + p * 32 + k) * 8) 6 = (n * 256 + p * 32 + k) * 8 + 6 := bits_join .u64 64 (by decide) wraps_u64 3 _ _ (by omega) (by omega) (by omega) (by omega) (by omega) (by omega)
  go_enter Try.func69, Try.ntmps69
  go_wp2
  go_ret
  exact ⟨ret_int rfl, (Fr.refl _ _).alloc _⟩
theorem raw_c (w : World) (k : Int) : Calls Try.prog 71 #[.int .i64 k] w fun e w' => e = .returned (.bool (decide (16 ≤ k ∧ k < 32))) ∧ w = w' := by
  by_cases h : 16 ≤ k
  · by_cases h2 : k < 32
    · rw [decide_eq_true ⟨h, h2⟩]
      go_enter Try.func71, Try.ntmps71
      go_wp2
      go_ret
      exact ⟨ret_bool (by simp), rfl⟩
    · rw [decide_eq_false (by omega)]
      go_enter Try.func71, Try.ntmps71
      go_wp2
      go_ret
      exact ⟨ret_bool (by simp), rfl⟩
  · rw [decide_eq_false (by omega)]
    go_enter Try.func71, Try.ntmps71
    go_wp2
    go_ret
    exact ⟨ret_bool (by simp), rfl⟩
theorem oarena_c (w : World) (hH : HeAt w hb b wb lb A) : Calls Try.prog 33 #[.pointer (some ⟨hb, 0, none⟩)] w fun e w' => e = .returned (.pointer (some ⟨b, 0, none⟩)) ∧ w = w' := by
  have c0 := hH.cell
  clear hH
  go_enter Try.func33, Try.ntmps33
  go_wp2
  go_ret
  exact ⟨rfl, rfl⟩
def NewHe (m : Nat) (w : World) (e : Ending) (w' : World) : Prop :=
  ∃ hb b wb lb, e = .returned (.pointer (some ⟨hb, 0, none⟩)) ∧ HeAt w' hb b wb lb (Ar.new m) ∧ Fr [] w w' ∧ w.heap.size ≤ hb ∧ w.heap.size ≤ b ∧ w.heap.size ≤ wb ∧ w.heap.size ≤ lb
theorem onew_c (n : Int) (w : World) : Calls Try.prog 12 #[.int .i64 n] w (NewHe (blocksOf n) w) := by
  go_enter Try.func12, Try.ntmps12
  go_wp2_with fail
  refine (new_c _ _).mono ?_
  rintro e w1 ⟨b, wb, lb, rfl, A0, F0, h1, h2, h3⟩
  have q1 := lt_size A0.hb
  have q2 := lt_size A0.hw
  have q3 := lt_size A0.hl
  have s1 := F0.size
  have D : Hid (NewHe (blocksOf n) w (.returned (.pointer (some ⟨w1.heap.size, 0, none⟩))) (w1.alloc (.cells #[.pointer (some ⟨b, 0, none⟩)] 111))) := Lib.hid
    ⟨w1.heap.size, b, wb, lb, rfl, ⟨by rw [blk_alloc, if_pos rfl], A0.fr ((Fr.refl [] _).alloc _) (by simp) (by simp) (by simp), by omega, by omega, by omega⟩, F0.alloc _, by omega, h1, h2, h3⟩
  clear A0 F0 h1 h2 h3 q1 q2 q3 s1
  go_wp2
  go_ret
  exact D.out
/-- It is pinned so much more often, if it can be. -/
def pinsF (A : Ar) (m : Nat) (x by_ : Int) : Ar × Bool :=
  match hAt A m x with
  | none => (A, false)
  | some h => if (h.pins : Int) + by_ < 0 ∨ 7 < (h.pins : Int) + by_ then (A, false) else (A.set h.a (hdW h.kind ((h.pins : Int) + by_) h.n), true)
set_option maxHeartbeats 1600000 in
theorem opins_c (w : World) (hH : HeAt w hb b wb lb A) (ok : A.Ok m) (wd : A.Wd) (x d : Int) (h0 : 0 ≤ x) (h1 : x < 18446744073709551616) (d0 : -1 ≤ d) (d1 : d ≤ 1) :
    Calls Try.prog 78 #[.pointer (some ⟨hb, 0, none⟩), .int .u64 x, .int .i64 d] w (HDone hb b wb lb w (pinsF A m x d).1 (.bool (pinsF A m x d).2)) := by
  have CA := Lib.hid (at_c w hH ok wd x h0 h1)
  have HH := Lib.hid hH
  have OK := Lib.hid ok
  cases ho : hAt A m x with
  | none =>
    rw [ho] at CA
    have HG : Hid (pinsF A m x d = (A, false)) := Lib.hid (by unfold pinsF; rw [ho])
    clear hH ok ho
    rw [HG.out]
    go_enter Try.func78, Try.ntmps78
    go_wp2_with fail
    refine CA.out.mono ?_
    rintro e w1 ⟨rfl, hF⟩
    simp only [hdVal]
    go_wp2
    go_ret
    exact ⟨rfl, HH.out.keep (hF.alloc _), (hF.alloc _).mono (by simp)⟩
  | some h =>
    rw [ho] at CA
    obtain ⟨p1, p2, p3, p4, _, _, _⟩ := hAt_bd wd h0 ho
    by_cases hlo : (h.pins : Int) + d < 0
    · have HG : Hid (pinsF A m x d = (A, false)) := Lib.hid (by unfold pinsF; rw [ho]; simp only []; rw [if_pos (.inl hlo)])
      clear hH ok ho
      rw [HG.out]
      go_enter Try.func78, Try.ntmps78
      go_wp2_with fail
      refine CA.out.mono ?_
      rintro e w1 ⟨rfl, hF⟩
      simp only [hdVal]
      go_wp2
      go_ret
      exact ⟨rfl, HH.out.keep (hF.alloc _), (hF.alloc _).mono (by simp)⟩
    by_cases hhi : 7 < (h.pins : Int) + d
    · have HG : Hid (pinsF A m x d = (A, false)) := Lib.hid (by unfold pinsF; rw [ho]; simp only []; rw [if_pos (.inr hhi)])
      clear hH ok ho
      rw [HG.out]
      go_enter Try.func78, Try.ntmps78
      go_wp2_with fail
      refine CA.out.mono ?_
      rintro e w1 ⟨rfl, hF⟩
      simp only [hdVal]
      go_wp2
      go_ret
      exact ⟨rfl, HH.out.keep (hF.alloc _), (hF.alloc _).mono (by simp)⟩
    · have HG : Hid (pinsF A m x d = (A.set h.a (hdW h.kind ((h.pins : Int) + d) h.n), true)) := Lib.hid (by unfold pinsF; rw [ho]; simp only []; rw [if_neg (by omega)])
      have c0 := hH.cell
      have m1 := ok.m1
      have m2 := ok.m2
      clear hH ok ho
      rw [HG.out]
      go_enter Try.func78, Try.ntmps78
      go_wp2_with fail
      refine CA.out.mono ?_
      rintro e w1 ⟨rfl, hF⟩
      simp only [hdVal]
      have H1 := Lib.hid (HH.out.keep hF)
      have c1 := H1.out.cell
      have q1 := lt_size H1.out.p
      clear c0
      go_wp2
      have HW : Hid (∀ w2, Fr [] (w1.alloc (.cells #[.int .i64 h.kind, .int .i64 ((h.pins : Int) + d), .int .i64 h.n] 117)).drew w2 → HeAt w2 hb b wb lb A ∧ Fr [] w w2) := Lib.hid (fun w2 h2 => ⟨((H1.out.keep ((Fr.refl [] _).alloc _)).keep (Fr.refl [] _).drew).keep h2, (hF.alloc _).drew.same h2⟩)
      go_region_with (first | (go_at_call 69; refine (word_c _ _ _ _ (by omega) (by omega) (by omega) (by omega) (by omega) (by omega)).mono ?_; rintro e w2 ⟨rfl, hF2⟩; have H2 := Lib.hid (HW.out w2 hF2).1; have F2 := Lib.hid (HW.out w2 hF2).2; have c2 := H2.out.cell; clear hF2) | (go_at_call 68; refine (set_yes _ H2.out.ar OK.out h.a _ p1).mono ?_; rintro e w3 ⟨rfl, hA3, hF3⟩; have D : Hid (HDone hb b wb lb w (A.set h.a (hdW h.kind ((h.pins : Int) + d) h.n)) (.bool true) (.returned (.bool true)) w3) := Lib.hid ⟨rfl, H2.out.arena hF3 (by simpa using H2.out.n2) hA3, (F2.out.mono (by simp)).trans hF3 (by simp)⟩; clear hA3 hF3))
      all_goals
        go_wp2
        go_ret
        exact D.out
theorem opin_c (w : World) (hH : HeAt w hb b wb lb A) (ok : A.Ok m) (wd : A.Wd) (x : Int) (h0 : 0 ≤ x) (h1 : x < 18446744073709551616) :
    Calls Try.prog 21 #[.pointer (some ⟨hb, 0, none⟩), .int .u64 x] w (HDone hb b wb lb w (pinsF A m x 1).1 (.bool (pinsF A m x 1).2)) := by
  have CA := Lib.hid (opins_c w hH ok wd x 1 h0 h1 (by omega) (by omega))
  clear hH ok
  generalize pinsF A m x 1 = r at CA
  go_enter Try.func21, Try.ntmps21
  go_wp2_with fail
  refine CA.out.mono ?_
  rintro e w1 ⟨rfl, hH2, hF⟩
  have D : Hid (HDone hb b wb lb w r.1 (.bool r.2) (.returned (.bool r.2)) w1) := Lib.hid ⟨rfl, hH2, hF⟩
  clear hH2 hF
  go_wp2
  go_ret
  exact D.out
theorem ounpin_c (w : World) (hH : HeAt w hb b wb lb A) (ok : A.Ok m) (wd : A.Wd) (x : Int) (h0 : 0 ≤ x) (h1 : x < 18446744073709551616) :
    Calls Try.prog 23 #[.pointer (some ⟨hb, 0, none⟩), .int .u64 x] w (HDone hb b wb lb w (pinsF A m x (-1)).1 (.bool (pinsF A m x (-1)).2)) := by
  have CA := Lib.hid (opins_c w hH ok wd x (-1) h0 h1 (by omega) (by omega))
  clear hH ok
  generalize pinsF A m x (-1) = r at CA
  go_enter Try.func23, Try.ntmps23
  go_wp2_with fail
  refine CA.out.mono ?_
  rintro e w1 ⟨rfl, hH2, hF⟩
  have D : Hid (HDone hb b wb lb w r.1 (.bool r.2) (.returned (.bool r.2)) w1) := Lib.hid ⟨rfl, hH2, hF⟩
  clear hH2 hF
  go_wp2
  go_ret
  exact D.out
end Go.Proofs.Ytjgndfhfiekomaa
