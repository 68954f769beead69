/- The heap: the chapter's example. -/
import Derived.Test.YtjgndfhfiekomaaHeapF
set_option linter.all false
namespace Go.Proofs.Ytjgndfhfiekomaa
open Go.ChangeShapes Go.WideShapes Go.RowKit
variable {w : World} {hb b wb lb : Nat} {A : Ar} {m : Nat}
theorem wd_of (h : (A.words.all fun x => decide (0 ≤ x) && decide (x < 18446744073709551616)) = true) : A.Wd := by
  intro x hx
  have := List.all_eq_true.1 h x hx
  simpa using this
theorem makeF_ok (ok : A.Ok m) (kind n : Int) : (makeF A m kind n).1.Ok m := by
  unfold makeF
  split
  · exact ok
  · split
    · exact ok.alloc _
    · exact fillW_ok ((ok.alloc _).set _ _) _ _ _
theorem setF_ok (ok : A.Ok m) (x i v : Int) : (setF A m x i v).1.Ok m := by
  unfold setF
  split
  · exact ok
  · split
    · exact ok
    · exact ok.set _ _
theorem pinsF_ok (ok : A.Ok m) (x d : Int) : (pinsF A m x d).1.Ok m := by
  unfold pinsF
  split
  · exact ok
  · split
    · exact ok
    · exact ok.set _ _
theorem moveF_ok (ok : A.Ok m) (x : Int) : (moveF A m x).1.Ok m := by
  unfold moveF
  split
  · exact ok
  · split
    · exact ok
    · split
      · exact ok.fresh _
      · exact (copyW_ok (ok.fresh _) _ _ _).set _ _
def hx1 : Ar := (makeF (Ar.new 2) 2 0 2).1
def hx2 : Ar := (setF hx1 2 1 0 7).1
def hx3 : Ar := (moveF hx2 2 1).1
theorem heAlive_c (w : World) : Calls Try.prog 11 #[] w fun e w' => e = .returned (.bool true) ∧ Fr [] w w' := by
  have e1 : Hid ((makeF (Ar.new 2) 2 0 2).2 = some 1) := Lib.hid (by decide +kernel)
  have e2 : Hid (getF hx1 2 1 1 = (45, 0)) := Lib.hid (by decide +kernel)
  have e3 : Hid ((((hAt hx1 2 1).map fun h => (h.kind : Int)).getD (-1)) = 0) := Lib.hid (by decide +kernel)
  have e4 : Hid ((((hAt hx1 2 1).map fun h => (h.n : Int)).getD (-1)) = 2) := Lib.hid (by decide +kernel)
  have e5 : Hid ((setF hx1 2 1 0 7).2 = 0) := Lib.hid (by decide +kernel)
  have e6 : Hid ((moveF hx2 2 1).2 = some 2049) := Lib.hid (by decide +kernel)
  have e7 : Hid (getF hx3 2 2049 0 = (7, 0)) := Lib.hid (by decide +kernel)
  have e8 : Hid (movedF hx3 2 1 = some 2049) := Lib.hid (by decide +kernel)
  have e9 : Hid ((((hAt hx3 2 1).map fun h => (h.kind : Int)).getD (-1)) = -1) := Lib.hid (by decide +kernel)
  have e10 : Hid ((((hAt hx3 2 2049).map fun h => (h.kind : Int)).getD (-1)) = 0) := Lib.hid (by decide +kernel)
  have o0 : Hid ((Ar.new 2).Ok 2) := Lib.hid (Ar.new_ok 2 (by omega) (by omega))
  have o1 : Hid (hx1.Ok 2) := Lib.hid (makeF_ok o0.out _ _)
  have o2 : Hid (hx2.Ok 2) := Lib.hid (setF_ok o1.out _ _ _)
  have o3 : Hid (hx3.Ok 2) := Lib.hid (moveF_ok o2.out _)
  have d1 : Hid hx1.Wd := Lib.hid (wd_of (by decide +kernel))
  have d2 : Hid hx2.Wd := Lib.hid (wd_of (by decide +kernel))
  have d3 : Hid hx3.Wd := Lib.hid (wd_of (by decide +kernel))
  have m5 : Hid (mkW 5 5 = 45) := Lib.hid single5
  go_enter Try.func11, Try.ntmps11
  go_wp2_with fail
  refine (onew_c _ _).mono ?_
  rintro e w0 ⟨hb, b, wb, lb, rfl, H0, F0, q0, q1, q2, q3⟩
  have H0 : Hid (HeAt w0 hb b wb lb (Ar.new 2)) := Lib.hid H0
  go_wp2_with fail
  refine (omake_c _ H0.out o0.out 0 2).mono ?_
  rintro e w1 ⟨rfl, H1, F1⟩
  rw [e1.out]; simp only [wordVal]
  have H1 : Hid (HeAt w1 hb b wb lb hx1) := Lib.hid H1
  go_wp2_with fail
  refine (oget_c _ H1.out o1.out d1.out 1 1 (by omega) (by omega) (by omega)).mono ?_
  rintro e w2 ⟨rfl, F2⟩
  rw [e2.out]
  have H2 : Hid (HeAt w2 hb b wb lb hx1) := Lib.hid (H1.out.keep F2)
  go_wp2_with fail
  refine (wmade_r _ _ _ (by omega) (by omega)).mono ?_
  rintro e w' ⟨rfl, rfl⟩
  rw [m5.out]
  go_wp2_with fail
  refine (okind_c _ H2.out o1.out d1.out 1 (by omega) (by omega)).mono ?_
  rintro e w3 ⟨rfl, F3⟩
  rw [e3.out]
  have H3 : Hid (HeAt w3 hb b wb lb hx1) := Lib.hid (H2.out.keep F3)
  go_wp2_with fail
  refine (osize_c _ H3.out o1.out d1.out 1 (by omega) (by omega)).mono ?_
  rintro e w4 ⟨rfl, F4⟩
  rw [e4.out]
  have H4 : Hid (HeAt w4 hb b wb lb hx1) := Lib.hid (H3.out.keep F4)
  go_wp2_with fail
  refine (oset_c _ H4.out o1.out d1.out 1 0 7 (by omega) (by omega) (by omega)).mono ?_
  rintro e w5 ⟨rfl, H5, F5⟩
  rw [e5.out]
  have H5 : Hid (HeAt w5 hb b wb lb hx2) := Lib.hid H5
  go_wp2_with fail
  refine (omove_c _ H5.out o2.out d2.out 1 (by omega) (by omega)).mono ?_
  rintro e w6 ⟨rfl, H6, F6⟩
  rw [e6.out]; simp only [wordVal]
  have H6 : Hid (HeAt w6 hb b wb lb hx3) := Lib.hid H6
  go_wp2_with fail
  refine (oget_c _ H6.out o3.out d3.out 2049 0 (by omega) (by omega) (by omega)).mono ?_
  rintro e w7 ⟨rfl, F7⟩
  rw [e7.out]
  have H7 : Hid (HeAt w7 hb b wb lb hx3) := Lib.hid (H6.out.keep F7)
  go_wp2_with fail
  refine (omoved_c _ H7.out o3.out d3.out 1 (by omega) (by omega)).mono ?_
  rintro e w8 ⟨rfl, F8⟩
  rw [e8.out]; simp only [wordVal]
  have H8 : Hid (HeAt w8 hb b wb lb hx3) := Lib.hid (H7.out.keep F8)
  go_wp2_with fail
  refine (okind_c _ H8.out o3.out d3.out 1 (by omega) (by omega)).mono ?_
  rintro e w9 ⟨rfl, F9⟩
  rw [e9.out]
  have H9 : Hid (HeAt w9 hb b wb lb hx3) := Lib.hid (H8.out.keep F9)
  go_wp2_with fail
  refine (okind_c _ H9.out o3.out d3.out 2049 (by omega) (by omega)).mono ?_
  rintro e w10 ⟨rfl, F10⟩
  rw [e10.out]
  go_wp2
  go_ret
  refine ⟨rfl, ?_⟩
  have hs : ∀ x, x ∈ [b, wb, lb] → x ∈ ([] : List Nat) ∨ w.heap.size ≤ x := by simp; omega
  have z : ∀ {a c : World}, Fr [] a c → Fr [b, wb, lb] a c := fun h => h.mono (by simp)
  exact F0.trans ((((((((((F1.same (z F2)).same (z F3)).same (z F4)).same F5).same F6).same (z F7)).same (z F8)).same (z F9)).same (z F10))) hs
end Go.Proofs.Ytjgndfhfiekomaa
