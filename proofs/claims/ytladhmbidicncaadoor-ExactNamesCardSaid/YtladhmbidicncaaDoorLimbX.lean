/- Limbs: the chapter's example. -/
import Derived.Test.YtladhmbidicncaaDoorLimbW
import Derived.Test.YtladhmbidicncaaDoorLimbD
import Derived.Test.YtladhmbidicncaaDoorLimbE
import Derived.Test.YtladhmbidicncaaDoorLimbO
import Derived.Test.YtladhmbidicncaaDoorLimbS
namespace Go.Proofs.YtladhmbidicncaaDoor
open Go.ChangeShapes Go.WideShapes Go.RowKit Go.Shelf
variable {w w' w2 wr : World} {a b : Option Addr} {cap cap2 : Nat} {L M : List Nat} {B : Nat}
theorem in_new (W : World) (L : List Nat) (hl : Lim L) (hs : L.length ≤ 100000) : In (W.alloc (.cells (lc L).toArray 38)) (some ⟨W.heap.size, 0, none⟩) L.length L :=
  (Nw.new (B := 0) W L L.length _ (Nat.zero_le _) hl hs (Nat.le_refl _) (by unfold maxLen; omega) (by simp [len_lc]) (by rw [List.take_of_length_le (by simp [len_lc])])).in
theorem lim_of (L : List Nat) (h : L.all (fun z => decide (z < 4294967296)) = true) : Lim L := by
  intro z hz
  rw [List.all_eq_true] at h
  simpa using h z hz
theorem top_of (L : List Nat) (h : L.getLast?.getD 1 ≠ 0) : Top L := by
  intro i hi
  have e : L.getLast? = L[i]? := by rw [List.getLast?_eq_getElem?, hi]; simp
  rw [e, List.getElem?_eq_getElem (by omega)] at h
  rw [List.getElem?_eq_getElem (by omega)]
  simpa using h
theorem lims_of (n : Nat) (L : List Nat) (hv : val L = n) (h : L.all (fun z => decide (z < 4294967296)) = true) (ht : L.getLast?.getD 1 ≠ 0) : lims n = L := by
  rw [← hv]; exact lims_val (lim_of L h) (top_of L ht)
theorem alive_mul (W : World) : Calls Tryd.prog 22 #[.slice (some ⟨W.heap.size, 0, none⟩) 1 1, .slice (some ⟨W.heap.size + 1, 0, none⟩) 1 1] ((W.alloc (.cells #[.int .u32 4294967295] 38)).alloc (.cells #[.int .u32 4294967295] 38)) fun e w' => ∃ a cap, e = .returned (.tuple #[.slice a 2 cap, .int .i64 0]) ∧ In w' a cap [1, 4294967294] ∧ Fr [] W w' := by
  have h1 := in_new W [4294967295] (lim_of _ rfl) (by decide)
  have h2 := in_new (W.alloc (.cells #[.int .u32 4294967295] 38)) [4294967295] (lim_of _ rfl) (by decide)
  rw [size_alloc] at h2
  refine (lmul_c _ (h1.keep ((Fr.refl [] _).alloc _)) h2).mono ?_
  have e1 : (fits (val [4294967295]) && fits (val [4294967295]) && fits (val [4294967295] * val [4294967295])) = true := by decide +kernel
  have e2 : lims (val [4294967295] * val [4294967295]) = [1, 4294967294] := lims_of _ _ (by decide) rfl (by decide)
  rw [e1]
  rintro e w' ⟨a, cap, rfl, hN, hF⟩
  rw [e2] at hN ⊢
  exact ⟨a, cap, rfl, hN.in, (((Fr.refl [] W).alloc _).alloc _).same hF⟩
theorem alive_div (W : World) : Calls Tryd.prog 26 #[.slice (some ⟨W.heap.size, 0, none⟩) 2 2, .slice (some ⟨W.heap.size + 1, 0, none⟩) 1 1] ((W.alloc (.cells #[.int .u32 1, .int .u32 1] 38)).alloc (.cells #[.int .u32 7] 38)) fun e w' => ∃ a cap a2 cap2, e = .returned (.tuple #[.slice a 1 cap, .slice a2 1 cap2, .int .i64 0]) ∧ In w' a cap [613566756] ∧ In w' a2 cap2 [5] ∧ Fr [] W w' := by
  have h1 := in_new W [1, 1] (lim_of _ rfl) (by decide)
  have h2 := in_new (W.alloc (.cells #[.int .u32 1, .int .u32 1] 38)) [7] (lim_of _ rfl) (by decide)
  rw [size_alloc] at h2
  refine (ldiv_c _ (h1.keep ((Fr.refl [] _).alloc _)) h2).mono ?_
  have e1 : (fits (val [1, 1]) && fits (val [7])) = true := by decide +kernel
  have e2 : lims (val [1, 1] / val [7]) = [613566756] := lims_of _ _ (by decide) rfl (by decide)
  have e3 : lims (val [1, 1] % val [7]) = [5] := lims_of _ _ (by decide) rfl (by decide)
  intro e w' h
  unfold DivR at h
  rw [e1, if_neg (by decide), if_neg (by decide)] at h
  obtain ⟨a, cap, a2, cap2, rfl, hN, hM, hF⟩ := h
  rw [e2] at hN ⊢
  rw [e3] at hM ⊢
  exact ⟨a, cap, a2, cap2, rfl, hN.in, hM.in, (((Fr.refl [] W).alloc _).alloc _).same hF⟩
theorem alive_same (W : World) (L : List Nat) (hl : Lim L) (hs : L.length ≤ 100) (h : In W a cap L) : Calls Tryd.prog 25 #[.slice a L.length cap, .slice (some ⟨W.heap.size, 0, none⟩) L.length L.length] (W.alloc (.cells (lc L).toArray 38)) fun e w' => e = .returned (.bool true) ∧ Fr [] W w' := by
  refine (r1same_c _ (h.keep ((Fr.refl [] _).alloc _)) (in_new W L hl (by omega))).mono ?_
  rintro e w' ⟨rfl, hF⟩
  exact ⟨by simp, ((Fr.refl [] W).alloc _).same hF⟩
theorem dec_lit : Lib.decDigits 4294967296 = [52, 50, 57, 52, 57, 54, 55, 50, 57, 54] := by
  repeat (first | rw [dec_small (by decide)] | rw [dec_big (by decide)])
  rfl
theorem alive_text (W : World) (hT : Tab W) : Calls Tryd.prog 37 #[.slice (some ⟨W.heap.size, 0, none⟩) 2 2] (W.alloc (.cells #[.int .u32 0, .int .u32 1] 38)) fun e w' => e = .returned (.string ⟨#[52, 50, 57, 52, 57, 54, 55, 50, 57, 54]⟩) ∧ Fr [] W w' := by
  refine (ltext_c _ (in_new W [0, 1] (lim_of _ rfl) (by decide)) (hT.fr ((Fr.refl [] _).alloc _))).mono ?_
  rintro e w' ⟨rfl, hF⟩
  have e1 : textOf (val [0, 1]) = [52, 50, 57, 52, 57, 54, 55, 50, 57, 54] := by
    unfold textOf
    rw [if_pos (by decide +kernel)]
    exact dec_lit
  rw [e1]
  exact ⟨rfl, ((Fr.refl [] W).alloc _).same hF⟩
set_option maxRecDepth 100000 in
set_option maxHeartbeats 2000000 in
theorem limbAlive_c (w : World) (hT : Tab w) : Calls Tryd.prog 21 #[] w fun e w' => e = .returned (.bool true) ∧ Fr [] w w' := by
  have HT := Lib.hid hT
  clear hT
  go_enter Tryd.func21, Tryd.ntmps21
  go_wp2_with fail
  refine (alive_mul w).mono ?_
  rintro e w1 ⟨a1, c1, rfl, I1, F1⟩
  have I1 := Lib.hid I1
  have F1 := Lib.hid F1
  go_wp2_with fail
  refine (alive_div w1).mono ?_
  rintro e w2 ⟨a2, c2, a3, c3, rfl, I2, I3, F2⟩
  have I1 := Lib.hid (I1.out.keep F2)
  have I2 := Lib.hid I2
  have I3 := Lib.hid I3
  have F2 := Lib.hid (F1.out.same F2)
  clear F1
  go_wp2_with fail
  refine (alive_same w2 _ (lim_of _ rfl) (by decide) I1.out).mono ?_
  rintro e w3 ⟨rfl, F3⟩
  have I2 := Lib.hid (I2.out.keep F3)
  have I3 := Lib.hid (I3.out.keep F3)
  have F3 := Lib.hid (F2.out.same F3)
  clear F2 I1
  go_wp2_with fail
  refine (alive_same w3 _ (lim_of _ rfl) (by decide) I2.out).mono ?_
  rintro e w4 ⟨rfl, F4⟩
  have I3 := Lib.hid (I3.out.keep F4)
  have F4 := Lib.hid (F3.out.same F4)
  clear F3 I2
  go_wp2_with fail
  refine (alive_same w4 _ (lim_of _ rfl) (by decide) I3.out).mono ?_
  rintro e w5 ⟨rfl, F5⟩
  have F5 := Lib.hid (F4.out.same F5)
  have T5 := Lib.hid (HT.out.fr F5.out)
  clear F4 I3
  go_wp2_with fail
  refine (alive_text w5 T5.out).mono ?_
  rintro e w6 ⟨rfl, F6⟩
  have F6 := Lib.hid (F5.out.same F6)
  clear F5
  go_wp2
  go_ret
  exact ⟨rfl, F6.out⟩
end Go.Proofs.YtladhmbidicncaaDoor
