/- Limbs: the chapter's example. -/
import Derived.Test.YtjdanblijcdllaaGreatDoorLimbW
import Derived.Test.YtjdanblijcdllaaGreatDoorLimbD
import Derived.Test.YtjdanblijcdllaaGreatDoorLimbE
import Derived.Test.YtjdanblijcdllaaGreatDoorLimbO
import Derived.Test.YtjdanblijcdllaaGreatDoorLimbS
set_option linter.all false
namespace Go.Proofs.YtjdanblijcdllaaGreatDoor
open Go.ChangeShapes Go.WideShapes Go.RowKit Go.Shelf
variable {w w' w2 wr : World} {a b : Option Addr} {cap cap2 : Nat} {L M : List Nat} {B : Nat}
theorem in_new (W : World) (L : List Nat) (hl : Lim L) (hs : L.length ≤ 100000) : In (W.alloc (.cells (lc L).toArray 108)) (some ⟨W.heap.size, 0, none⟩) L.length L :=
  (Nw.new (B := 0) W L L.length _ (Nat.zero_le _) hl hs (Nat.le_refl _) (by unfold maxLen; omega) (by simp [len_lc]) (by rw [List.take_of_length_le (by simp [len_lc])])).in
theorem lim_of (L : List Nat) (h : L.all (fun z => decide (z < 4294967296)) = true) : Lim L := by
  intro z hz
  rw [List.all_eq_true] at h
  simpa using h z hz
theorem top_of (L : List Nat) (h : L.getLast?.getD 1 ≠ 0) : Top L := by
  intro i hi
  have e : L.getLast? = L[i]? := by rw [List.getLast?_eq_getElem?, hi]; simp
  rw [e, List.getElem?_eq_getElem (by omega)] at h
  rw [List.getElem?_eq_getElem (by omega)]
  simpa using h
theorem lims_of (n : Nat) (L : List Nat) (hv : val L = n) (h : L.all (fun z => decide (z < 4294967296)) = true) (ht : L.getLast?.getD 1 ≠ 0) : lims n = L := by
  rw [← hv]; exact lims_val (lim_of L h) (top_of L ht)
theorem alive_mul (W : World) : Calls Tryz.prog 155 #[.slice (some ⟨W.heap.size, 0, none⟩) 1 1, .slice (some ⟨W.heap.size + 1, 0, none⟩) 1 1] ((W.alloc (.cells #[.int .u32 4294967295] 108)).alloc (.cells #[.int .u32 4294967295] 108)) fun e w' => ∃ a cap, e = .returned (.tuple #[.slice a 2 cap, .int .i64 0]) ∧ In w' a cap [1, 4294967294] ∧ Fr [] W w' := by
  have h1 := in_new W [4294967295] (lim_of _ rfl) (by decide)
  have h2 := in_new (W.alloc (.cells #[.int .u32 4294967295] 108)) [4294967295] (lim_of _ rfl) (by decide)
  rw [size_alloc] at h2
  refine (lmul_c _ (h1.keep ((Fr.refl [] _).alloc _)) h2).mono ?_
  have e1 : (fits (val [4294967295]) && fits (val [4294967295]) && fits (val [4294967295] * val [4294967295])) = true := by decide +kernel
  have e2 : lims (val [4294967295] * val [4294967295]) = [1, 4294967294] := lims_of _ _ (by decide) rfl (by decide)
  rw [e1]
  rintro e w' ⟨a, cap, rfl, hN, hF⟩
  rw [e2] at hN ⊢
  exact ⟨a, cap, rfl, hN.in, (((Fr.refl [] W).alloc _).alloc _).same hF⟩
theorem alive_div (W : World) : Calls Tryz.prog 95 #[.slice (some ⟨W.heap.size, 0, none⟩) 2 2, .slice (some ⟨W.heap.size + 1, 0, none⟩) 1 1] ((W.alloc (.cells #[.int .u32 1, .int .u32 1] 108)).alloc (.cells #[.int .u32 7] 108)) fun e w' => ∃ a cap a2 cap2, e = .returned (.tuple #[.slice a 1 cap, .slice a2 1 cap2, .int .i64 0]) ∧ In w' a cap [613566756] ∧ In w' a2 cap2 [5] ∧ Fr [] W w' := by
  have h1 := in_new W [1, 1] (lim_of _ rfl) (by decide)
  have h2 := in_new (W.alloc (.cells #[.int .u32 1, .int .u32 1] 108)) [7] (lim_of _ rfl) (by decide)
  rw [size_alloc] at h2
  refine (ldiv_c _ (h1.keep ((Fr.refl [] _).alloc _)) h2).mono ?_
  have e1 : (fits (val [1, 1]) && fits (val [7])) = true := by decide +kernel
  have e2 : lims (val [1, 1] / val [7]) = [613566756] := lims_of _ _ (by decide) rfl (by decide)
  have e3 : lims (val [1, 1] % val [7]) = [5] := lims_of _ _ (by decide) rfl (by decide)
  intro e w' h
  unfold DivR at h
  rw [e1, if_neg (by decide), if_neg (by decide)] at h
  obtain ⟨a, cap, a2, cap2, rfl, hN, hM, hF⟩ := h
  rw [e2] at hN ⊢
  rw [e3] at hM ⊢
  exact ⟨a, cap, a2, cap2, rfl, hN.in, hM.in, (((Fr.refl [] W).alloc _).alloc _).same hF⟩
theorem alive_same (W : World) (L : List Nat) (hl : Lim L) (hs : L.length ≤ 100) (h : In W a cap L) : Calls Tryz.prog 83 #[.slice a L.length cap, .slice (some ⟨W.heap.size, 0, none⟩) L.length L.length] (W.alloc (.cells (lc L).toArray 108)) fun e w' => e = .returned (.bool true) ∧ Fr [] W w' := by
  refine (r1same_c _ (h.keep ((Fr.refl [] _).alloc _)) (in_new W L hl (by omega))).mono ?_
  rintro e w' ⟨rfl, hF⟩
  exact ⟨by simp, ((Fr.refl [] W).alloc _).same hF⟩
theorem dec_lit : Lib.decDigits 4294967296 = [52, 50, 57, 52, 57, 54, 55, 50, 57, 54] := by
  repeat (first | rw [dec_small (by decide)] | rw [dec_big (by decide)])
  rfl
theorem alive_text (W : World) (hT : Tab W) : Calls Tryz.prog 152 #[.slice (some ⟨W.heap.size, 0, none⟩) 2 2] (W.alloc (.cells #[.int .u32 0, .int .u32 1] 108)) fun e w' => e = .returned (.string ⟨#[52, 50, 57, 52, 57, 54, 55, 50, 57, 54]⟩) ∧ Fr [] W w' := by
  refine (ltext_c _ (in_new W [0, 1] (lim_of _ rfl) (by decide)) (hT.fr ((Fr.refl [] _).alloc _))).mono ?_
  rintro e w' ⟨rfl, hF⟩
  have e1 : textOf (val [0, 1]) = [52, 50, 57, 52, 57, 54, 55, 50, 57, 54] := by
    unfold textOf
    rw [if_pos (by decide +kernel)]
    exact dec_lit
  rw [e1]
  exact ⟨rfl, ((Fr.refl [] W).alloc _).same hF⟩
end Go.Proofs.YtjdanblijcdllaaGreatDoor
