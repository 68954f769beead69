/- The document's arena: Alloc as a whole, New. -/
import Derived.Test.YtjgndfhfiekomaaHrG
import Derived.Test.YtjgndfhfiekomaaArenaI
import Derived.Lib.AppendZeros
import Derived.Lib.AppendZerosOnto
set_option linter.all false
namespace Go.Proofs.Ytjgndfhfiekomaa
open Go.ChangeShapes Go.WideShapes Go.RowKit
variable {B0 : Nat} {w w' : World} {tb tc : Nat} {wa ma : Option Addr} {wn wk mn mc : Nat} {L : List (Bool × Bool)} {m : Nat} {A : Ar}
theorem bs_far {l : List Bool} {g n c : Nat} {a : Option Addr} (h : BsAt B0 w tb tc l) (hl : 0 < l.length) (hc : w.cell? ⟨g, 0, none⟩ = some (.slice a n c)) : tb ≠ g := by
  rintro rfl
  have h1 := h.at_ 0 l[0] (List.getElem?_eq_getElem hl)
  rw [hc] at h1
  simp at h1
theorem alloc_lines (ok : A.Ok m) (n : Int) : (A.alloc m n).1.lines.length = m * 16 := (ok.alloc n).ll
set_option maxRecDepth 100000 in
set_option maxHeartbeats 1000000 in
theorem ralloc_c (w : World) (ok : A.Ok m) (hB : BsAt B0 w tb tc (tks A.lines)) (hm : m ≤ 100) (hx : NextOk A) (n : Int) :
    Calls Try.prog 73 #[.agg #[.slice wa wn wk, .slice (some ⟨tb, 0, none⟩) (m * 16) tc, .slice ma mn mc, .int .i64 ((A.sf : Int)), .int .i64 ((A.st : Int)), .int .i64 ((A.gf : Int)), .int .i64 ((A.gt : Int)), .int .i64 ((A.cf : Int)), .int .i64 ((A.ct : Int)), .int .i64 (((A.next : Int) * 16))], .int .i64 n] w (GivesA B0 wa wn wk ma mn mc m w (A.alloc m n)) := by
  by_cases hn : n < 1 ∨ 256 < n
  · have hf : A.alloc m n = (A, none) := by unfold Ar.alloc; rw [if_pos hn]
    rw [hf]
    have HB := Lib.hid hB
    clear hB ok hf hx
    by_cases h1 : n < 1
    · clear hn
      go_enter Try.func73, Try.ntmps73
      go_wp2
      refine bodyPost_ret (ret_st3 rfl _ _ _ _ rfl (show blk ((w.alloc _).alloc _) (w.heap.size + 1) = _ by rw [blk_alloc, if_pos (by rw [size_alloc])]) rfl size_arena14 und_arena14) rfl ?_
      exact ⟨tb, tc, rfl, HB.out.keep (((Fr.refl _ _).alloc _).alloc _), ((Fr.refl _ _).alloc _).alloc _⟩
    · have h2 : 256 < n := by omega
      clear hn
      go_enter Try.func73, Try.ntmps73
      go_wp2
      refine bodyPost_ret (ret_st3 rfl _ _ _ _ rfl (show blk ((w.alloc _).alloc _) (w.heap.size + 1) = _ by rw [blk_alloc, if_pos (by rw [size_alloc])]) rfl size_arena14 und_arena14) rfl ?_
      exact ⟨tb, tc, rfl, HB.out.keep (((Fr.refl _ _).alloc _).alloc _), ((Fr.refl _ _).alloc _).alloc _⟩
  · by_cases h16 : 16 < n
    · have hf : A.alloc m n = A.greatA n.toNat m := by unfold Ar.alloc; rw [if_neg hn, if_pos h16]
      rw [hf]
      obtain ⟨k, hk⟩ : ∃ k : Nat, n = (k : Int) := ⟨n.toNat, by omega⟩
      subst hk
      rw [Int.toNat_natCast]
      have CG := Lib.hid (fun (w1 : World) (hF : Fr [] w w1) => rgreat_c (wa := wa) (wn := wn) (wk := wk) (ma := ma) (mn := mn) (mc := mc) w1 ok (hB.keep hF) hm k (by omega) (by omega))
      have HLL : Hid (1 ≤ (A.greatA k m).1.lines.length) := Lib.hid (by rw [Int.toNat_natCast] at hf; rw [← hf, alloc_lines ok]; have := ok.m1; omega)
      clear hB ok hf hx
      go_enter Try.func73, Try.ntmps73
      go_wp2_with fail
      refine (CG.out _ (((Fr.refl _ _).alloc _).alloc _)).mono ?_
      rintro e w5 ⟨tb', tc', rfl, B5, F5⟩
      have R5 := Lib.hid (F5.at (show blk ((w.alloc _).alloc _) (w.heap.size + 1) = _ by rw [blk_alloc, if_pos (by rw [size_alloc])]) (by simp))
      have HFAR : Hid (tb' ≠ w.heap.size + 1) := Lib.hid (bs_far B5 (by rw [len_tks]; have := HLL.out; omega) (cell_of R5.out (i := 0) rfl))
      have B5 := Lib.hid B5
      have FW := Lib.hid ((((Fr.refl [] w).alloc _).alloc _).same F5)
      clear F5 CG
      have r0 := cell_of R5.out (i := 0) rfl
      have r1 := cell_of R5.out (i := 1) rfl
      have r2 := cell_of R5.out (i := 2) rfl
      have r3 := cell_of R5.out (i := 3) rfl
      have r4 := cell_of R5.out (i := 4) rfl
      have r5 := cell_of R5.out (i := 5) rfl
      have r6 := cell_of R5.out (i := 6) rfl
      have r7 := cell_of R5.out (i := 7) rfl
      have r8 := cell_of R5.out (i := 8) rfl
      have r9 := cell_of R5.out (i := 9) rfl
      have rf0 := free_of R5.out (i := 0)
      have rf1 := free_of R5.out (i := 1)
      have rf2 := free_of R5.out (i := 2)
      have rf3 := free_of R5.out (i := 3)
      have rf4 := free_of R5.out (i := 4)
      have rf5 := free_of R5.out (i := 5)
      have rf6 := free_of R5.out (i := 6)
      have rf7 := free_of R5.out (i := 7)
      have rf8 := free_of R5.out (i := 8)
      have rf9 := free_of R5.out (i := 9)
      go_wp2
      refine bodyPost_ret (ret_st3 rfl _ _ _ _ rfl (blk10 R5.out) rfl size_arena14 und_arena14) rfl ?_
      exact ⟨tb', tc', rfl, B5.out.fr (fr10 (Fr.refl [w.heap.size + 1] w5) (.inl (by simp))) (by simpa using HFAR.out), fr10 FW.out (.inr (by omega))⟩
    · have hf : A.alloc m n = A.smallA n.toNat := by unfold Ar.alloc; rw [if_neg hn, if_neg h16]
      rw [hf]
      have := rsmall_c (wa := wa) (wn := wn) (wk := wk) (ma := ma) (mn := mn) (mc := mc) w ok hB hm hx n.toNat (by omega) (by omega)
      rwa [show ((n.toNat : Nat) : Int) = n by omega] at this
end Go.Proofs.Ytjgndfhfiekomaa
