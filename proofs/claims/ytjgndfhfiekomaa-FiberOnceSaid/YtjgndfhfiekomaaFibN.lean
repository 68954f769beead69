/- Fibers: a space made, a stack made. -/
import Derived.Test.YtjgndfhfiekomaaFibS
namespace Go.Proofs.Ytjgndfhfiekomaa
open Go.ChangeShapes Go.WideShapes Go.RowKit
variable {w0 w w1 w' : World} {c : Sk} {A A' : Ar} {top : Int} {last : Value}
/-- All of a space's blocks are new. -/
structure Ge (B : Nat) (c : Sk) : Prop where
  sb : B ≤ c.sb
  hb : B ≤ c.hb
  b : B ≤ c.b
  wb : B ≤ c.wb
  lb : B ≤ c.lb
def NewSp (m : Nat) (w : World) (e : Ending) (w' : World) : Prop := ∃ c : Sk, e = .returned (.pointer (some ⟨c.sb, 0, none⟩)) ∧ c.m = m ∧ Sp w' w' c (Ar.new m) ∧ Fr [] w w' ∧ Ge w.heap.size c
theorem new_wd (m : Nat) : (Ar.new m).Wd := by
  intro x hx
  simp only [Ar.new, zeros] at hx
  have := (List.mem_replicate.1 hx).2
  omega
theorem vnew_c (n : Int) (m : Nat) (hm : blocksOf n = m) (h1 : 1 ≤ m) (h2 : m ≤ 4096) (w : World) : Calls Try.prog 45 #[.int .i64 n] w (NewSp m w) := by
  have CN := Lib.hid (onew_c n w)
  rw [hm] at CN
  have hmm := @run_makeMap Try.prog
  clear hm
  go_enter Try.func45, Try.ntmps45
  go_wp2_with fail
  refine CN.out.mono ?_
  rintro e w1 ⟨hb, b, wb, lb, rfl, hH, F1, g0, g1, g2, g3⟩
  have HH := Lib.hid hH
  have F1 := Lib.hid F1
  clear CN hH
  have l1 := lt_size HH.out.p
  have l2 := lt_size HH.out.ar.hb
  have l3 := lt_size HH.out.ar.hw
  have l4 := lt_size HH.out.ar.hl
  have s1 := F1.out.size
  have D : Hid (NewSp m w (.returned (.pointer (some ⟨w1.heap.size + 1, 0, none⟩))) ((w1.alloc (.map #[] 0)).alloc (.cells #[.pointer (some ⟨hb, 0, none⟩), .slice none 0 0, .map (some w1.heap.size)] 150))) := Lib.hid (by
    have n1 := HH.out.n1
    have n2 := HH.out.n2
    have n3 := HH.out.n3
    have n4 := HH.out.ar.n1
    have n5 := HH.out.ar.n2
    have n6 := HH.out.ar.n3
    refine ⟨⟨0, w1.heap.size + 1, 0, hb, b, wb, lb, m, false, .slice none 0 0, .map (some w1.heap.size)⟩, rfl, rfl, ⟨⟨?_, HH.out.keep (((Fr.refl [] _).alloc _).alloc _), Ar.new_ok m h1 h2, new_wd m, ?_⟩, Fr.refl _ _⟩, (F1.out.alloc _).alloc _, ⟨?_, g0, g1, g2, g3⟩⟩
    · rw [blk_alloc, if_pos (by simp)]
    · simp only [List.nodup_cons, List.mem_cons, List.not_mem_nil, or_false, not_or, List.nodup_nil, and_true, not_false_eq_true]
      omega
    · show w.heap.size ≤ w1.heap.size + 1
      omega)
  clear l1 l2 l3 l4 s1 g0 g1 g2 g3 F1 HH
  go_wp2
  go_ret
  exact D.out
/-- A stack's blocks are new. -/
structure Gs (B : Nat) (c : Sk) : Prop where
  g : Ge B c
  kb : B ≤ c.kb
  rb : B ≤ c.rb
theorem Gs.own {B : Nat} (h : Gs B c) : ∀ x, x ∈ c.own → B ≤ x := by
  intro x hx
  unfold Sk.own at hx
  simp only [List.mem_cons, List.not_mem_nil, or_false] at hx
  rcases hx with rfl | rfl | rfl | rfl | rfl
  · exact h.kb
  · exact h.rb
  · exact h.g.b
  · exact h.g.wb
  · exact h.g.lb
def NewSt (m : Nat) (rem : Bool) (A1 : Ar) (f : Int) (w : World) (B : Nat) (e : Ending) (w' : World) : Prop := ∃ c : Sk, e = .returned (.tuple #[.pointer (some ⟨c.kb, 0, none⟩), .bool true]) ∧ c.m = m ∧ c.rem = rem ∧ St w' w' c A1 f (.pointer none) ∧ Gs B c ∧ (∀ B0, B0.heap.size ≤ B → Fr [] B0 w → Fr [] B0 w')
set_option maxHeartbeats 1000000 in
theorem knew_c (h : Sp w w c A) (rem : Bool) (B : Nat) (hB : B ≤ w.heap.size) (hg : Ge B c) (f : Int) (hf : (fibF A c.m 45 45).2 = some f) (hw : W64 f) : Calls Try.prog 46 #[.pointer (some ⟨c.sb, 0, none⟩), .bool rem] w (NewSt c.m rem (fibF A c.m 45 45).1 f w B) := by
  obtain ⟨c2, hc2⟩ : ∃ c2 : Sk, c2 = ⟨w.heap.size, c.sb, 0, c.hb, c.b, c.wb, c.lb, c.m, rem, c.nv, c.mv⟩ := ⟨_, rfl⟩
  have h2 : Sp (w.alloc (.cells #[.pointer (some ⟨c.sb, 0, none⟩), .slice none 0 0, .bool rem, .pointer none] 153)) (w.alloc (.cells #[.pointer (some ⟨c.sb, 0, none⟩), .slice none 0 0, .bool rem, .pointer none] 153)) c2 A := by
    rw [hc2]
    have := h.alloc (.cells #[.pointer (some ⟨c.sb, 0, none⟩), .slice none 0 0, .bool rem, .pointer none] 153)
    exact ⟨⟨this.a.s, this.a.h, this.a.ok, this.a.wd, this.a.ap⟩, Fr.refl _ _⟩
  have hk2 : KbAt (w.alloc (.cells #[.pointer (some ⟨c.sb, 0, none⟩), .slice none 0 0, .bool rem, .pointer none] 153)) c2 := by
    rw [hc2]; unfold KbAt; rw [blk_alloc, if_pos rfl]
  have hlow : c2.low = c.low := by rw [hc2]; rfl
  have hkb : c2.kb = w.heap.size := by rw [hc2]
  have CF := kfiber_p h2 hk2 (by rw [hlow, hkb]; intro hm; have := low_lt h hm; omega)
  have hm2 : c2.m = c.m := by rw [hc2]
  rw [hm2, hf, hkb] at CF
  simp only [wordVal] at CF
  have CF := Lib.hid CF
  have C2 := Lib.hid hc2
  have H := Lib.hid h
  have HG := Lib.hid hg
  have HW := Lib.hid hw
  generalize (fibF A c.m 45 45).1 = A1 at *
  clear hf h2 hk2 hlow hkb hm2 hc2 h hg hw
  go_enter Try.func46, Try.ntmps46
  go_wp2_with (first | (go_at_call 98; refine (nothing_c _).mono ?_; rintro e w' ⟨rfl, rfl⟩))
  refine CF.out.mono ?_
  rintro e w1 ⟨rfl, h1, hk1⟩
  have hk1' : blk w1 w.heap.size = some (.cells #[.pointer (some ⟨c.sb, 0, none⟩), .slice none 0 0, .bool rem, .pointer none] 153 (0, 0)) := by
    have := hk1; unfold KbAt at this; rw [C2.out] at this; exact this
  have c1 : w1.cell? ⟨w.heap.size, 1, none⟩ = some (.slice none 0 0) := cell_of hk1' rfl
  have f1 : w1.frozen? ⟨w.heap.size, 1, none⟩ = false := free_of hk1'
  have lk : w.heap.size < w1.heap.size := lt_size hk1'
  have D : Hid (NewSt c.m rem A1 f w B (.returned (.tuple #[.pointer (some ⟨w.heap.size, 0, none⟩), .bool true])) ((w1.setCell ⟨w.heap.size, 1, none⟩ (.slice (some ⟨w1.heap.size, 0, none⟩) 1 1)).alloc (.cells #[.int .u64 f] 37))) := Lib.hid (by
    have l0 : w.heap.size < w1.heap.size := lt_size hk1'
    have hs := h1.a
    have hc := C2.out
    have q1 := lt_size hs.s
    have q2 := lt_size hs.h.p
    have q3 := lt_size hs.h.ar.hb
    have q4 := lt_size hs.h.ar.hw
    have q5 := lt_size hs.h.ar.hl
    rw [hc] at q1 q2 q3 q4 q5 hs
    simp only at q1 q2 q3 q4 q5
    have p1 := lt_size H.out.a.s
    have p2 := lt_size H.out.a.h.p
    have p3 := lt_size H.out.a.h.ar.hb
    have p4 := lt_size H.out.a.h.ar.hw
    have p5 := lt_size H.out.a.h.ar.hl
    have hF : Fr [w.heap.size] w1 ((w1.setCell ⟨w.heap.size, 1, none⟩ (.slice (some ⟨w1.heap.size, 0, none⟩) 1 1)).alloc (.cells #[.int .u64 f] 37)) := ((Fr.refl _ _).setCell (by simp) _).alloc _
    have key : ∀ x, x ≠ w.heap.size → x ∉ [w.heap.size] := fun x hx hm => by simp at hm; exact hx hm
    have ap := H.out.a.ap
    simp only [List.nodup_cons, List.mem_cons, List.not_mem_nil, or_false, not_or, List.nodup_nil, and_true, not_false_eq_true] at ap
    refine ⟨⟨w.heap.size, c.sb, w1.heap.size, c.hb, c.b, c.wb, c.lb, c.m, rem, c.nv, c.mv⟩, rfl, rfl, rfl, ⟨⟨?_, hF.at hs.s (key _ (by show c.sb ≠ _; omega)), ?_, hs.h.fr hF (key _ (by show c.hb ≠ _; omega)) (key _ (by show c.b ≠ _; omega)) (key _ (by show c.wb ≠ _; omega)) (key _ (by show c.lb ≠ _; omega)), hs.ok, hs.wd, HW.out, ?_⟩, Fr.refl _ _⟩, ⟨⟨HG.out.sb, HG.out.hb, HG.out.b, HG.out.wb, HG.out.lb⟩, hB, ?_⟩, ?_⟩
    · show blk _ w.heap.size = _
      rw [blk_alloc, if_neg (by rw [size_set]; omega), blk_set, if_pos rfl, hk1']; rfl
    · show blk _ w1.heap.size = _
      rw [blk_alloc, if_pos (by rw [size_set])]
    · simp only [List.nodup_cons, List.mem_cons, List.not_mem_nil, or_false, not_or, List.nodup_nil, and_true, not_false_eq_true]
      omega
    · show B ≤ w1.heap.size
      omega
    · intro B0 hb0 hF0
      have g1 : Fr c.low w w1 := by
        have := h1.fr
        rw [hc] at this
        exact (((Fr.refl c.low w).alloc _)).same this
      have g2 : Fr [] B0 w1 := hF0.trans g1 (fun x hx => by
        right
        unfold Sk.low at hx
        simp only [List.mem_cons, List.not_mem_nil, or_false] at hx
        have := HG.out
        rcases hx with rfl | rfl | rfl
        · have := HG.out.b; omega
        · have := HG.out.wb; omega
        · have := HG.out.lb; omega)
      exact g2.trans hF (fun x hx => by
        right
        simp at hx; subst hx
        omega))
  clear hk1' h1 hk1 CF
  go_wp2
  go_ret2
  exact D.out
end Go.Proofs.Ytjgndfhfiekomaa
