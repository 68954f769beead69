/- Fibers: the chapter's example, walked. -/
import Derived.Test.YtjgndfhfiekomaaFibU
namespace Go.Proofs.Ytjgndfhfiekomaa
open Go.ChangeShapes Go.WideShapes Go.RowKit
variable {w0 w w1 w' : World} {c : Sk} {A A' : Ar} {top : Int} {last : Value}
theorem fd_at (h : St w0 w c A top last) (ws : List Int) (t : TypeId) (w2 : World) (g : Nat) (hg : w.heap.size ≤ g) (h2 : blk w2 g = some (.cells (ws.map (Value.int .u64)).toArray t (0, 0))) : FdAt w2 c (some ⟨g, 0, none⟩) ws :=
  .inr ⟨g, 0, rfl, lt_size h2, fun hx => by have := sk_lt h hx; omega, fun i hi => by
    rw [Nat.zero_add]
    exact cell_of h2 (by simp [hi])⟩
theorem w64_small {x : Int} (h : 0 ≤ x ∧ x ≤ 1000000) : W64 x := by unfold W64; omega
theorem one_w64 (x : Int) (h : 0 ≤ x ∧ x ≤ 1000000) : ∀ y, y ∈ [x] → W64 y := by
  intro y hy
  simp at hy; subst hy; exact w64_small h
open fiberAlive in
set_option maxRecDepth 100000 in
set_option maxHeartbeats 4000000 in
theorem fiberAlive_c (w : World) : Calls Try.prog 43 #[] w fun e w' => e = .returned (.bool true) ∧ Fr [] w w' := by
  have CV := Lib.hid (vnew_c 20 20 (by decide) (by omega) (by omega) w)
  have CN : Hid (∀ (w1 : World) (c : Sk), c.m = 20 → Sp w1 w1 c (Ar.new 20) → w.heap.size ≤ w1.heap.size → Ge w.heap.size c → Calls Try.prog 46 #[.pointer (some ⟨c.sb, 0, none⟩), .bool true] w1 (NewSt 20 true fa1 1 w1 w.heap.size)) := Lib.hid (fun w1 c hm h hB hG => by
    have := knew_c h true w.heap.size hB hG 1 (by rw [hm]; exact e0) (w64_small (by omega))
    rw [hm] at this; exact this)
  have C1 : Hid (∀ (w2 : World) (c : Sk), c.m = 20 → ∀ wa, St w2 wa c fa1 1 (.pointer none) → Calls Try.prog 48 #[.pointer (some ⟨c.kb, 0, none⟩), .bool true, .int .u64 8, .slice (some ⟨wa.heap.size, 0, none⟩) 1 1, .slice (some ⟨wa.heap.size + 1, 0, none⟩) 1 1] ((wa.alloc (.cells #[.int .u64 16] 37)).alloc (.cells #[.int .u64 24] 37)) fun e w' => e = .returned (.bool true) ∧ St w2 w' c fa2 81 (.pointer none)) := Lib.hid (fun w2 c hm wa ha => by
    have hB0 : blk ((wa.alloc (.cells #[.int .u64 16] 37)).alloc (.cells #[.int .u64 24] 37)) wa.heap.size = some (.cells #[.int .u64 16] 37 (0, 0)) := by rw [blk_alloc, if_neg (by rw [size_alloc]; omega), blk_alloc, if_pos rfl]
    have hB1 : blk ((wa.alloc (.cells #[.int .u64 16] 37)).alloc (.cells #[.int .u64 24] 37)) (wa.heap.size + 1) = some (.cells #[.int .u64 24] 37 (0, 0)) := by rw [blk_alloc, if_pos (by rw [size_alloc])]
    have := kenter_c ((ha.alloc (.cells #[.int .u64 16] 37)).alloc (.cells #[.int .u64 24] 37)) true 8 (w64_small (by omega)) [16] [24] (one_w64 _ (by omega)) (one_w64 _ (by omega)) 1 rfl rfl (by omega) (some ⟨wa.heap.size, 0, none⟩) (some ⟨wa.heap.size + 1, 0, none⟩) 1 1 (fd_at ha _ 37 _ _ (Nat.le_refl _) hB0) (fd_at ha _ 37 _ _ (Nat.le_succ _) hB1) 41 81 (by rw [hm]; exact e1) (w64_small (by omega)) (by rw [hm]; exact e2) (w64_small (by omega))
    rw [hm] at this; exact this)
  have C2 : Hid (∀ (w2 : World) (c : Sk), c.m = 20 → ∀ wa, St w2 wa c fa2 81 (.pointer none) → Calls Try.prog 48 #[.pointer (some ⟨c.kb, 0, none⟩), .bool false, .int .u64 32, .slice (some ⟨wa.heap.size, 0, none⟩) 1 1, .slice (some ⟨wa.heap.size + 1, 0, none⟩) 1 1] ((wa.alloc (.cells #[.int .u64 40] 37)).alloc (.cells #[.int .u64 48] 37)) fun e w' => e = .returned (.bool true) ∧ St w2 w' c fa3 161 (.pointer none)) := Lib.hid (fun w2 c hm wa ha => by
    have hB0 : blk ((wa.alloc (.cells #[.int .u64 40] 37)).alloc (.cells #[.int .u64 48] 37)) wa.heap.size = some (.cells #[.int .u64 40] 37 (0, 0)) := by rw [blk_alloc, if_neg (by rw [size_alloc]; omega), blk_alloc, if_pos rfl]
    have hB1 : blk ((wa.alloc (.cells #[.int .u64 40] 37)).alloc (.cells #[.int .u64 48] 37)) (wa.heap.size + 1) = some (.cells #[.int .u64 48] 37 (0, 0)) := by rw [blk_alloc, if_pos (by rw [size_alloc])]
    have := kenter_c ((ha.alloc (.cells #[.int .u64 40] 37)).alloc (.cells #[.int .u64 48] 37)) false 32 (w64_small (by omega)) [40] [48] (one_w64 _ (by omega)) (one_w64 _ (by omega)) 1 rfl rfl (by omega) (some ⟨wa.heap.size, 0, none⟩) (some ⟨wa.heap.size + 1, 0, none⟩) 1 1 (fd_at ha _ 37 _ _ (Nat.le_refl _) hB0) (fd_at ha _ 37 _ _ (Nat.le_succ _) hB1) 121 161 (by rw [hm]; exact e3) (w64_small (by omega)) (by rw [hm]; exact e4) (w64_small (by omega))
    rw [hm] at this; exact this)
  have C3 : Hid (∀ (w2 : World) (c : Sk), c.m = 20 → ∀ wa, St w2 wa c fa3 161 (.pointer none) → Calls Try.prog 60 #[.pointer (some ⟨c.kb, 0, none⟩)] wa fun e w' => e = .returned (.int .i64 3) ∧ St w2 w' c fa3 161 (.pointer none)) := Lib.hid (fun w2 c hm wa ha => by
    exact kfibers_c ha 10 3 (by rw [hm]; exact e5) (by omega))
  have C4 : Hid (∀ (w2 : World) (c : Sk), c.m = 20 → ∀ wa, St w2 wa c fa3 161 (.pointer none) → Calls Try.prog 96 #[.pointer (some ⟨c.kb, 0, none⟩), .int .u64 16] wa fun e w' => e = .returned (.tuple #[.int .i64 1, .int .u64 24, .bool true]) ∧ St w2 w' c fa3 161 (.pointer none)) := Lib.hid (fun w2 c hm wa ha => by
    have := kfind_none ha 16 (w64_small (by omega)) (by decide) 10 (some (1, 3)) 81 (w64_small (by omega)) (by rw [hm]; exact e6) (by rw [hm]; exact e7) (by omega) (fun u i hh => by
      simp at hh; obtain ⟨rfl, rfl⟩ := hh; exact ⟨by omega, by omega, by rw [hm]; exact e8⟩)
    rw [hm] at this
    simp only [findVal'] at this
    rw [show ((3 : Nat) : Int) = 3 from rfl, e9] at this
    exact this)
  have C5 : Hid (∀ (w2 : World) (c : Sk), c.m = 20 → ∀ wa, St w2 wa c fa3 161 (.pointer none) → Calls Try.prog 51 #[.pointer (some ⟨c.kb, 0, none⟩), .int .i64 1] wa fun e w' => e = .returned (.tuple #[.int .u64 201, .bool true]) ∧ St w2 w' c fa4 1 (.pointer none)) := Lib.hid (fun w2 c hm wa ha => by
    have := kcapture_deep ha 1 (by omega) 81 201 (w64_small (by omega)) (w64_small (by omega)) (by rw [hm]; exact e8) (by rw [hm]; exact e10) (by rw [hm]; exact e11) (by rw [hm]; exact e12) (by rw [hm]; show nmF fb3 20 (gtF fb3 20 81 3) 0 ≠ 0; rw [e13]; decide)
    rw [hm] at this
    rw [show gtF (objF fa3 20 6 [smW 0, 161, 81]).1 20 81 0 = 1 from e14] at this
    exact this)
  have C6 : Hid (∀ (w2 : World) (c : Sk), c.m = 20 → ∀ wa, St w2 wa c fa4 1 (.pointer none) → Calls Try.prog 60 #[.pointer (some ⟨c.kb, 0, none⟩)] wa fun e w' => e = .returned (.int .i64 1) ∧ St w2 w' c fa4 1 (.pointer none)) := Lib.hid (fun w2 c hm wa ha => by
    exact kfibers_c ha 10 1 (by rw [hm]; exact e15) (by omega))
  have C7 : Hid (∀ (w2 : World) (c : Sk), c.m = 20 → ∀ wa, St w2 wa c fa4 1 (.pointer none) → Calls Try.prog 47 #[.pointer (some ⟨c.kb, 0, none⟩), .int .u64 8, .int .i64 1, .int .i64 1] wa fun e w' => e = .returned (.bool true) ∧ St w2 w' c fa5 1 (.pointer none)) := Lib.hid (fun w2 c hm wa ha => by
    have := kpush_c ha 8 1 1 (w64_small (by omega)) (by omega) (by rw [hm]; intro hx; exact absurd e17 hx) (by
      rw [hm]
      intro seg hs
      rw [e18] at hs
      simp at hs; subst hs
      rw [e19]
      exact ⟨w64_small (by omega), by omega, by omega⟩)
    rw [hm, e16] at this
    exact this)
  have C8 : Hid (∀ (w2 : World) (c : Sk), c.m = 20 → ∀ wa, St w2 wa c fa5 1 (.pointer none) → Calls Try.prog 53 #[.pointer (some ⟨c.kb, 0, none⟩), .int .u64 201] wa fun e w' => e = .returned (.int .i64 0) ∧ St w2 w' c fa6 161 (.pointer none)) := Lib.hid (fun w2 c hm wa ha => by
    have := kresume_yes ha 201 (w64_small (by omega)) (by rw [hm]; exact e20)
    rw [hm, e21] at this
    exact this)
  have C9 : Hid (∀ (w2 : World) (c : Sk), c.m = 20 → ∀ wa, St w2 wa c fa6 161 (.pointer none) → Calls Try.prog 60 #[.pointer (some ⟨c.kb, 0, none⟩)] wa fun e w' => e = .returned (.int .i64 3) ∧ St w2 w' c fa6 161 (.pointer none)) := Lib.hid (fun w2 c hm wa ha => by
    exact kfibers_c ha 10 3 (by rw [hm]; exact e22) (by omega))
  have C10 : Hid (∀ (w2 : World) (c : Sk), c.m = 20 → ∀ wa, St w2 wa c fa6 161 (.pointer none) → Calls Try.prog 53 #[.pointer (some ⟨c.kb, 0, none⟩), .int .u64 201] wa fun e w' => e = .returned (.int .i64 201) ∧ St w2 w' c fa6 161 (.pointer none)) := Lib.hid (fun w2 c hm wa ha => by
    have := kresume_no ha 201 (w64_small (by omega)) (by rw [hm, e23]; decide)
    rw [hm, e23] at this
    exact this)
  generalize fa1 = a1 at *
  generalize fa2 = a2 at *
  generalize fa3 = a3 at *
  generalize fa4 = a4 at *
  generalize fa5 = a5 at *
  generalize fa6 = a6 at *
  go_enter Try.func43, Try.ntmps43
  go_wp2_with fail
  refine CV.out.mono ?_
  rintro e w1 ⟨c1, rfl, hm1, hS1, hF1, hG1⟩
  have CN1 := Lib.hid (CN.out w1 c1 hm1 hS1 hF1.size hG1)
  have F1 := Lib.hid hF1
  clear CV CN hm1 hS1 hF1 hG1
  go_wp2_with fail
  refine CN1.out.mono ?_
  rintro e w2 ⟨c, rfl, hm, _, h2, hgs, hfr⟩
  have F2 := Lib.hid (hfr w (Nat.le_refl _) F1.out)
  have G := Lib.hid hgs.own
  replace C1 := Lib.hid (C1.out w2 c hm)
  replace C2 := Lib.hid (C2.out w2 c hm)
  replace C3 := Lib.hid (C3.out w2 c hm)
  replace C4 := Lib.hid (C4.out w2 c hm)
  replace C5 := Lib.hid (C5.out w2 c hm)
  replace C6 := Lib.hid (C6.out w2 c hm)
  replace C7 := Lib.hid (C7.out w2 c hm)
  replace C8 := Lib.hid (C8.out w2 c hm)
  replace C9 := Lib.hid (C9.out w2 c hm)
  replace C10 := Lib.hid (C10.out w2 c hm)
  have H2 := Lib.hid h2
  clear CN1 F1 hm hgs hfr h2
  go_wp2_with fail
  refine (C1.out _ H2.out).mono ?_
  rintro e v1 ⟨rfl, h1⟩
  have K1 := Lib.hid h1
  clear C1 h1
  go_wp2_with fail
  refine (C2.out _ K1.out).mono ?_
  rintro e v2 ⟨rfl, h2⟩
  have K2 := Lib.hid h2
  clear C2 h2
  go_wp2_with fail
  refine (C3.out _ K2.out).mono ?_
  rintro e v3 ⟨rfl, h3⟩
  have K3 := Lib.hid h3
  clear C3 h3
  go_wp2_with fail
  refine (C4.out _ K3.out).mono ?_
  rintro e v4 ⟨rfl, h4⟩
  have K4 := Lib.hid h4
  clear C4 h4
  go_wp2_with fail
  refine (C5.out _ K4.out).mono ?_
  rintro e v5 ⟨rfl, h5⟩
  have K5 := Lib.hid h5
  clear C5 h5
  go_wp2_with fail
  refine (C6.out _ K5.out).mono ?_
  rintro e v6 ⟨rfl, h6⟩
  have K6 := Lib.hid h6
  clear C6 h6
  go_wp2_with fail
  refine (C7.out _ K6.out).mono ?_
  rintro e v7 ⟨rfl, h7⟩
  have K7 := Lib.hid h7
  clear C7 h7
  go_wp2_with fail
  refine (C8.out _ K7.out).mono ?_
  rintro e v8 ⟨rfl, h8⟩
  have K8 := Lib.hid h8
  clear C8 h8
  go_wp2_with fail
  refine (C9.out _ K8.out).mono ?_
  rintro e v9 ⟨rfl, h9⟩
  have K9 := Lib.hid h9
  clear C9 h9
  go_wp2_with fail
  refine (C10.out _ K9.out).mono ?_
  rintro e v10 ⟨rfl, h10⟩
  have K10 := Lib.hid h10
  clear C10 h10
  go_wp2
  go_ret
  exact ⟨rfl, F2.out.trans K10.out.fr (fun x hx => .inr (G.out x hx))⟩
end Go.Proofs.Ytjgndfhfiekomaa
