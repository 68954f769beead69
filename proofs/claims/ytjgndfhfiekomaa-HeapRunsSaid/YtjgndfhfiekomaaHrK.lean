/- The document's heap: here, Kind, Get, Pinned, Moved. -/
import Derived.Test.YtjgndfhfiekomaaHrJ
set_option linter.all false
namespace Go.Proofs.Ytjgndfhfiekomaa
open Go.ChangeShapes Go.WideShapes Go.RowKit
variable {B0 : Nat} {w w' : World} {wa ta ma oa : Option Addr} {wn wk tn tc mn mc oc : Nat} {sf st gf gt cf ct nx : Int} {O : List RO} {r : RO}
theorem hereR_some {x : Int} {i : Nat} (h : hereR O x = some i) : ∃ r, O[i]? = some r ∧ mkW 1 r.a = x ∧ r.dst < 0 := by
  unfold hereR at h
  cases hf : findR O x O.length with
  | none => rw [hf] at h; simp at h
  | some j =>
    rw [hf] at h
    simp only at h
    split at h
    · simp at h
    · rename_i hc
      simp only [Option.some.injEq] at h
      subst h
      obtain ⟨_, r, hr, hm⟩ := findR_lt hf
      exact ⟨r, hr, hm, by rw [hr] at hc; simp at hc; exact hc⟩
set_option maxRecDepth 100000 in
set_option maxHeartbeats 1000000 in
theorem rhere_c (w : World) (hO : OsAt B0 w oa oc O) (hn : O.length ≤ 1000) (ha : ∀ r, r ∈ O → r.a ≤ 1000000) (x : Int) :
    Calls Try.prog 76 #[.agg #[.slice wa wn wk, .slice ta tn tc, .slice ma mn mc, .int .i64 sf, .int .i64 st, .int .i64 gf, .int .i64 gt, .int .i64 cf, .int .i64 ct, .int .i64 nx, .slice oa O.length oc], .int .u64 x] w fun e w' => e = .returned (.int .i64 (lastI (hereR O x))) ∧ Fr [] w w' := by
  have HO := Lib.hid hO
  obtain ⟨n, hnl⟩ : ∃ n, n = O.length := ⟨_, rfl⟩
  have HN := Lib.hid hnl
  have hoc := hO.cp.1
  have hoc2 : oc ≤ 9223372036854775807 := by have := hO.cp.2; unfold maxLen at this; omega
  have CF := Lib.hid (fun (w1 : World) (hF : Fr [] w w1) => rfind_c (wa := wa) (wn := wn) (wk := wk) (ta := ta) (tn := tn) (tc := tc) (ma := ma) (mn := mn) (mc := mc) (sf := sf) (st := st) (gf := gf) (gt := gt) (cf := cf) (ct := ct) (nx := nx) w1 (hO.keep hF) hn ha x)
  rw [← hnl] at hn hoc CF ⊢
  obtain ⟨W1, hW1⟩ : ∃ W1, W1 = w.alloc (.cells #[.slice wa wn wk, .slice ta tn tc, .slice ma mn mc, .int .i64 sf, .int .i64 st, .int .i64 gf, .int .i64 gt, .int .i64 cf, .int .i64 ct, .int .i64 nx, .slice oa n oc] 34) := ⟨_, rfl⟩
  have P1 := Lib.hid (show blk W1 w.heap.size = some (.cells #[.slice wa wn wk, .slice ta tn tc, .slice ma mn mc, .int .i64 sf, .int .i64 st, .int .i64 gf, .int .i64 gt, .int .i64 cf, .int .i64 ct, .int .i64 nx, .slice oa n oc] 34 (0, 0)) by rw [hW1, blk_alloc, if_pos rfl])
  have F1 : Hid (Fr [] w W1) := Lib.hid (by rw [hW1]; exact (Fr.refl _ _).alloc _)
  obtain ⟨pb, hpb⟩ : ∃ pb, pb = w.heap.size := ⟨_, rfl⟩
  rw [← hpb] at P1
  clear hO hnl ha
  go_enter Try.func76, Try.ntmps76
  go_upto_region 1 with fail
  rw [← hW1, ← hpb]
  clear hW1 hpb
  have p0 := cell_of P1.out (i := 0) rfl
  have p1 := cell_of P1.out (i := 1) rfl
  have p2 := cell_of P1.out (i := 2) rfl
  have p3 := cell_of P1.out (i := 3) rfl
  have p4 := cell_of P1.out (i := 4) rfl
  have p5 := cell_of P1.out (i := 5) rfl
  have p6 := cell_of P1.out (i := 6) rfl
  have p7 := cell_of P1.out (i := 7) rfl
  have p8 := cell_of P1.out (i := 8) rfl
  have p9 := cell_of P1.out (i := 9) rfl
  have p10 := cell_of P1.out (i := 10) rfl
  go_wp2_with fail
  refine (CF.out _ F1.out).mono ?_
  rintro e w2 ⟨rfl, F2⟩
  have P2 := Lib.hid (F2.at P1.out (by simp))
  have F2 := Lib.hid (F1.out.same F2)
  cases hf : findR O x n with
  | none =>
    have HR : Hid (hereR O x = none) := Lib.hid (by unfold hereR; rw [← HN.out, hf])
    clear hf CF P1
    simp only [lastI]
    go_wp2
    go_ret
    rw [HR.out]
    exact ⟨rfl, F2.out⟩
  | some i =>
    obtain ⟨hi, r, hr, _⟩ := findR_lt hf
    obtain ⟨b, rfl, hbl, _, _, _, d3, _⟩ := (HO.out.keep F2.out).at hr
    have p10 := cell_of P2.out (i := 10) rfl
    have hh : hereR O x = if 0 ≤ r.dst then none else some i := by unfold hereR; rw [← HN.out, hf]; simp only [hr, Option.map_some, Option.getD_some]
    by_cases h0 : 0 ≤ r.dst
    · rw [if_pos h0] at hh
      have HR := Lib.hid hh
      clear hf CF P1 hh hr
      simp only [lastI]
      go_wp2
      go_ret
      rw [HR.out]
      exact ⟨rfl, F2.out⟩
    · rw [if_neg h0] at hh
      have HR := Lib.hid hh
      clear hf CF P1 hh hr
      simp only [lastI]
      go_wp2
      go_ret
      rw [HR.out]
      exact ⟨rfl, F2.out⟩
/-- The heads of reading functions: what here says. -/
def kindR (O : List RO) (x : Int) : Int × Int :=
  match hereR O x with
  | none => (-1, -1)
  | some i => ((O[i]?.map RO.kind).getD 0, ((O[i]?.map fun r => r.fs.length).getD 0 : Nat))
set_option maxRecDepth 100000 in
set_option maxHeartbeats 1000000 in
theorem rkind_c (w : World) (hO : OsAt B0 w oa oc O) (hn : O.length ≤ 1000) (ha : ∀ r, r ∈ O → r.a ≤ 1000000) (x : Int) :
    Calls Try.prog 26 #[.agg #[.slice wa wn wk, .slice ta tn tc, .slice ma mn mc, .int .i64 sf, .int .i64 st, .int .i64 gf, .int .i64 gt, .int .i64 cf, .int .i64 ct, .int .i64 nx, .slice oa O.length oc], .int .u64 x] w fun e w' => e = .returned (.tuple #[.int .i64 (kindR O x).1, .int .i64 (kindR O x).2]) ∧ Fr [] w w' := by
  have HO := Lib.hid hO
  obtain ⟨n, hnl⟩ : ∃ n, n = O.length := ⟨_, rfl⟩
  have HN := Lib.hid hnl
  have hoc := hO.cp.1
  have hoc2 : oc ≤ 9223372036854775807 := by have := hO.cp.2; unfold maxLen at this; omega
  have CH := Lib.hid (fun (w1 : World) (hF : Fr [] w w1) => rhere_c (wa := wa) (wn := wn) (wk := wk) (ta := ta) (tn := tn) (tc := tc) (ma := ma) (mn := mn) (mc := mc) (sf := sf) (st := st) (gf := gf) (gt := gt) (cf := cf) (ct := ct) (nx := nx) w1 (hO.keep hF) hn ha x)
  rw [← hnl] at hn hoc CH ⊢
  obtain ⟨W1, hW1⟩ : ∃ W1, W1 = w.alloc (.cells #[.slice wa wn wk, .slice ta tn tc, .slice ma mn mc, .int .i64 sf, .int .i64 st, .int .i64 gf, .int .i64 gt, .int .i64 cf, .int .i64 ct, .int .i64 nx, .slice oa n oc] 34) := ⟨_, rfl⟩
  have P1 := Lib.hid (show blk W1 w.heap.size = some (.cells #[.slice wa wn wk, .slice ta tn tc, .slice ma mn mc, .int .i64 sf, .int .i64 st, .int .i64 gf, .int .i64 gt, .int .i64 cf, .int .i64 ct, .int .i64 nx, .slice oa n oc] 34 (0, 0)) by rw [hW1, blk_alloc, if_pos rfl])
  have F1 : Hid (Fr [] w W1) := Lib.hid (by rw [hW1]; exact (Fr.refl _ _).alloc _)
  obtain ⟨pb, hpb⟩ : ∃ pb, pb = w.heap.size := ⟨_, rfl⟩
  rw [← hpb] at P1
  clear hO hnl ha
  go_enter Try.func26, Try.ntmps26
  go_upto_region 1 with fail
  rw [← hW1, ← hpb]
  clear hW1 hpb
  have p0 := cell_of P1.out (i := 0) rfl
  have p1 := cell_of P1.out (i := 1) rfl
  have p2 := cell_of P1.out (i := 2) rfl
  have p3 := cell_of P1.out (i := 3) rfl
  have p4 := cell_of P1.out (i := 4) rfl
  have p5 := cell_of P1.out (i := 5) rfl
  have p6 := cell_of P1.out (i := 6) rfl
  have p7 := cell_of P1.out (i := 7) rfl
  have p8 := cell_of P1.out (i := 8) rfl
  have p9 := cell_of P1.out (i := 9) rfl
  have p10 := cell_of P1.out (i := 10) rfl
  go_wp2_with fail
  refine (CH.out _ F1.out).mono ?_
  rintro e w2 ⟨rfl, F2⟩
  have P2 := Lib.hid (F2.at P1.out (by simp))
  have F2 := Lib.hid (F1.out.same F2)
  cases hf : hereR O x with
  | none =>
    have HR : Hid (kindR O x = (-1, -1)) := Lib.hid (by unfold kindR; rw [hf])
    clear hf CH P1
    simp only [lastI]
    go_wp2
    go_ret2
    rw [HR.out]
    exact ⟨rfl, F2.out⟩
  | some i =>
    obtain ⟨r, hr, _, _⟩ := hereR_some hf
    have hi : i < n := by rw [HN.out]; rcases Nat.lt_or_ge i O.length with h | h; exact h; rw [List.getElem?_eq_none h] at hr; simp at hr
    obtain ⟨b, rfl, hbl, _, d1, _, _, d4⟩ := (HO.out.keep F2.out).at hr
    have p10 := cell_of P2.out (i := 10) rfl
    have HR : Hid (kindR O x = (r.kind, (r.fs.length : Int))) := Lib.hid (by unfold kindR; rw [hf]; simp only [hr, Option.map_some, Option.getD_some])
    clear hf CH P1 hr
    simp only [lastI]
    go_wp2
    go_region
    go_wp2
    go_ret2
    rw [HR.out]
    exact ⟨rfl, F2.out.drew⟩
def pinnedR (O : List RO) (x : Int) : Bool :=
  match hereR O x with
  | none => false
  | some i => decide (0 < (O[i]?.map RO.pins).getD 0)
set_option maxRecDepth 100000 in
set_option maxHeartbeats 1000000 in
theorem rpinned_c (w : World) (hO : OsAt B0 w oa oc O) (hn : O.length ≤ 1000) (ha : ∀ r, r ∈ O → r.a ≤ 1000000) (x : Int) :
    Calls Try.prog 32 #[.agg #[.slice wa wn wk, .slice ta tn tc, .slice ma mn mc, .int .i64 sf, .int .i64 st, .int .i64 gf, .int .i64 gt, .int .i64 cf, .int .i64 ct, .int .i64 nx, .slice oa O.length oc], .int .u64 x] w fun e w' => e = .returned (.bool (pinnedR O x)) ∧ Fr [] w w' := by
  have HO := Lib.hid hO
  obtain ⟨n, hnl⟩ : ∃ n, n = O.length := ⟨_, rfl⟩
  have HN := Lib.hid hnl
  have hoc := hO.cp.1
  have hoc2 : oc ≤ 9223372036854775807 := by have := hO.cp.2; unfold maxLen at this; omega
  have CH := Lib.hid (fun (w1 : World) (hF : Fr [] w w1) => rhere_c (wa := wa) (wn := wn) (wk := wk) (ta := ta) (tn := tn) (tc := tc) (ma := ma) (mn := mn) (mc := mc) (sf := sf) (st := st) (gf := gf) (gt := gt) (cf := cf) (ct := ct) (nx := nx) w1 (hO.keep hF) hn ha x)
  rw [← hnl] at hn hoc CH ⊢
  obtain ⟨W1, hW1⟩ : ∃ W1, W1 = w.alloc (.cells #[.slice wa wn wk, .slice ta tn tc, .slice ma mn mc, .int .i64 sf, .int .i64 st, .int .i64 gf, .int .i64 gt, .int .i64 cf, .int .i64 ct, .int .i64 nx, .slice oa n oc] 34) := ⟨_, rfl⟩
  have P1 := Lib.hid (show blk W1 w.heap.size = some (.cells #[.slice wa wn wk, .slice ta tn tc, .slice ma mn mc, .int .i64 sf, .int .i64 st, .int .i64 gf, .int .i64 gt, .int .i64 cf, .int .i64 ct, .int .i64 nx, .slice oa n oc] 34 (0, 0)) by rw [hW1, blk_alloc, if_pos rfl])
  have F1 : Hid (Fr [] w W1) := Lib.hid (by rw [hW1]; exact (Fr.refl _ _).alloc _)
  obtain ⟨pb, hpb⟩ : ∃ pb, pb = w.heap.size := ⟨_, rfl⟩
  rw [← hpb] at P1
  clear hO hnl ha
  go_enter Try.func32, Try.ntmps32
  go_upto_region 1 with fail
  rw [← hW1, ← hpb]
  clear hW1 hpb
  have p0 := cell_of P1.out (i := 0) rfl
  have p1 := cell_of P1.out (i := 1) rfl
  have p2 := cell_of P1.out (i := 2) rfl
  have p3 := cell_of P1.out (i := 3) rfl
  have p4 := cell_of P1.out (i := 4) rfl
  have p5 := cell_of P1.out (i := 5) rfl
  have p6 := cell_of P1.out (i := 6) rfl
  have p7 := cell_of P1.out (i := 7) rfl
  have p8 := cell_of P1.out (i := 8) rfl
  have p9 := cell_of P1.out (i := 9) rfl
  have p10 := cell_of P1.out (i := 10) rfl
  go_wp2_with fail
  refine (CH.out _ F1.out).mono ?_
  rintro e w2 ⟨rfl, F2⟩
  have P2 := Lib.hid (F2.at P1.out (by simp))
  have F2 := Lib.hid (F1.out.same F2)
  cases hf : hereR O x with
  | none =>
    have HR : Hid (pinnedR O x = false) := Lib.hid (by unfold pinnedR; rw [hf])
    clear hf CH P1
    simp only [lastI]
    go_wp2
    go_ret
    rw [HR.out]
    exact ⟨rfl, F2.out⟩
  | some i =>
    obtain ⟨r, hr, _, _⟩ := hereR_some hf
    have hi : i < n := by rw [HN.out]; rcases Nat.lt_or_ge i O.length with h | h; exact h; rw [List.getElem?_eq_none h] at hr; simp at hr
    obtain ⟨b, rfl, hbl, _, _, d2, _, _⟩ := (HO.out.keep F2.out).at hr
    have p10 := cell_of P2.out (i := 10) rfl
    have HR : Hid (pinnedR O x = decide (0 < r.pins)) := Lib.hid (by unfold pinnedR; rw [hf]; simp only [hr, Option.map_some, Option.getD_some])
    clear hf CH P1 hr
    simp only [lastI]
    by_cases hp : 0 < r.pins
    · go_wp2
      go_ret
      exact ⟨by rw [HR.out]; simp [hp], F2.out⟩
    · go_wp2
      go_ret
      exact ⟨by rw [HR.out]; simp [hp], F2.out⟩
def movedR (O : List RO) (x : Int) : Int × Bool :=
  match findR O x O.length with
  | none => (0, false)
  | some i => if (O[i]?.map RO.dst).getD 0 < 0 then (0, false) else (mkW 1 ((O[i]?.map RO.dst).getD 0), true)
set_option maxRecDepth 100000 in
set_option maxHeartbeats 1000000 in
theorem rmoved_c (w : World) (hO : OsAt B0 w oa oc O) (hn : O.length ≤ 1000) (ha : ∀ r, r ∈ O → r.a ≤ 1000000) (x : Int) :
    Calls Try.prog 28 #[.agg #[.slice wa wn wk, .slice ta tn tc, .slice ma mn mc, .int .i64 sf, .int .i64 st, .int .i64 gf, .int .i64 gt, .int .i64 cf, .int .i64 ct, .int .i64 nx, .slice oa O.length oc], .int .u64 x] w fun e w' => e = .returned (.tuple #[.int .u64 (movedR O x).1, .bool (movedR O x).2]) ∧ Fr [] w w' := by
  have HO := Lib.hid hO
  obtain ⟨n, hnl⟩ : ∃ n, n = O.length := ⟨_, rfl⟩
  have HN := Lib.hid hnl
  have hoc := hO.cp.1
  have hoc2 : oc ≤ 9223372036854775807 := by have := hO.cp.2; unfold maxLen at this; omega
  have CF := Lib.hid (fun (w1 : World) (hF : Fr [] w w1) => rfind_c (wa := wa) (wn := wn) (wk := wk) (ta := ta) (tn := tn) (tc := tc) (ma := ma) (mn := mn) (mc := mc) (sf := sf) (st := st) (gf := gf) (gt := gt) (cf := cf) (ct := ct) (nx := nx) w1 (hO.keep hF) hn ha x)
  rw [← hnl] at hn hoc CF ⊢
  obtain ⟨W1, hW1⟩ : ∃ W1, W1 = w.alloc (.cells #[.slice wa wn wk, .slice ta tn tc, .slice ma mn mc, .int .i64 sf, .int .i64 st, .int .i64 gf, .int .i64 gt, .int .i64 cf, .int .i64 ct, .int .i64 nx, .slice oa n oc] 34) := ⟨_, rfl⟩
  have P1 := Lib.hid (show blk W1 w.heap.size = some (.cells #[.slice wa wn wk, .slice ta tn tc, .slice ma mn mc, .int .i64 sf, .int .i64 st, .int .i64 gf, .int .i64 gt, .int .i64 cf, .int .i64 ct, .int .i64 nx, .slice oa n oc] 34 (0, 0)) by rw [hW1, blk_alloc, if_pos rfl])
  have F1 : Hid (Fr [] w W1) := Lib.hid (by rw [hW1]; exact (Fr.refl _ _).alloc _)
  obtain ⟨pb, hpb⟩ : ∃ pb, pb = w.heap.size := ⟨_, rfl⟩
  rw [← hpb] at P1
  clear hO hnl ha
  go_enter Try.func28, Try.ntmps28
  go_upto_region 1 with fail
  rw [← hW1, ← hpb]
  clear hW1 hpb
  have p0 := cell_of P1.out (i := 0) rfl
  have p1 := cell_of P1.out (i := 1) rfl
  have p2 := cell_of P1.out (i := 2) rfl
  have p3 := cell_of P1.out (i := 3) rfl
  have p4 := cell_of P1.out (i := 4) rfl
  have p5 := cell_of P1.out (i := 5) rfl
  have p6 := cell_of P1.out (i := 6) rfl
  have p7 := cell_of P1.out (i := 7) rfl
  have p8 := cell_of P1.out (i := 8) rfl
  have p9 := cell_of P1.out (i := 9) rfl
  have p10 := cell_of P1.out (i := 10) rfl
  go_wp2_with fail
  refine (CF.out _ F1.out).mono ?_
  rintro e w2 ⟨rfl, F2⟩
  have P2 := Lib.hid (F2.at P1.out (by simp))
  have F2 := Lib.hid (F1.out.same F2)
  cases hf : findR O x n with
  | none =>
    have HR : Hid (movedR O x = (0, false)) := Lib.hid (by unfold movedR; rw [← HN.out, hf])
    clear hf CF P1
    simp only [lastI]
    go_wp2
    go_ret2
    rw [HR.out]
    exact ⟨rfl, F2.out⟩
  | some i =>
    obtain ⟨hi, r, hr, _⟩ := findR_lt hf
    obtain ⟨b, rfl, hbl, _, _, _, d3, _⟩ := (HO.out.keep F2.out).at hr
    have p10 := cell_of P2.out (i := 10) rfl
    have hh : movedR O x = if r.dst < 0 then (0, false) else (mkW 1 r.dst, true) := by unfold movedR; rw [← HN.out, hf]; simp only [hr, Option.map_some, Option.getD_some]
    have CM := Lib.hid (fun w1 => wmade_r 1 r.dst w1 (by omega) (by omega))
    by_cases h0 : r.dst < 0
    · rw [if_pos h0] at hh
      have HR := Lib.hid hh
      clear hf CF P1 hh hr
      simp only [lastI]
      go_wp2
      go_ret2
      rw [HR.out]
      exact ⟨rfl, F2.out⟩
    · rw [if_neg h0] at hh
      have HR := Lib.hid hh
      clear hf CF P1 hh hr
      simp only [lastI]
      go_wp2_with fail
      refine (CM.out _).mono ?_
      rintro e w' ⟨rfl, rfl⟩
      go_wp2
      go_ret2
      rw [HR.out]
      exact ⟨rfl, F2.out⟩
def getR (O : List RO) (x k : Int) : Int × Int :=
  match hereR O x with
  | none => (0, 151)
  | some i => if k < 0 ∨ (((O[i]?.map RO.fs).getD []).length : Int) ≤ k then (0, 151) else (((O[i]?.map RO.fs).getD [])[k.toNat]?.getD 0, 0)
set_option maxRecDepth 100000 in
set_option maxHeartbeats 1000000 in
theorem rget_c (w : World) (hO : OsAt B0 w oa oc O) (hn : O.length ≤ 1000) (ha : ∀ r, r ∈ O → r.a ≤ 1000000) (x k : Int) :
    Calls Try.prog 18 #[.agg #[.slice wa wn wk, .slice ta tn tc, .slice ma mn mc, .int .i64 sf, .int .i64 st, .int .i64 gf, .int .i64 gt, .int .i64 cf, .int .i64 ct, .int .i64 nx, .slice oa O.length oc], .int .u64 x, .int .i64 k] w fun e w' => e = .returned (.tuple #[.int .u64 (getR O x k).1, .int .i64 (getR O x k).2]) ∧ Fr [] w w' := by
  have HO := Lib.hid hO
  obtain ⟨n, hnl⟩ : ∃ n, n = O.length := ⟨_, rfl⟩
  have HN := Lib.hid hnl
  have hoc := hO.cp.1
  have hoc2 : oc ≤ 9223372036854775807 := by have := hO.cp.2; unfold maxLen at this; omega
  have CH := Lib.hid (fun (w1 : World) (hF : Fr [] w w1) => rhere_c (wa := wa) (wn := wn) (wk := wk) (ta := ta) (tn := tn) (tc := tc) (ma := ma) (mn := mn) (mc := mc) (sf := sf) (st := st) (gf := gf) (gt := gt) (cf := cf) (ct := ct) (nx := nx) w1 (hO.keep hF) hn ha x)
  rw [← hnl] at hn hoc CH ⊢
  obtain ⟨W1, hW1⟩ : ∃ W1, W1 = w.alloc (.cells #[.slice wa wn wk, .slice ta tn tc, .slice ma mn mc, .int .i64 sf, .int .i64 st, .int .i64 gf, .int .i64 gt, .int .i64 cf, .int .i64 ct, .int .i64 nx, .slice oa n oc] 34) := ⟨_, rfl⟩
  have P1 := Lib.hid (show blk W1 w.heap.size = some (.cells #[.slice wa wn wk, .slice ta tn tc, .slice ma mn mc, .int .i64 sf, .int .i64 st, .int .i64 gf, .int .i64 gt, .int .i64 cf, .int .i64 ct, .int .i64 nx, .slice oa n oc] 34 (0, 0)) by rw [hW1, blk_alloc, if_pos rfl])
  have F1 : Hid (Fr [] w W1) := Lib.hid (by rw [hW1]; exact (Fr.refl _ _).alloc _)
  obtain ⟨pb, hpb⟩ : ∃ pb, pb = w.heap.size := ⟨_, rfl⟩
  rw [← hpb] at P1
  clear hO hnl ha
  go_enter Try.func18, Try.ntmps18
  go_upto_region 1 with fail
  rw [← hW1, ← hpb]
  clear hW1 hpb
  have p0 := cell_of P1.out (i := 0) rfl
  have p1 := cell_of P1.out (i := 1) rfl
  have p2 := cell_of P1.out (i := 2) rfl
  have p3 := cell_of P1.out (i := 3) rfl
  have p4 := cell_of P1.out (i := 4) rfl
  have p5 := cell_of P1.out (i := 5) rfl
  have p6 := cell_of P1.out (i := 6) rfl
  have p7 := cell_of P1.out (i := 7) rfl
  have p8 := cell_of P1.out (i := 8) rfl
  have p9 := cell_of P1.out (i := 9) rfl
  have p10 := cell_of P1.out (i := 10) rfl
  go_wp2_with fail
  refine (CH.out _ F1.out).mono ?_
  rintro e w2 ⟨rfl, F2⟩
  have P2 := Lib.hid (F2.at P1.out (by simp))
  have F2 := Lib.hid (F1.out.same F2)
  cases hf : hereR O x with
  | none =>
    have HR : Hid (getR O x k = (0, 151)) := Lib.hid (by unfold getR; rw [hf])
    clear hf CH P1
    simp only [lastI]
    go_wp2
    go_ret2
    rw [HR.out]
    exact ⟨rfl, F2.out⟩
  | some i =>
    obtain ⟨r, hr, _, _⟩ := hereR_some hf
    have hi : i < n := by rw [HN.out]; rcases Nat.lt_or_ge i O.length with h | h; exact h; rw [List.getElem?_eq_none h] at hr; simp at hr
    obtain ⟨b, rfl, hbl, _, _, _, _, d4⟩ := (HO.out.keep F2.out).at hr
    have hws := (HO.out.keep F2.out).fs r (List.mem_of_getElem? hr)
    have p10 := cell_of P2.out (i := 10) rfl
    have hh : getR O x k = if k < 0 ∨ (r.fs.length : Int) ≤ k then (0, 151) else (r.fs[k.toNat]?.getD 0, 0) := by unfold getR; rw [hf]; simp only [hr, Option.map_some, Option.getD_some]
    by_cases h0 : k < 0
    · rw [if_pos (.inl h0)] at hh
      have HR := Lib.hid hh
      clear hf CH P1 hh hr
      simp only [lastI]
      go_wp2
      go_ret2
      rw [HR.out]
      exact ⟨rfl, F2.out⟩
    · by_cases h1 : (r.fs.length : Int) ≤ k
      · rw [if_pos (.inr h1)] at hh
        have HR := Lib.hid hh
        clear hf CH P1 hh hr
        simp only [lastI]
        go_wp2
        go_ret2
        rw [HR.out]
        exact ⟨rfl, F2.out⟩
      · rw [if_neg (by omega)] at hh
        obtain ⟨q, rfl⟩ : ∃ q : Nat, k = (q : Int) := ⟨k.toNat, by omega⟩
        rw [Int.toNat_natCast] at hh
        have hq : q < r.fs.length := by omega
        obtain ⟨hw1, hw2, hw3⟩ := hws
        rcases hw3 with hw3 | ⟨fb, hfa, hfl, hflo, hfx⟩
        · rw [hw3] at hq; simp at hq
        have d5 := hfx q _ (List.getElem?_eq_getElem hq)
        rw [List.getElem?_eq_getElem hq, Option.getD_some] at hh
        obtain ⟨y, hy⟩ : ∃ y, y = r.fs[q] := ⟨_, rfl⟩
        rw [← hy] at d5 hh
        obtain ⟨ln, hln⟩ : ∃ ln, ln = r.fs.length := ⟨_, rfl⟩
        rw [← hln] at d4 hq h1 hw1
        rw [hfa] at d4
        obtain ⟨fc, hfc⟩ : ∃ fc, fc = r.fc := ⟨_, rfl⟩
        rw [← hfc] at d4 hw1
        have HR := Lib.hid hh
        clear hf CH P1 hh hr hy hln hfa hfx hfc hw2 hflo
        simp only [lastI]
        go_wp2
        go_ret2
        rw [HR.out]
        exact ⟨rfl, F2.out⟩
end Go.Proofs.Ytjgndfhfiekomaa
