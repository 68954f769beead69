/- The law's step: a field is set. -/
import Derived.Test.YtjgndfhfiekomaaZK
set_option linter.all false
namespace Go.Proofs.Ytjgndfhfiekomaa
open Go.ChangeShapes Go.WideShapes Go.RowKit
variable {w0 w : World} {c : Yk} {A : Ar} {S : Ys} {ex : List RV} {m : Nat} {G K : List Bool} {D : Nat → Option Ob}
set_option maxRecDepth 100000 in
set_option maxHeartbeats 8000000 in
theorem step_1n (hY : YAt w0 w c A S ex) (hI : YI m A S G K D) (a b : Nat) (ha : a < 8) (hb : b < 8) (i : Int) (n wd p0 p1 : Int) (ka kb : Int) (HKA : Hid (ka = (S.mr[a]?.getD ⟨0, -1⟩).k)) (HKB : Hid (kb = (S.mr[b]?.getD ⟨0, -1⟩).k)) (hn : ka < 0) :
    Calls Try.prog 40 #[.pointer (some ⟨c.y, 0, none⟩), .agg #[.int .i64 1, .int .i64 (a : Int), .int .i64 (b : Int), .int .i64 i, .int .i64 n, .int .u64 wd, .int .i64 p0, .int .i64 p1]] w (StepOk w0 c ex m S ⟨1, a, b, i, n, wd, p0, p1⟩) := by
  have HM : Hid (S.md = stepM S.md ⟨1, a, b, i, n, wd, p0, p1⟩ true) := Lib.hid (by
    rw [stepM_1 (Ac.on ha hb _ _ _ _ _ _) (by simp)]
    simp only
    rw [md_at S a HKA.out, if_pos (.inl hn)])
  have fin : Hid (∀ w', YAt w0 w' c (A) S ex → StepOk w0 c ex m S ⟨1, a, b, i, n, wd, p0, p1⟩ (.returned (.bool true)) w') := Lib.hid (fun w' h => ⟨true, _, _, G, K, D, rfl, h, hI, HM.out⟩)
  have HY := Lib.hid hY
  have CO := Lib.hid (fun w' (hF : Fr [] w w') => yobject_k (hY.keep hF) a ha ka HKA.out)
  have CB := Lib.hid (fun w' (hF : Fr [] w w') => yobject_k (hY.keep hF) b hb kb HKB.out)
  obtain ⟨mg, mcap, hmv, _, _, _, _⟩ := hY.mrow
  have HMV := Lib.hid hmv
  clear hY hI hmv
  have ha0 : (0 : Int) ≤ (a : Int) := by omega
  have ha8 : (a : Int) < 8 := by omega
  have hb0 : (0 : Int) ≤ (b : Int) := by omega
  have hb8 : (b : Int) < 8 := by omega
  go_enter Try.func40, Try.ntmps40
  go_wp2_with fail
  refine (CO.out _ ((Fr.refl _ _).alloc _)).mono ?_
  rintro e w' ⟨rfl, rfl⟩
  have F1 : Fr [] w (w.alloc (.cells #[.int .i64 1, .int .i64 (a : Int), .int .i64 (b : Int), .int .i64 i, .int .i64 n, .int .u64 wd, .int .i64 p0, .int .i64 p1] 80)) := (Fr.refl [] w).alloc _
  have Y1 := Lib.hid (HY.out.keep F1)
  have B1 := Lib.hid (show blk (w.alloc (.cells #[.int .i64 1, .int .i64 (a : Int), .int .i64 (b : Int), .int .i64 i, .int .i64 n, .int .u64 wd, .int .i64 p0, .int .i64 p1] 80)) w.heap.size = some (.cells #[.int .i64 1, .int .i64 (a : Int), .int .i64 (b : Int), .int .i64 i, .int .i64 n, .int .u64 wd, .int .i64 p0, .int .i64 p1] 80 (0, 0)) by rw [blk_alloc, if_pos rfl])
  have NB := Lib.hid (HY.out.lt_all)
  have NY := Lib.hid HY.out.ny
  have HTOP := Lib.hid HY.out.all_lt
  have FD := Lib.hid (fun (j : Nat) (o : Mo) (ho : S.objs[j]? = some o) (x : Nat) (hx : o.v.ownBlock = some x) => HY.out.nfd ho hx)
  have CB1 := Lib.hid (fun w' (hF : Fr [] (w.alloc (.cells #[.int .i64 1, .int .i64 (a : Int), .int .i64 (b : Int), .int .i64 i, .int .i64 n, .int .u64 wd, .int .i64 p0, .int .i64 p1] 80)) w') => yobject_k (Y1.out.keep hF) b hb kb HKB.out)
  generalize w.alloc (.cells #[.int .i64 1, .int .i64 (a : Int), .int .i64 (b : Int), .int .i64 i, .int .i64 n, .int .u64 wd, .int .i64 p0, .int .i64 p1] 80) = w1 at *
  generalize w.heap.size = bx at *
  have hnb : bx ≠ S.rb := by have := NB.out.2.1; omega
  have hny : c.y ≠ S.rb := NY.out.1
  have hnc : bx ≠ c.y := by have := NB.out.1; omega
  have hn3 : bx ∉ [c.b, c.wb, c.lb] := Yk.three (fun hm => by have := HTOP.out bx hm; omega)
  have hy3 : c.y ∉ [c.b, c.wb, c.lb] := HY.out.yne.1
  have hr3 : S.rb ∉ [c.b, c.wb, c.lb] := HY.out.nall (rowsY_r S ex) rfl rfl
  have hmo : S.mv.ownBlock = some mg := by rw [HMV.out]; rfl
  have hnm : bx ≠ mg := by have := NB.out.2.2.1 mg hmo; omega
  have hym : c.y ≠ mg := NY.out.2.1 mg hmo
  clear hmo
  have k0 := cell_of B1.out (i := 0) rfl
  go_wp2_with fail
  clear k0
  have hq1 : decide (ka < 0) = true := by simpa using hn
  go_wp2_with fail
  go_quiet (fail)
  go_wp2
  go_ret
  refine fin.out _ (Y1.out.keep ?_)
  repeat (first | exact Fr.refl _ _ | apply Fr.drewN | apply Fr.drew)
set_option maxRecDepth 100000 in
set_option maxHeartbeats 8000000 in
theorem step_1i (hY : YAt w0 w c A S ex) (hI : YI m A S G K D) (a b : Nat) (ha : a < 8) (hb : b < 8) (i : Int) (n wd p0 p1 : Int) (ka kb : Int) (HKA : Hid (ka = (S.mr[a]?.getD ⟨0, -1⟩).k)) (HKB : Hid (kb = (S.mr[b]?.getD ⟨0, -1⟩).k)) (hn : 0 ≤ ka) (hi : i < 0) :
    Calls Try.prog 40 #[.pointer (some ⟨c.y, 0, none⟩), .agg #[.int .i64 1, .int .i64 (a : Int), .int .i64 (b : Int), .int .i64 i, .int .i64 n, .int .u64 wd, .int .i64 p0, .int .i64 p1]] w (StepOk w0 c ex m S ⟨1, a, b, i, n, wd, p0, p1⟩) := by
  have HM : Hid (S.md = stepM S.md ⟨1, a, b, i, n, wd, p0, p1⟩ true) := Lib.hid (by
    rw [stepM_1 (Ac.on ha hb _ _ _ _ _ _) (by simp)]
    simp only
    rw [md_at S a HKA.out, if_pos (.inr (.inl hi))])
  have fin : Hid (∀ w', YAt w0 w' c (A) S ex → StepOk w0 c ex m S ⟨1, a, b, i, n, wd, p0, p1⟩ (.returned (.bool true)) w') := Lib.hid (fun w' h => ⟨true, _, _, G, K, D, rfl, h, hI, HM.out⟩)
  have HY := Lib.hid hY
  have CO := Lib.hid (fun w' (hF : Fr [] w w') => yobject_k (hY.keep hF) a ha ka HKA.out)
  have CB := Lib.hid (fun w' (hF : Fr [] w w') => yobject_k (hY.keep hF) b hb kb HKB.out)
  obtain ⟨mg, mcap, hmv, _, _, _, _⟩ := hY.mrow
  have HMV := Lib.hid hmv
  clear hY hI hmv
  have ha0 : (0 : Int) ≤ (a : Int) := by omega
  have ha8 : (a : Int) < 8 := by omega
  have hb0 : (0 : Int) ≤ (b : Int) := by omega
  have hb8 : (b : Int) < 8 := by omega
  go_enter Try.func40, Try.ntmps40
  go_wp2_with fail
  refine (CO.out _ ((Fr.refl _ _).alloc _)).mono ?_
  rintro e w' ⟨rfl, rfl⟩
  have F1 : Fr [] w (w.alloc (.cells #[.int .i64 1, .int .i64 (a : Int), .int .i64 (b : Int), .int .i64 i, .int .i64 n, .int .u64 wd, .int .i64 p0, .int .i64 p1] 80)) := (Fr.refl [] w).alloc _
  have Y1 := Lib.hid (HY.out.keep F1)
  have B1 := Lib.hid (show blk (w.alloc (.cells #[.int .i64 1, .int .i64 (a : Int), .int .i64 (b : Int), .int .i64 i, .int .i64 n, .int .u64 wd, .int .i64 p0, .int .i64 p1] 80)) w.heap.size = some (.cells #[.int .i64 1, .int .i64 (a : Int), .int .i64 (b : Int), .int .i64 i, .int .i64 n, .int .u64 wd, .int .i64 p0, .int .i64 p1] 80 (0, 0)) by rw [blk_alloc, if_pos rfl])
  have NB := Lib.hid (HY.out.lt_all)
  have NY := Lib.hid HY.out.ny
  have HTOP := Lib.hid HY.out.all_lt
  have FD := Lib.hid (fun (j : Nat) (o : Mo) (ho : S.objs[j]? = some o) (x : Nat) (hx : o.v.ownBlock = some x) => HY.out.nfd ho hx)
  have CB1 := Lib.hid (fun w' (hF : Fr [] (w.alloc (.cells #[.int .i64 1, .int .i64 (a : Int), .int .i64 (b : Int), .int .i64 i, .int .i64 n, .int .u64 wd, .int .i64 p0, .int .i64 p1] 80)) w') => yobject_k (Y1.out.keep hF) b hb kb HKB.out)
  generalize w.alloc (.cells #[.int .i64 1, .int .i64 (a : Int), .int .i64 (b : Int), .int .i64 i, .int .i64 n, .int .u64 wd, .int .i64 p0, .int .i64 p1] 80) = w1 at *
  generalize w.heap.size = bx at *
  have hnb : bx ≠ S.rb := by have := NB.out.2.1; omega
  have hny : c.y ≠ S.rb := NY.out.1
  have hnc : bx ≠ c.y := by have := NB.out.1; omega
  have hn3 : bx ∉ [c.b, c.wb, c.lb] := Yk.three (fun hm => by have := HTOP.out bx hm; omega)
  have hy3 : c.y ∉ [c.b, c.wb, c.lb] := HY.out.yne.1
  have hr3 : S.rb ∉ [c.b, c.wb, c.lb] := HY.out.nall (rowsY_r S ex) rfl rfl
  have hmo : S.mv.ownBlock = some mg := by rw [HMV.out]; rfl
  have hnm : bx ≠ mg := by have := NB.out.2.2.1 mg hmo; omega
  have hym : c.y ≠ mg := NY.out.2.1 mg hmo
  clear hmo
  have k0 := cell_of B1.out (i := 0) rfl
  go_wp2_with fail
  clear k0
  have hq : ¬ ka < 0 := by omega
  have hq1 : decide (ka < 0) = false := by simpa using hq
  have hi1 : decide (i < 0) = true := by simpa using hi
  have k3 := cell_of B1.out (i := 3) rfl
  go_wp2_with fail
  go_quiet (fail)
  go_wp2
  go_ret
  refine fin.out _ (Y1.out.keep ?_)
  repeat (first | exact Fr.refl _ _ | apply Fr.drewN | apply Fr.drew)
set_option maxRecDepth 100000 in
set_option maxHeartbeats 8000000 in
theorem step_1l (hY : YAt w0 w c A S ex) (hI : YI m A S G K D) (a b : Nat) (ha : a < 8) (hb : b < 8) (q : Nat) (n wd p0 p1 kb : Int) (p : Nat)  (HKA : Hid ((p : Int) = (S.mr[a]?.getD ⟨0, -1⟩).k)) (HKB : Hid (kb = (S.mr[b]?.getD ⟨0, -1⟩).k)) (hq : ∀ x, S.objs[p]? = some x → x.fs.length ≤ q) :
    Calls Try.prog 40 #[.pointer (some ⟨c.y, 0, none⟩), .agg #[.int .i64 1, .int .i64 (a : Int), .int .i64 (b : Int), .int .i64 (q : Int), .int .i64 n, .int .u64 wd, .int .i64 p0, .int .i64 p1]] w (StepOk w0 c ex m S ⟨1, a, b, (q : Int), n, wd, p0, p1⟩) := by
  obtain ⟨o, x, pn, hD, hx, hpp, hob, hroot⟩ := hI.rootObj ha HKA.out
  have hcnt := hI.cnt hD hx hob
  have hxb := hI.mb.f x (List.mem_of_getElem? hx)
  obtain ⟨n0, hn0⟩ : ∃ n0, n0 = S.objs.length := ⟨_, rfl⟩
  have hpn : p < n0 := by rw [hn0]; exact lt_some hx
  have hn1 : n0 ≤ 1000 := by rw [hn0]; exact hI.mb.n
  obtain ⟨og, ocap, hov, hoc, hoo, _, _⟩ := hY.orow (by omega)
  rw [← hn0] at hov hoc
  have HN0 := Lib.hid hn0
  have HOV := Lib.hid hov
  have HX := Lib.hid hx
  have HD := Lib.hid hD
  have HPP := Lib.hid hpp
  have HROOT := Lib.hid hroot
  have HOB := Lib.hid hob
  have HXB := Lib.hid hxb
  have HXL := Lib.hid hob.l
  have hxl := hxb.1
  have hxf := hob.l
  obtain ⟨cn, hcn⟩ : ∃ cn : Nat, cntM x.kind x.fs = cn := ⟨cntO o, hcnt⟩
  have hcb := cntM_b x.kind x.fs (fun f hf => (hxb.2 f hf).1.1)
  have CC := Lib.hid (fun wz (hF : Fr [] w wz) => counted_m wz x.kind x.v x.fs ((hY.keep hF).fds hx) (by omega) (fun f hf => (hxb.2 f hf).1))
  rw [hcn] at CC hcb
  have HCN := Lib.hid hcn
  have HCO := Lib.hid (show cn = cntO o by omega)
  have HPW := Lib.hid (hI.hg.pwb hD)
  have OKA := Lib.hid hI.hg.inv.ok
  have WDA := Lib.hid hI.hg.wd
  have HI := Lib.hid hI
  have hql := hq x hx
  obtain ⟨fa, fcap, hfv, _⟩ := hY.fform hx
  obtain ⟨fn, hfn⟩ : ∃ fn, fn = x.fs.length := ⟨_, rfl⟩
  rw [← hfn] at hfv hql
  have HFV := Lib.hid hfv
  have HM : Hid (S.md = stepM S.md ⟨1, a, b, (q : Int), n, wd, p0, p1⟩ true) := Lib.hid (by
    rw [stepM_1 (Ac.on ha hb _ _ _ _ _ _) (by simp)]
    simp only
    rw [md_at S a HKA.out, (md_kd hx).2, if_pos (.inr (.inr (by omega)))])
  clear hq hfv hfn
  have fin : Hid (∀ w', YAt w0 w' c (A) S ex → StepOk w0 c ex m S ⟨1, a, b, (q : Int), n, wd, p0, p1⟩ (.returned (.bool true)) w') := Lib.hid (fun w' h => ⟨true, _, _, G, K, D, rfl, h, HI.out, HM.out⟩)
  clear hD hx hpp hob hroot hxb hcn hcnt hn0 hov hoo hxf
  have HY := Lib.hid hY
  have CO := Lib.hid (fun w' (hF : Fr [] w w') => yobject_k (hY.keep hF) a ha (p) HKA.out)
  have CB := Lib.hid (fun w' (hF : Fr [] w w') => yobject_k (hY.keep hF) b hb (kb) HKB.out)
  obtain ⟨mg, mcap, hmv, _, _, _, _⟩ := hY.mrow
  have HMV := Lib.hid hmv
  clear hY hI hmv
  have ha0 : (0 : Int) ≤ (a : Int) := by omega
  have ha8 : (a : Int) < 8 := by omega
  have hb0 : (0 : Int) ≤ (b : Int) := by omega
  have hb8 : (b : Int) < 8 := by omega
  go_enter Try.func40, Try.ntmps40
  go_wp2_with fail
  refine (CO.out _ ((Fr.refl _ _).alloc _)).mono ?_
  rintro e w' ⟨rfl, rfl⟩
  have F1 : Fr [] w (w.alloc (.cells #[.int .i64 1, .int .i64 (a : Int), .int .i64 (b : Int), .int .i64 (q : Int), .int .i64 n, .int .u64 wd, .int .i64 p0, .int .i64 p1] 80)) := (Fr.refl [] w).alloc _
  have Y1 := Lib.hid (HY.out.keep F1)
  have B1 := Lib.hid (show blk (w.alloc (.cells #[.int .i64 1, .int .i64 (a : Int), .int .i64 (b : Int), .int .i64 (q : Int), .int .i64 n, .int .u64 wd, .int .i64 p0, .int .i64 p1] 80)) w.heap.size = some (.cells #[.int .i64 1, .int .i64 (a : Int), .int .i64 (b : Int), .int .i64 (q : Int), .int .i64 n, .int .u64 wd, .int .i64 p0, .int .i64 p1] 80 (0, 0)) by rw [blk_alloc, if_pos rfl])
  have NB := Lib.hid (HY.out.lt_all)
  have NY := Lib.hid HY.out.ny
  have HTOP := Lib.hid HY.out.all_lt
  have FD := Lib.hid (fun (j : Nat) (o : Mo) (ho : S.objs[j]? = some o) (x : Nat) (hx : o.v.ownBlock = some x) => HY.out.nfd ho hx)
  have CB1 := Lib.hid (fun w' (hF : Fr [] (w.alloc (.cells #[.int .i64 1, .int .i64 (a : Int), .int .i64 (b : Int), .int .i64 (q : Int), .int .i64 n, .int .u64 wd, .int .i64 p0, .int .i64 p1] 80)) w') => yobject_k (Y1.out.keep hF) b hb (kb) HKB.out)
  generalize w.alloc (.cells #[.int .i64 1, .int .i64 (a : Int), .int .i64 (b : Int), .int .i64 (q : Int), .int .i64 n, .int .u64 wd, .int .i64 p0, .int .i64 p1] 80) = w1 at *
  generalize w.heap.size = bx at *
  have hnb : bx ≠ S.rb := by have := NB.out.2.1; omega
  have hny : c.y ≠ S.rb := NY.out.1
  have hnc : bx ≠ c.y := by have := NB.out.1; omega
  have hn3 : bx ∉ [c.b, c.wb, c.lb] := Yk.three (fun hm => by have := HTOP.out bx hm; omega)
  have hy3 : c.y ∉ [c.b, c.wb, c.lb] := HY.out.yne.1
  have hr3 : S.rb ∉ [c.b, c.wb, c.lb] := HY.out.nall (rowsY_r S ex) rfl rfl
  have hmo : S.mv.ownBlock = some mg := by rw [HMV.out]; rfl
  have hnm : bx ≠ mg := by have := NB.out.2.2.1 mg hmo; omega
  have hym : c.y ≠ mg := NY.out.2.1 mg hmo
  clear hmo
  have k0 := cell_of B1.out (i := 0) rfl
  go_wp2_with fail
  clear k0
  have k3 := cell_of B1.out (i := 3) rfl
  have y2 : w1.cell? ⟨c.y, 2, none⟩ = some S.ov := Y1.out.y2
  rw [HOV.out] at y2
  obtain ⟨hoc1, _, ok1⟩ := Y1.out.ofz HOV.out HN0.out (by omega)
  obtain ⟨o0, o1⟩ := ok1 p x HX.out
  clear ok1
  rw [HFV.out] at o1
  have hq1 : decide ((p : Int) < 0) = false := by simp
  have hq2 : decide ((q : Int) < 0) = false := by simp
  have hq3 : decide (fn ≤ q) = true := by simpa using hql
  clear o0
  go_wp2_with fail
  go_quiet (fail)
  go_wp2
  go_ret
  refine fin.out _ (Y1.out.keep ?_)
  repeat (first | exact Fr.refl _ _ | apply Fr.drewN | apply Fr.drew)
set_option maxRecDepth 100000 in
set_option maxHeartbeats 8000000 in
theorem step_2n (hY : YAt w0 w c A S ex) (hI : YI m A S G K D) (a b : Nat) (ha : a < 8) (hb : b < 8) (i : Int) (n wd p0 p1 : Int) (ka kb : Int) (HKA : Hid (ka = (S.mr[a]?.getD ⟨0, -1⟩).k)) (HKB : Hid (kb = (S.mr[b]?.getD ⟨0, -1⟩).k)) (hn : ka < 0) :
    Calls Try.prog 40 #[.pointer (some ⟨c.y, 0, none⟩), .agg #[.int .i64 2, .int .i64 (a : Int), .int .i64 (b : Int), .int .i64 i, .int .i64 n, .int .u64 wd, .int .i64 p0, .int .i64 p1]] w (StepOk w0 c ex m S ⟨2, a, b, i, n, wd, p0, p1⟩) := by
  have HM : Hid (S.md = stepM S.md ⟨2, a, b, i, n, wd, p0, p1⟩ true) := Lib.hid (by
    rw [stepM_1 (Ac.on ha hb _ _ _ _ _ _) (by simp)]
    simp only
    rw [md_at S a HKA.out, if_pos (.inl hn)])
  have fin : Hid (∀ w', YAt w0 w' c (A) S ex → StepOk w0 c ex m S ⟨2, a, b, i, n, wd, p0, p1⟩ (.returned (.bool true)) w') := Lib.hid (fun w' h => ⟨true, _, _, G, K, D, rfl, h, hI, HM.out⟩)
  have HY := Lib.hid hY
  have CO := Lib.hid (fun w' (hF : Fr [] w w') => yobject_k (hY.keep hF) a ha ka HKA.out)
  have CB := Lib.hid (fun w' (hF : Fr [] w w') => yobject_k (hY.keep hF) b hb kb HKB.out)
  obtain ⟨mg, mcap, hmv, _, _, _, _⟩ := hY.mrow
  have HMV := Lib.hid hmv
  clear hY hI hmv
  have ha0 : (0 : Int) ≤ (a : Int) := by omega
  have ha8 : (a : Int) < 8 := by omega
  have hb0 : (0 : Int) ≤ (b : Int) := by omega
  have hb8 : (b : Int) < 8 := by omega
  go_enter Try.func40, Try.ntmps40
  go_wp2_with fail
  refine (CO.out _ ((Fr.refl _ _).alloc _)).mono ?_
  rintro e w' ⟨rfl, rfl⟩
  have F1 : Fr [] w (w.alloc (.cells #[.int .i64 2, .int .i64 (a : Int), .int .i64 (b : Int), .int .i64 i, .int .i64 n, .int .u64 wd, .int .i64 p0, .int .i64 p1] 80)) := (Fr.refl [] w).alloc _
  have Y1 := Lib.hid (HY.out.keep F1)
  have B1 := Lib.hid (show blk (w.alloc (.cells #[.int .i64 2, .int .i64 (a : Int), .int .i64 (b : Int), .int .i64 i, .int .i64 n, .int .u64 wd, .int .i64 p0, .int .i64 p1] 80)) w.heap.size = some (.cells #[.int .i64 2, .int .i64 (a : Int), .int .i64 (b : Int), .int .i64 i, .int .i64 n, .int .u64 wd, .int .i64 p0, .int .i64 p1] 80 (0, 0)) by rw [blk_alloc, if_pos rfl])
  have NB := Lib.hid (HY.out.lt_all)
  have NY := Lib.hid HY.out.ny
  have HTOP := Lib.hid HY.out.all_lt
  have FD := Lib.hid (fun (j : Nat) (o : Mo) (ho : S.objs[j]? = some o) (x : Nat) (hx : o.v.ownBlock = some x) => HY.out.nfd ho hx)
  have CB1 := Lib.hid (fun w' (hF : Fr [] (w.alloc (.cells #[.int .i64 2, .int .i64 (a : Int), .int .i64 (b : Int), .int .i64 i, .int .i64 n, .int .u64 wd, .int .i64 p0, .int .i64 p1] 80)) w') => yobject_k (Y1.out.keep hF) b hb kb HKB.out)
  generalize w.alloc (.cells #[.int .i64 2, .int .i64 (a : Int), .int .i64 (b : Int), .int .i64 i, .int .i64 n, .int .u64 wd, .int .i64 p0, .int .i64 p1] 80) = w1 at *
  generalize w.heap.size = bx at *
  have hnb : bx ≠ S.rb := by have := NB.out.2.1; omega
  have hny : c.y ≠ S.rb := NY.out.1
  have hnc : bx ≠ c.y := by have := NB.out.1; omega
  have hn3 : bx ∉ [c.b, c.wb, c.lb] := Yk.three (fun hm => by have := HTOP.out bx hm; omega)
  have hy3 : c.y ∉ [c.b, c.wb, c.lb] := HY.out.yne.1
  have hr3 : S.rb ∉ [c.b, c.wb, c.lb] := HY.out.nall (rowsY_r S ex) rfl rfl
  have hmo : S.mv.ownBlock = some mg := by rw [HMV.out]; rfl
  have hnm : bx ≠ mg := by have := NB.out.2.2.1 mg hmo; omega
  have hym : c.y ≠ mg := NY.out.2.1 mg hmo
  clear hmo
  have k0 := cell_of B1.out (i := 0) rfl
  go_wp2_with fail
  clear k0
  have hq1 : decide (ka < 0) = true := by simpa using hn
  go_wp2_with fail
  go_quiet (fail)
  go_wp2
  go_ret
  refine fin.out _ (Y1.out.keep ?_)
  repeat (first | exact Fr.refl _ _ | apply Fr.drewN | apply Fr.drew)
set_option maxRecDepth 100000 in
set_option maxHeartbeats 8000000 in
theorem step_2i (hY : YAt w0 w c A S ex) (hI : YI m A S G K D) (a b : Nat) (ha : a < 8) (hb : b < 8) (i : Int) (n wd p0 p1 : Int) (ka kb : Int) (HKA : Hid (ka = (S.mr[a]?.getD ⟨0, -1⟩).k)) (HKB : Hid (kb = (S.mr[b]?.getD ⟨0, -1⟩).k)) (hn : 0 ≤ ka) (hi : i < 0) :
    Calls Try.prog 40 #[.pointer (some ⟨c.y, 0, none⟩), .agg #[.int .i64 2, .int .i64 (a : Int), .int .i64 (b : Int), .int .i64 i, .int .i64 n, .int .u64 wd, .int .i64 p0, .int .i64 p1]] w (StepOk w0 c ex m S ⟨2, a, b, i, n, wd, p0, p1⟩) := by
  have HM : Hid (S.md = stepM S.md ⟨2, a, b, i, n, wd, p0, p1⟩ true) := Lib.hid (by
    rw [stepM_1 (Ac.on ha hb _ _ _ _ _ _) (by simp)]
    simp only
    rw [md_at S a HKA.out, if_pos (.inr (.inl hi))])
  have fin : Hid (∀ w', YAt w0 w' c (A) S ex → StepOk w0 c ex m S ⟨2, a, b, i, n, wd, p0, p1⟩ (.returned (.bool true)) w') := Lib.hid (fun w' h => ⟨true, _, _, G, K, D, rfl, h, hI, HM.out⟩)
  have HY := Lib.hid hY
  have CO := Lib.hid (fun w' (hF : Fr [] w w') => yobject_k (hY.keep hF) a ha ka HKA.out)
  have CB := Lib.hid (fun w' (hF : Fr [] w w') => yobject_k (hY.keep hF) b hb kb HKB.out)
  obtain ⟨mg, mcap, hmv, _, _, _, _⟩ := hY.mrow
  have HMV := Lib.hid hmv
  clear hY hI hmv
  have ha0 : (0 : Int) ≤ (a : Int) := by omega
  have ha8 : (a : Int) < 8 := by omega
  have hb0 : (0 : Int) ≤ (b : Int) := by omega
  have hb8 : (b : Int) < 8 := by omega
  go_enter Try.func40, Try.ntmps40
  go_wp2_with fail
  refine (CO.out _ ((Fr.refl _ _).alloc _)).mono ?_
  rintro e w' ⟨rfl, rfl⟩
  have F1 : Fr [] w (w.alloc (.cells #[.int .i64 2, .int .i64 (a : Int), .int .i64 (b : Int), .int .i64 i, .int .i64 n, .int .u64 wd, .int .i64 p0, .int .i64 p1] 80)) := (Fr.refl [] w).alloc _
  have Y1 := Lib.hid (HY.out.keep F1)
  have B1 := Lib.hid (show blk (w.alloc (.cells #[.int .i64 2, .int .i64 (a : Int), .int .i64 (b : Int), .int .i64 i, .int .i64 n, .int .u64 wd, .int .i64 p0, .int .i64 p1] 80)) w.heap.size = some (.cells #[.int .i64 2, .int .i64 (a : Int), .int .i64 (b : Int), .int .i64 i, .int .i64 n, .int .u64 wd, .int .i64 p0, .int .i64 p1] 80 (0, 0)) by rw [blk_alloc, if_pos rfl])
  have NB := Lib.hid (HY.out.lt_all)
  have NY := Lib.hid HY.out.ny
  have HTOP := Lib.hid HY.out.all_lt
  have FD := Lib.hid (fun (j : Nat) (o : Mo) (ho : S.objs[j]? = some o) (x : Nat) (hx : o.v.ownBlock = some x) => HY.out.nfd ho hx)
  have CB1 := Lib.hid (fun w' (hF : Fr [] (w.alloc (.cells #[.int .i64 2, .int .i64 (a : Int), .int .i64 (b : Int), .int .i64 i, .int .i64 n, .int .u64 wd, .int .i64 p0, .int .i64 p1] 80)) w') => yobject_k (Y1.out.keep hF) b hb kb HKB.out)
  generalize w.alloc (.cells #[.int .i64 2, .int .i64 (a : Int), .int .i64 (b : Int), .int .i64 i, .int .i64 n, .int .u64 wd, .int .i64 p0, .int .i64 p1] 80) = w1 at *
  generalize w.heap.size = bx at *
  have hnb : bx ≠ S.rb := by have := NB.out.2.1; omega
  have hny : c.y ≠ S.rb := NY.out.1
  have hnc : bx ≠ c.y := by have := NB.out.1; omega
  have hn3 : bx ∉ [c.b, c.wb, c.lb] := Yk.three (fun hm => by have := HTOP.out bx hm; omega)
  have hy3 : c.y ∉ [c.b, c.wb, c.lb] := HY.out.yne.1
  have hr3 : S.rb ∉ [c.b, c.wb, c.lb] := HY.out.nall (rowsY_r S ex) rfl rfl
  have hmo : S.mv.ownBlock = some mg := by rw [HMV.out]; rfl
  have hnm : bx ≠ mg := by have := NB.out.2.2.1 mg hmo; omega
  have hym : c.y ≠ mg := NY.out.2.1 mg hmo
  clear hmo
  have k0 := cell_of B1.out (i := 0) rfl
  go_wp2_with fail
  clear k0
  have hq : ¬ ka < 0 := by omega
  have hq1 : decide (ka < 0) = false := by simpa using hq
  have hi1 : decide (i < 0) = true := by simpa using hi
  have k3 := cell_of B1.out (i := 3) rfl
  go_wp2_with fail
  go_quiet (fail)
  go_wp2
  go_ret
  refine fin.out _ (Y1.out.keep ?_)
  repeat (first | exact Fr.refl _ _ | apply Fr.drewN | apply Fr.drew)
set_option maxRecDepth 100000 in
set_option maxHeartbeats 8000000 in
theorem step_2l (hY : YAt w0 w c A S ex) (hI : YI m A S G K D) (a b : Nat) (ha : a < 8) (hb : b < 8) (q : Nat) (n wd p0 p1 kb : Int) (p : Nat)  (HKA : Hid ((p : Int) = (S.mr[a]?.getD ⟨0, -1⟩).k)) (HKB : Hid (kb = (S.mr[b]?.getD ⟨0, -1⟩).k)) (hq : ∀ x, S.objs[p]? = some x → x.fs.length ≤ q) :
    Calls Try.prog 40 #[.pointer (some ⟨c.y, 0, none⟩), .agg #[.int .i64 2, .int .i64 (a : Int), .int .i64 (b : Int), .int .i64 (q : Int), .int .i64 n, .int .u64 wd, .int .i64 p0, .int .i64 p1]] w (StepOk w0 c ex m S ⟨2, a, b, (q : Int), n, wd, p0, p1⟩) := by
  obtain ⟨o, x, pn, hD, hx, hpp, hob, hroot⟩ := hI.rootObj ha HKA.out
  have hcnt := hI.cnt hD hx hob
  have hxb := hI.mb.f x (List.mem_of_getElem? hx)
  obtain ⟨n0, hn0⟩ : ∃ n0, n0 = S.objs.length := ⟨_, rfl⟩
  have hpn : p < n0 := by rw [hn0]; exact lt_some hx
  have hn1 : n0 ≤ 1000 := by rw [hn0]; exact hI.mb.n
  obtain ⟨og, ocap, hov, hoc, hoo, _, _⟩ := hY.orow (by omega)
  rw [← hn0] at hov hoc
  have HN0 := Lib.hid hn0
  have HOV := Lib.hid hov
  have HX := Lib.hid hx
  have HD := Lib.hid hD
  have HPP := Lib.hid hpp
  have HROOT := Lib.hid hroot
  have HOB := Lib.hid hob
  have HXB := Lib.hid hxb
  have HXL := Lib.hid hob.l
  have hxl := hxb.1
  have hxf := hob.l
  obtain ⟨cn, hcn⟩ : ∃ cn : Nat, cntM x.kind x.fs = cn := ⟨cntO o, hcnt⟩
  have hcb := cntM_b x.kind x.fs (fun f hf => (hxb.2 f hf).1.1)
  have CC := Lib.hid (fun wz (hF : Fr [] w wz) => counted_m wz x.kind x.v x.fs ((hY.keep hF).fds hx) (by omega) (fun f hf => (hxb.2 f hf).1))
  rw [hcn] at CC hcb
  have HCN := Lib.hid hcn
  have HCO := Lib.hid (show cn = cntO o by omega)
  have HPW := Lib.hid (hI.hg.pwb hD)
  have OKA := Lib.hid hI.hg.inv.ok
  have WDA := Lib.hid hI.hg.wd
  have HI := Lib.hid hI
  have hql := hq x hx
  obtain ⟨fa, fcap, hfv, _⟩ := hY.fform hx
  obtain ⟨fn, hfn⟩ : ∃ fn, fn = x.fs.length := ⟨_, rfl⟩
  rw [← hfn] at hfv hql
  have HFV := Lib.hid hfv
  have HM : Hid (S.md = stepM S.md ⟨2, a, b, (q : Int), n, wd, p0, p1⟩ true) := Lib.hid (by
    rw [stepM_1 (Ac.on ha hb _ _ _ _ _ _) (by simp)]
    simp only
    rw [md_at S a HKA.out, (md_kd hx).2, if_pos (.inr (.inr (by omega)))])
  clear hq hfv hfn
  have fin : Hid (∀ w', YAt w0 w' c (A) S ex → StepOk w0 c ex m S ⟨2, a, b, (q : Int), n, wd, p0, p1⟩ (.returned (.bool true)) w') := Lib.hid (fun w' h => ⟨true, _, _, G, K, D, rfl, h, HI.out, HM.out⟩)
  clear hD hx hpp hob hroot hxb hcn hcnt hn0 hov hoo hxf
  have HY := Lib.hid hY
  have CO := Lib.hid (fun w' (hF : Fr [] w w') => yobject_k (hY.keep hF) a ha (p) HKA.out)
  have CB := Lib.hid (fun w' (hF : Fr [] w w') => yobject_k (hY.keep hF) b hb (kb) HKB.out)
  obtain ⟨mg, mcap, hmv, _, _, _, _⟩ := hY.mrow
  have HMV := Lib.hid hmv
  clear hY hI hmv
  have ha0 : (0 : Int) ≤ (a : Int) := by omega
  have ha8 : (a : Int) < 8 := by omega
  have hb0 : (0 : Int) ≤ (b : Int) := by omega
  have hb8 : (b : Int) < 8 := by omega
  go_enter Try.func40, Try.ntmps40
  go_wp2_with fail
  refine (CO.out _ ((Fr.refl _ _).alloc _)).mono ?_
  rintro e w' ⟨rfl, rfl⟩
  have F1 : Fr [] w (w.alloc (.cells #[.int .i64 2, .int .i64 (a : Int), .int .i64 (b : Int), .int .i64 (q : Int), .int .i64 n, .int .u64 wd, .int .i64 p0, .int .i64 p1] 80)) := (Fr.refl [] w).alloc _
  have Y1 := Lib.hid (HY.out.keep F1)
  have B1 := Lib.hid (show blk (w.alloc (.cells #[.int .i64 2, .int .i64 (a : Int), .int .i64 (b : Int), .int .i64 (q : Int), .int .i64 n, .int .u64 wd, .int .i64 p0, .int .i64 p1] 80)) w.heap.size = some (.cells #[.int .i64 2, .int .i64 (a : Int), .int .i64 (b : Int), .int .i64 (q : Int), .int .i64 n, .int .u64 wd, .int .i64 p0, .int .i64 p1] 80 (0, 0)) by rw [blk_alloc, if_pos rfl])
  have NB := Lib.hid (HY.out.lt_all)
  have NY := Lib.hid HY.out.ny
  have HTOP := Lib.hid HY.out.all_lt
  have FD := Lib.hid (fun (j : Nat) (o : Mo) (ho : S.objs[j]? = some o) (x : Nat) (hx : o.v.ownBlock = some x) => HY.out.nfd ho hx)
  have CB1 := Lib.hid (fun w' (hF : Fr [] (w.alloc (.cells #[.int .i64 2, .int .i64 (a : Int), .int .i64 (b : Int), .int .i64 (q : Int), .int .i64 n, .int .u64 wd, .int .i64 p0, .int .i64 p1] 80)) w') => yobject_k (Y1.out.keep hF) b hb (kb) HKB.out)
  generalize w.alloc (.cells #[.int .i64 2, .int .i64 (a : Int), .int .i64 (b : Int), .int .i64 (q : Int), .int .i64 n, .int .u64 wd, .int .i64 p0, .int .i64 p1] 80) = w1 at *
  generalize w.heap.size = bx at *
  have hnb : bx ≠ S.rb := by have := NB.out.2.1; omega
  have hny : c.y ≠ S.rb := NY.out.1
  have hnc : bx ≠ c.y := by have := NB.out.1; omega
  have hn3 : bx ∉ [c.b, c.wb, c.lb] := Yk.three (fun hm => by have := HTOP.out bx hm; omega)
  have hy3 : c.y ∉ [c.b, c.wb, c.lb] := HY.out.yne.1
  have hr3 : S.rb ∉ [c.b, c.wb, c.lb] := HY.out.nall (rowsY_r S ex) rfl rfl
  have hmo : S.mv.ownBlock = some mg := by rw [HMV.out]; rfl
  have hnm : bx ≠ mg := by have := NB.out.2.2.1 mg hmo; omega
  have hym : c.y ≠ mg := NY.out.2.1 mg hmo
  clear hmo
  have k0 := cell_of B1.out (i := 0) rfl
  go_wp2_with fail
  clear k0
  have k3 := cell_of B1.out (i := 3) rfl
  have y2 : w1.cell? ⟨c.y, 2, none⟩ = some S.ov := Y1.out.y2
  rw [HOV.out] at y2
  obtain ⟨hoc1, _, ok1⟩ := Y1.out.ofz HOV.out HN0.out (by omega)
  obtain ⟨o0, o1⟩ := ok1 p x HX.out
  clear ok1
  rw [HFV.out] at o1
  have hq1 : decide ((p : Int) < 0) = false := by simp
  have hq2 : decide ((q : Int) < 0) = false := by simp
  have hq3 : decide (fn ≤ q) = true := by simpa using hql
  clear o0
  go_wp2_with fail
  go_quiet (fail)
  go_wp2
  go_ret
  refine fin.out _ (Y1.out.keep ?_)
  repeat (first | exact Fr.refl _ _ | apply Fr.drewN | apply Fr.drew)
set_option maxRecDepth 100000 in
set_option maxHeartbeats 8000000 in
theorem step_1ry (hY : YAt w0 w c A S ex) (hI : YI m A S G K D) (a b : Nat) (ha : a < 8) (hb : b < 8) (q : Nat) (n wd p0 p1 kb : Int) (p : Nat)  (HKA : Hid ((p : Int) = (S.mr[a]?.getD ⟨0, -1⟩).k)) (HKB : Hid (kb = (S.mr[b]?.getD ⟨0, -1⟩).k)) (HWD : Hid (Wd64 wd)) (hq : ∀ x, S.objs[p]? = some x → q < x.fs.length) (h16 : ∀ x, S.objs[p]? = some x → x.kind < 16) (hst : ∀ x, S.objs[p]? = some x → ¬ (x.kind = 15 ∧ q = 1)) :
    Calls Try.prog 40 #[.pointer (some ⟨c.y, 0, none⟩), .agg #[.int .i64 1, .int .i64 (a : Int), .int .i64 (b : Int), .int .i64 (q : Int), .int .i64 n, .int .u64 wd, .int .i64 p0, .int .i64 p1]] w (StepOk w0 c ex m S ⟨1, a, b, (q : Int), n, wd, p0, p1⟩) := by
  obtain ⟨o, x, pn, hD, hx, hpp, hob, hroot⟩ := hI.rootObj ha HKA.out
  have hcnt := hI.cnt hD hx hob
  have hxb := hI.mb.f x (List.mem_of_getElem? hx)
  obtain ⟨n0, hn0⟩ : ∃ n0, n0 = S.objs.length := ⟨_, rfl⟩
  have hpn : p < n0 := by rw [hn0]; exact lt_some hx
  have hn1 : n0 ≤ 1000 := by rw [hn0]; exact hI.mb.n
  obtain ⟨og, ocap, hov, hoc, hoo, _, _⟩ := hY.orow (by omega)
  rw [← hn0] at hov hoc
  have HN0 := Lib.hid hn0
  have HOV := Lib.hid hov
  have HX := Lib.hid hx
  have HD := Lib.hid hD
  have HPP := Lib.hid hpp
  have HROOT := Lib.hid hroot
  have HOB := Lib.hid hob
  have HXB := Lib.hid hxb
  have HXL := Lib.hid hob.l
  have hxl := hxb.1
  have hxf := hob.l
  obtain ⟨cn, hcn⟩ : ∃ cn : Nat, cntM x.kind x.fs = cn := ⟨cntO o, hcnt⟩
  have hcb := cntM_b x.kind x.fs (fun f hf => (hxb.2 f hf).1.1)
  have CC := Lib.hid (fun wz (hF : Fr [] w wz) => counted_m wz x.kind x.v x.fs ((hY.keep hF).fds hx) (by omega) (fun f hf => (hxb.2 f hf).1))
  rw [hcn] at CC hcb
  have HCN := Lib.hid hcn
  have HCO := Lib.hid (show cn = cntO o by omega)
  have HPW := Lib.hid (hI.hg.pwb hD)
  have OKA := Lib.hid hI.hg.inv.ok
  have WDA := Lib.hid hI.hg.wd
  have HI := Lib.hid hI
  have hql := hq x hx
  have hstx := hst x hx
  have STX := Lib.hid hstx
  have h16x := h16 x hx
  obtain ⟨⟨fw, fk⟩, hfb, hfw⟩ := hI.rt b hb
  obtain ⟨v, hv⟩ : ∃ v, v = S.roots[b]?.getD 0 := ⟨_, rfl⟩
  rw [← hv] at hfw
  have HV := Lib.hid hv
  have HFB := Lib.hid hfb
  have hww : Wd64 fw := hI.mw _ (List.mem_of_getElem? hfb)
  have HFD : Hid (S.md.fd ⟨1, a, b, (q : Int), n, wd, p0, p1⟩ = ⟨fw, fk⟩) := Lib.hid (by
    unfold Md.fd
    simp only
    rw [md_at S a HKA.out, (md_kd hx).1, if_pos ⟨by simp, h16x⟩, Int.toNat_natCast]
    show S.mr[b]?.getD _ = _
    rw [hfb]; rfl)
  have hraw : 16 ≤ x.kind → (⟨fw, fk⟩ : Fd).k = -1 := fun h => by omega
  have hvw := hfw.w hI.hg hww
  have HVW := Lib.hid hvw
  obtain ⟨fg, fcap, hfv, _, hfo, _, _⟩ := hY.frow hx (by omega)
  obtain ⟨fn, hfn⟩ : ∃ fn, fn = x.fs.length := ⟨_, rfl⟩
  rw [← hfn] at hfv hql
  have HFN := Lib.hid hfn
  have HFV := Lib.hid hfv
  have hfl := hob.l
  have ST := Lib.hid (hI.setF hD hx (i := q) (by omega) hstx hfw hww hraw)
  have SE : Hid ((setF A m (pw o.a) (q : Int) v).2 = 0) := Lib.hid ST.out.1
  have HM : Hid (({ S with objs := S.objs.set p { x with fs := x.fs.set q ⟨fw, fk⟩ } } : Ys).md = stepM S.md ⟨1, a, b, (q : Int), n, wd, p0, p1⟩ true) := Lib.hid (by
    rw [stepM_1 (Ac.on ha hb _ _ _ _ _ _) (by simp)]
    simp only
    rw [md_at S a HKA.out, (md_kd hx).2, if_neg (by omega), HFD.out]
    unfold Md.setFd
    simp only
    rw [md_at S a HKA.out, (md_kd hx).1, (md_kd hx).2, if_neg (by omega), Int.toNat_natCast, Int.toNat_natCast]
    unfold Ys.md
    simp only [List.map_set])
  have hfn2 : fn ≤ 240 := by omega
  clear hq hst hfv hfn hfo hfl hfw hww hvw hraw hstx
  clear hv
  clear h16 hfb
  have fin : Hid (∀ w', YAt w0 w' c ((setF A m (pw o.a) (q : Int) v).1) { S with objs := S.objs.set p { x with fs := x.fs.set q ⟨fw, fk⟩ } } ex → StepOk w0 c ex m S ⟨1, a, b, (q : Int), n, wd, p0, p1⟩ (.returned (.bool true)) w') := Lib.hid (fun w' h => ⟨true, _, _, G, K, _, rfl, h, ST.out.2, HM.out⟩)
  clear hD hx hpp hob hroot hxb hcn hcnt hn0 hov hoo hxf
  have HY := Lib.hid hY
  have CO := Lib.hid (fun w' (hF : Fr [] w w') => yobject_k (hY.keep hF) a ha (p) HKA.out)
  have CB := Lib.hid (fun w' (hF : Fr [] w w') => yobject_k (hY.keep hF) b hb (kb) HKB.out)
  obtain ⟨mg, mcap, hmv, _, _, _, _⟩ := hY.mrow
  have HMV := Lib.hid hmv
  clear hY hI hmv
  have ha0 : (0 : Int) ≤ (a : Int) := by omega
  have ha8 : (a : Int) < 8 := by omega
  have hb0 : (0 : Int) ≤ (b : Int) := by omega
  have hb8 : (b : Int) < 8 := by omega
  go_enter Try.func40, Try.ntmps40
  go_wp2_with fail
  refine (CO.out _ ((Fr.refl _ _).alloc _)).mono ?_
  rintro e w' ⟨rfl, rfl⟩
  have F1 : Fr [] w (w.alloc (.cells #[.int .i64 1, .int .i64 (a : Int), .int .i64 (b : Int), .int .i64 (q : Int), .int .i64 n, .int .u64 wd, .int .i64 p0, .int .i64 p1] 80)) := (Fr.refl [] w).alloc _
  have Y1 := Lib.hid (HY.out.keep F1)
  have B1 := Lib.hid (show blk (w.alloc (.cells #[.int .i64 1, .int .i64 (a : Int), .int .i64 (b : Int), .int .i64 (q : Int), .int .i64 n, .int .u64 wd, .int .i64 p0, .int .i64 p1] 80)) w.heap.size = some (.cells #[.int .i64 1, .int .i64 (a : Int), .int .i64 (b : Int), .int .i64 (q : Int), .int .i64 n, .int .u64 wd, .int .i64 p0, .int .i64 p1] 80 (0, 0)) by rw [blk_alloc, if_pos rfl])
  have NB := Lib.hid (HY.out.lt_all)
  have NY := Lib.hid HY.out.ny
  have HTOP := Lib.hid HY.out.all_lt
  have FD := Lib.hid (fun (j : Nat) (o : Mo) (ho : S.objs[j]? = some o) (x : Nat) (hx : o.v.ownBlock = some x) => HY.out.nfd ho hx)
  have CB1 := Lib.hid (fun w' (hF : Fr [] (w.alloc (.cells #[.int .i64 1, .int .i64 (a : Int), .int .i64 (b : Int), .int .i64 (q : Int), .int .i64 n, .int .u64 wd, .int .i64 p0, .int .i64 p1] 80)) w') => yobject_k (Y1.out.keep hF) b hb (kb) HKB.out)
  generalize w.alloc (.cells #[.int .i64 1, .int .i64 (a : Int), .int .i64 (b : Int), .int .i64 (q : Int), .int .i64 n, .int .u64 wd, .int .i64 p0, .int .i64 p1] 80) = w1 at *
  generalize w.heap.size = bx at *
  have hnb : bx ≠ S.rb := by have := NB.out.2.1; omega
  have hny : c.y ≠ S.rb := NY.out.1
  have hnc : bx ≠ c.y := by have := NB.out.1; omega
  have hn3 : bx ∉ [c.b, c.wb, c.lb] := Yk.three (fun hm => by have := HTOP.out bx hm; omega)
  have hy3 : c.y ∉ [c.b, c.wb, c.lb] := HY.out.yne.1
  have hr3 : S.rb ∉ [c.b, c.wb, c.lb] := HY.out.nall (rowsY_r S ex) rfl rfl
  have hmo : S.mv.ownBlock = some mg := by rw [HMV.out]; rfl
  have hnm : bx ≠ mg := by have := NB.out.2.2.1 mg hmo; omega
  have hym : c.y ≠ mg := NY.out.2.1 mg hmo
  clear hmo
  have k0 := cell_of B1.out (i := 0) rfl
  go_wp2_with fail
  clear k0
  have k3 := cell_of B1.out (i := 3) rfl
  have y2 : w1.cell? ⟨c.y, 2, none⟩ = some S.ov := Y1.out.y2
  rw [HOV.out] at y2
  obtain ⟨hoc1, _, ok1⟩ := Y1.out.ofz HOV.out HN0.out (by omega)
  obtain ⟨o0, o1⟩ := ok1 p x HX.out
  clear ok1
  rw [HFV.out] at o1
  have hc1 : decide ((p : Int) < 0) = false := by simp
  have hc2 : decide ((q : Int) < 0) = false := by simp
  have hc3 : decide (fn ≤ q) = false := by simpa using hql
  clear o0
  go_wp2_with fail
  have KC : Hid (∀ wz, Fr [] w1 wz → wz.cell? ⟨c.y, 2, none⟩ = some (.slice (some ⟨og, 0, none⟩) n0 ocap) ∧ wz.cell? ⟨bx, 3, none⟩ = some (.int .i64 (q : Int)) ∧ wz.cell? ⟨og, p * 2 + 1, none⟩ = some (.slice (some ⟨fg, 0, none⟩) fn fcap)) := Lib.hid (fun wz hF => ⟨cell_fr y2 hF (by simp), cell_fr k3 hF (by simp), cell_fr o1 hF (by simp)⟩)
  go_region_held3 (fun W => W.cell? ⟨c.y, 2, none⟩ = some (.slice (some ⟨og, 0, none⟩) n0 ocap) ∧ W.cell? ⟨bx, 3, none⟩ = some (.int .i64 (q : Int)) ∧ W.cell? ⟨og, p * 2 + 1, none⟩ = some (.slice (some ⟨fg, 0, none⟩) fn fcap)) (with_reducible first | assumption | exact KC.out _ (by assumption) | exact KC.out _ (Fr.refl _ _).drew | exact KC.out _ (((Fr.refl _ _).setCell (by simp) _).drew) | exact KC.out _ ((((Fr.refl _ _).setCell (by simp) _).setCell (by simp) _).drew) | exact KC.out _ (Fr.refl _ _)) (fail)
  have Y2 := Lib.hid (Y1.out.keep (Fr.refl [] _).drew)
  have B2 := Lib.hid ((Fr.refl [] w1).drew.at B1.out (by simp))
  clear hc1 hc2 hc3 KC y2 o1 k3 Y1 B1
  generalize w1.drew = w2 at *
  have k0 := cell_of B2.out (i := 0) rfl
  have k5 := cell_of B2.out (i := 5) rfl
  have LW := Lib.hid Y2.out.lt_all
  have hbl2 : bx < w2.heap.size := lt_size B2.out
  have hyl2 : c.y < w2.heap.size := LW.out.1
  have hol2 : og < w2.heap.size := LW.out.2.2.2.1 og (by show S.ov.ownBlock = _; rw [HOV.out]; rfl)
  have hgl2 : fg < w2.heap.size := (Y2.out.nfd HX.out (by rw [HFV.out]; rfl)).1
  have hrl2 : S.rb < w2.heap.size := LW.out.2.1
  have hml2 : mg < w2.heap.size := LW.out.2.2.1 mg (by show S.mv.ownBlock = _; rw [HMV.out]; rfl)
  have hyn2 : c.y ≠ w2.heap.size := by omega
  have hon2 : og ≠ w2.heap.size := by omega
  have hbn2 : bx ≠ w2.heap.size := by omega
  have y2 : w2.cell? ⟨c.y, 2, none⟩ = some S.ov := Y2.out.y2
  rw [HOV.out] at y2
  obtain ⟨hoc2, _, ok2⟩ := Y2.out.ofz HOV.out HN0.out (by omega)
  obtain ⟨o0, o1⟩ := ok2 p x HX.out
  clear ok2
  rw [HFV.out] at o1
  go_wp2_with fail
  refine (ysmall_c _ wd HWD.out.1 HWD.out.2).mono ?_
  rintro e w' ⟨rfl, rfl⟩
  go_wp2_with fail
  clear k0 k5 y2 o0 o1
  have F3 : Fr [] w2 (w2.alloc (.cells #[.int .u64 (smallW wd), .int .i64 (-1)] 139)) := (Fr.refl [] w2).alloc _
  have FB3 := Lib.hid (show blk (w2.alloc (.cells #[.int .u64 (smallW wd), .int .i64 (-1)] 139)) w2.heap.size = some (.cells #[.int .u64 (smallW wd), .int .i64 (-1)] 139 (0, 0)) by rw [blk_alloc, if_pos rfl])
  have B3 := Lib.hid (F3.at B2.out (by simp))
  generalize w2.alloc (.cells #[.int .u64 (smallW wd), .int .i64 (-1)] 139) = w3 at *
  have hfz : w2.heap.size ≤ w2.heap.size := Nat.le_refl _
  have F3 := Lib.hid F3
  have hfbn : w2.heap.size ≠ mg := by omega
  have Y3 := Lib.hid (Y2.out.keep F3.out)
  have y3 : w3.cell? ⟨c.y, 3, none⟩ = some S.mv := Y3.out.y3
  rw [HMV.out] at y3
  obtain ⟨hm8, _, mk⟩ := Y3.out.mfz HMV.out
  obtain ⟨m0, m1⟩ := mk b _ HFB.out
  simp only at m0 m1
  have k2 := cell_of B3.out (i := 2) rfl
  have q0 := cell_of FB3.out (i := 0) rfl
  have q1 := cell_of FB3.out (i := 1) rfl
  have qf : ∀ i, w3.frozen? ⟨w2.heap.size, i, none⟩ = false := fun i => free_of FB3.out
  have hmfb : mg ≠ w2.heap.size := by omega
  clear mk
  have KC : Hid (∀ wz, Fr [w2.heap.size] w3 wz → wz.cell? ⟨c.y, 3, none⟩ = some (.slice (some ⟨mg, 0, none⟩) 8 mcap) ∧ wz.cell? ⟨bx, 2, none⟩ = some (.int .i64 (b : Int)) ∧ wz.cell? ⟨mg, b * 2, none⟩ = some (.int .u64 fw) ∧ wz.cell? ⟨mg, b * 2 + 1, none⟩ = some (.int .i64 fk)) := Lib.hid (fun wz hF => ⟨cell_fr y3 hF (by simpa using hyn2), cell_fr k2 hF (by simpa using hbn2), cell_fr m0 hF (by simpa using hmfb), cell_fr m1 hF (by simpa using hmfb)⟩)
  go_region_held3 (fun W => W.cell? ⟨c.y, 3, none⟩ = some (.slice (some ⟨mg, 0, none⟩) 8 mcap) ∧ W.cell? ⟨bx, 2, none⟩ = some (.int .i64 (b : Int)) ∧ W.cell? ⟨mg, b * 2, none⟩ = some (.int .u64 fw) ∧ W.cell? ⟨mg, b * 2 + 1, none⟩ = some (.int .i64 fk)) (with_reducible first | assumption | exact KC.out _ (by assumption) | exact KC.out _ (Fr.refl _ _).drew | exact KC.out _ (((Fr.refl _ _).setCell (by simp) _).drew) | exact KC.out _ ((((Fr.refl _ _).setCell (by simp) _).setCell (by simp) _).drew) | exact KC.out _ (Fr.refl _ _)) (fail)
  have F4 := Lib.hid (show Fr [] w2 (((w3.setCell ⟨w2.heap.size, 0, none⟩ (.int .u64 fw)).setCell ⟨w2.heap.size, 1, none⟩ (.int .i64 fk)).drew) from ((F3.out.setCell (.inr (Nat.le_refl _)) _).setCell (.inr (Nat.le_refl _)) _).drew)
  have FB4 := Lib.hid (show blk (((w3.setCell ⟨w2.heap.size, 0, none⟩ (.int .u64 fw)).setCell ⟨w2.heap.size, 1, none⟩ (.int .i64 fk)).drew) w2.heap.size = some (.cells #[.int .u64 fw, .int .i64 fk] 139 (0, 0)) by rw [blk_drew, blk_set, if_pos rfl, blk_set, if_pos rfl, FB3.out]; rfl)
  have B4 := Lib.hid (F4.out.at B2.out (by simp))
  have Y4 := Lib.hid (Y2.out.keep F4.out)
  clear KC y3 k2 m0 m1 q0 q1 qf hm8 Y3 B3 FB3 F3
  generalize ((w3.setCell ⟨w2.heap.size, 0, none⟩ (.int .u64 fw)).setCell ⟨w2.heap.size, 1, none⟩ (.int .i64 fk)).drew = w4 at *
  have y1 : w4.cell? ⟨c.y, 1, none⟩ = some (.slice (some ⟨S.rb, 0, none⟩) 8 8) := Y4.out.y1
  have k2 := cell_of B4.out (i := 2) rfl
  have r0 := (Y4.out.root hb).1
  rw [← HV.out] at r0
  go_wp2_with fail
  have KC : Hid (∀ wz, Fr [] w4 wz → wz.cell? ⟨c.y, 1, none⟩ = some (.slice (some ⟨S.rb, 0, none⟩) 8 8) ∧ wz.cell? ⟨bx, 2, none⟩ = some (.int .i64 (b : Int)) ∧ wz.cell? ⟨S.rb, b, none⟩ = some (.int .u64 v)) := Lib.hid (fun wz hF => ⟨cell_fr y1 hF (by simp), cell_fr k2 hF (by simp), cell_fr r0 hF (by simp)⟩)
  go_region_held3 (fun W => W.cell? ⟨c.y, 1, none⟩ = some (.slice (some ⟨S.rb, 0, none⟩) 8 8) ∧ W.cell? ⟨bx, 2, none⟩ = some (.int .i64 (b : Int)) ∧ W.cell? ⟨S.rb, b, none⟩ = some (.int .u64 v)) (with_reducible first | assumption | exact KC.out _ (by assumption) | exact KC.out _ (Fr.refl _ _).drew | exact KC.out _ (((Fr.refl _ _).setCell (by simp) _).drew) | exact KC.out _ ((((Fr.refl _ _).setCell (by simp) _).setCell (by simp) _).drew) | exact KC.out _ (Fr.refl _ _)) (fail)
  have F5 := Lib.hid (F4.out.drew)
  have FB5 := Lib.hid ((Fr.refl [] w4).drew.at FB4.out (by simp))
  have B5 := Lib.hid (F5.out.at B2.out (by simp))
  have Y5 := Lib.hid (Y2.out.keep F5.out)
  clear KC y1 k2 r0 Y4 B4 FB4 F4 Y2
  generalize w4.drew = w5 at *
  have hgf : w2.heap.size ≠ fg := by omega
  clear hyn2 hon2 hbn2 hfz
  generalize w2.heap.size = fb at *
  have y2 : w5.cell? ⟨c.y, 2, none⟩ = some S.ov := Y5.out.y2
  rw [HOV.out] at y2
  obtain ⟨hoc5, _, ok5⟩ := Y5.out.ofz HOV.out HN0.out (by omega)
  obtain ⟨o0, o1⟩ := ok5 p x HX.out
  clear ok5
  rw [HFV.out] at o1
  obtain ⟨⟨fw', fk'⟩, hf'⟩ : ∃ f, x.fs[q]? = some f := ⟨x.fs[q]'(by have := HFN.out; omega), by rw [List.getElem?_eq_getElem]⟩
  obtain ⟨hfc, gf, gk⟩ := Y5.out.ffz HX.out HFV.out HFN.out (by omega)
  obtain ⟨g0, g1⟩ := gk q _ hf'
  simp only at g0 g1
  have k3 := cell_of B5.out (i := 3) rfl
  have q0 := cell_of FB5.out (i := 0) rfl
  have q1 := cell_of FB5.out (i := 1) rfl
  have hyg : c.y ≠ fg := (FD.out p x HX.out fg (by rw [HFV.out]; rfl)).2.1
  have hbg : bx ≠ fg := by have := (FD.out p x HX.out fg (by rw [HFV.out]; rfl)).1; omega
  have hog : og ≠ fg := HY.out.dis (rowsY_o S ex) (rowsY_f ex HX.out) (by omega) HOV.out.symm HFV.out.symm rfl rfl
  clear gk hf' o0
  go_wp2_with fail
  have KC : Hid (∀ wz, Fr [fg] w5 wz → wz.cell? ⟨c.y, 2, none⟩ = some (.slice (some ⟨og, 0, none⟩) n0 ocap) ∧ wz.cell? ⟨bx, 3, none⟩ = some (.int .i64 (q : Int)) ∧ wz.cell? ⟨og, p * 2 + 1, none⟩ = some (.slice (some ⟨fg, 0, none⟩) fn fcap) ∧ wz.cell? ⟨fb, 0, none⟩ = some (.int .u64 fw) ∧ wz.cell? ⟨fb, 1, none⟩ = some (.int .i64 fk)) := Lib.hid (fun wz hF => ⟨cell_fr y2 hF (by simpa using hyg), cell_fr k3 hF (by simpa using hbg), cell_fr o1 hF (by simpa using hog), cell_fr q0 hF (by simpa using hgf), cell_fr q1 hF (by simpa using hgf)⟩)
  go_region_held3 (fun W => W.cell? ⟨c.y, 2, none⟩ = some (.slice (some ⟨og, 0, none⟩) n0 ocap) ∧ W.cell? ⟨bx, 3, none⟩ = some (.int .i64 (q : Int)) ∧ W.cell? ⟨og, p * 2 + 1, none⟩ = some (.slice (some ⟨fg, 0, none⟩) fn fcap) ∧ W.cell? ⟨fb, 0, none⟩ = some (.int .u64 fw) ∧ W.cell? ⟨fb, 1, none⟩ = some (.int .i64 fk)) (with_reducible first | assumption | exact KC.out _ (by assumption) | exact KC.out _ (Fr.refl _ _).drew | exact KC.out _ (((Fr.refl _ _).setCell (by simp) _).drew) | exact KC.out _ ((((Fr.refl _ _).setCell (by simp) _).setCell (by simp) _).drew) | exact KC.out _ (Fr.refl _ _)) (fail)
  have Y6 := Lib.hid ((Y5.out.setF HX.out HFV.out HFN.out.symm hql ⟨fw, fk⟩).keep (Fr.refl [] _).drew)
  have B6 := Lib.hid (((((Fr.refl [fg] w5).setCell (by simp) _).setCell (by simp) _).drew).at (w' := ((w5.setCell ⟨fg, q * 2, none⟩ (.int .u64 fw)).setCell ⟨fg, q * 2 + 1, none⟩ (.int .i64 fk)).drew) B5.out (by simpa using hbg))
  try (simp only at Y6)
  clear KC y2 k3 o1 q0 q1 g0 g1 gf Y5 B5 FB5 F5
  generalize ((w5.setCell ⟨fg, q * 2, none⟩ (.int .u64 fw)).setCell ⟨fg, q * 2 + 1, none⟩ (.int .i64 fk)).drew = w6 at *
  have y0 : w6.cell? ⟨c.y, 0, none⟩ = _ := Y6.out.y0
  have y1 : w6.cell? ⟨c.y, 1, none⟩ = some (.slice (some ⟨S.rb, 0, none⟩) 8 8) := Y6.out.y1
  have k1 := cell_of B6.out (i := 1) rfl
  have k3 := cell_of B6.out (i := 3) rfl
  have r0 := (Y6.out.root ha).1
  simp only at r0
  rw [HROOT.out] at r0
  have CS := Lib.hid (fun wz (hF : Fr [] w6 wz) => oset_c wz (Y6.out.keep hF).he OKA.out WDA.out (pw o.a) (q : Int) v HPW.out.1 HPW.out.2 (by omega))
  rw [SE.out] at CS
  go_wp2_with fail
  have KC : Hid (∀ wz, Fr [c.b, c.wb, c.lb] w6 wz → wz.cell? ⟨c.y, 0, none⟩ = some (.pointer (some ⟨c.hb, 0, none⟩)) ∧ wz.cell? ⟨c.y, 1, none⟩ = some (.slice (some ⟨S.rb, 0, none⟩) 8 8) ∧ wz.cell? ⟨bx, 1, none⟩ = some (.int .i64 (a : Int)) ∧ wz.cell? ⟨bx, 3, none⟩ = some (.int .i64 (q : Int)) ∧ wz.cell? ⟨S.rb, a, none⟩ = some (.int .u64 (pw o.a))) := Lib.hid (fun wz hF => ⟨cell_fr y0 hF (by simpa using hy3), cell_fr y1 hF (by simpa using hy3), cell_fr k1 hF (by simpa using hn3), cell_fr k3 hF (by simpa using hn3), cell_fr r0 hF (by simpa using hr3)⟩)
  go_region_held3 (fun W => W.cell? ⟨c.y, 0, none⟩ = some (.pointer (some ⟨c.hb, 0, none⟩)) ∧ W.cell? ⟨c.y, 1, none⟩ = some (.slice (some ⟨S.rb, 0, none⟩) 8 8) ∧ W.cell? ⟨bx, 1, none⟩ = some (.int .i64 (a : Int)) ∧ W.cell? ⟨bx, 3, none⟩ = some (.int .i64 (q : Int)) ∧ W.cell? ⟨S.rb, a, none⟩ = some (.int .u64 (pw o.a))) (with_reducible first | assumption | exact KC.out _ (by assumption) | exact KC.out _ (Fr.refl _ _).drew | exact KC.out _ (((Fr.refl _ _).setCell (by simp) _).drew) | exact KC.out _ ((((Fr.refl _ _).setCell (by simp) _).setCell (by simp) _).drew) | exact KC.out _ (Fr.refl _ _)) (first | (go_at_call 19; refine (CS.out _ (by repeat (first | exact Fr.refl _ _ | assumption | apply Fr.drew))).mono ?_; rintro e w8 ⟨rfl, H8, F8⟩; have F9 : Fr [c.b, c.wb, c.lb] w6 w8 := Fr.pre (by repeat (first | exact Fr.refl _ _ | assumption | apply Fr.drew)) F8))
  have Y8 := Lib.hid (Y6.out.heap F9 H8)
  have B8 := Lib.hid (F9.at B6.out hn3)
  clear KC y0 y1 k1 k3 r0 CS Y6 B6 H8 F8 F9
  have y2 : w8.cell? ⟨c.y, 2, none⟩ = some S.ov := Y8.out.y2
  rw [HOV.out] at y2
  obtain ⟨hoc8, _, ok8⟩ := Y8.out.ofz (n := n0) (by simpa only using HOV.out) (by simpa only [List.length_set] using HN0.out) (by omega)
  obtain ⟨o0, o1⟩ := ok8 p { x with fs := x.fs.set q ⟨fw, fk⟩ } (by simp only; rw [List.getElem?_set_self (by rw [← HN0.out]; exact hpn)])
  simp only at o0 o1
  have k3 := cell_of B8.out (i := 3) rfl
  clear ok8
  by_cases hk15 : x.kind = 15
  · have hq1 : ¬ (q : Int) = 1 := fun hq => STX.out ⟨hk15, by omega⟩
    rw [hk15] at o0
    go_wp2
    go_ret
    exact fin.out _ Y8.out
  · go_wp2
    go_ret
    exact fin.out _ Y8.out
set_option maxRecDepth 100000 in
set_option maxHeartbeats 8000000 in
theorem step_1oy (hY : YAt w0 w c A S ex) (hI : YI m A S G K D) (a b : Nat) (ha : a < 8) (hb : b < 8) (q : Nat) (n wd p0 p1 kb : Int) (p : Nat)  (HKA : Hid ((p : Int) = (S.mr[a]?.getD ⟨0, -1⟩).k)) (HKB : Hid (kb = (S.mr[b]?.getD ⟨0, -1⟩).k)) (HWD : Hid (Wd64 wd)) (hq : ∀ x, S.objs[p]? = some x → q < x.fs.length) (h16 : ∀ x, S.objs[p]? = some x → 16 ≤ x.kind) (hst : ∀ x, S.objs[p]? = some x → ¬ (x.kind = 15 ∧ q = 1)) :
    Calls Try.prog 40 #[.pointer (some ⟨c.y, 0, none⟩), .agg #[.int .i64 1, .int .i64 (a : Int), .int .i64 (b : Int), .int .i64 (q : Int), .int .i64 n, .int .u64 wd, .int .i64 p0, .int .i64 p1]] w (StepOk w0 c ex m S ⟨1, a, b, (q : Int), n, wd, p0, p1⟩) := by
  obtain ⟨o, x, pn, hD, hx, hpp, hob, hroot⟩ := hI.rootObj ha HKA.out
  have hcnt := hI.cnt hD hx hob
  have hxb := hI.mb.f x (List.mem_of_getElem? hx)
  obtain ⟨n0, hn0⟩ : ∃ n0, n0 = S.objs.length := ⟨_, rfl⟩
  have hpn : p < n0 := by rw [hn0]; exact lt_some hx
  have hn1 : n0 ≤ 1000 := by rw [hn0]; exact hI.mb.n
  obtain ⟨og, ocap, hov, hoc, hoo, _, _⟩ := hY.orow (by omega)
  rw [← hn0] at hov hoc
  have HN0 := Lib.hid hn0
  have HOV := Lib.hid hov
  have HX := Lib.hid hx
  have HD := Lib.hid hD
  have HPP := Lib.hid hpp
  have HROOT := Lib.hid hroot
  have HOB := Lib.hid hob
  have HXB := Lib.hid hxb
  have HXL := Lib.hid hob.l
  have hxl := hxb.1
  have hxf := hob.l
  obtain ⟨cn, hcn⟩ : ∃ cn : Nat, cntM x.kind x.fs = cn := ⟨cntO o, hcnt⟩
  have hcb := cntM_b x.kind x.fs (fun f hf => (hxb.2 f hf).1.1)
  have CC := Lib.hid (fun wz (hF : Fr [] w wz) => counted_m wz x.kind x.v x.fs ((hY.keep hF).fds hx) (by omega) (fun f hf => (hxb.2 f hf).1))
  rw [hcn] at CC hcb
  have HCN := Lib.hid hcn
  have HCO := Lib.hid (show cn = cntO o by omega)
  have HPW := Lib.hid (hI.hg.pwb hD)
  have OKA := Lib.hid hI.hg.inv.ok
  have WDA := Lib.hid hI.hg.wd
  have HI := Lib.hid hI
  have hql := hq x hx
  have hstx := hst x hx
  have STX := Lib.hid hstx
  have h16x := h16 x hx
  obtain ⟨fw, hfwe⟩ : ∃ fw, fw = smallW wd := ⟨_, rfl⟩
  obtain ⟨fk, hfke⟩ : ∃ fk : Int, fk = -1 := ⟨_, rfl⟩
  have hsw := smallW_w HWD.out
  rw [← hfwe] at hsw
  have hfw : Fw D ⟨fw, fk⟩ fw := by rw [hfke]; exact Fw.plain _ hsw.2
  have hww : Wd64 fw := hsw.1
  have HFD : Hid (S.md.fd ⟨1, a, b, (q : Int), n, wd, p0, p1⟩ = ⟨fw, fk⟩) := Lib.hid (by
    unfold Md.fd
    simp only
    rw [md_at S a HKA.out, (md_kd hx).1, if_neg (by omega), hfwe, hfke])
  have hraw : 16 ≤ x.kind → (⟨fw, fk⟩ : Fd).k = -1 := fun _ => hfke
  have HFWE := Lib.hid hfwe
  have HFKE := Lib.hid hfke
  have hvw := hfw.w hI.hg hww
  have HVW := Lib.hid hvw
  obtain ⟨fg, fcap, hfv, _, hfo, _, _⟩ := hY.frow hx (by omega)
  obtain ⟨fn, hfn⟩ : ∃ fn, fn = x.fs.length := ⟨_, rfl⟩
  rw [← hfn] at hfv hql
  have HFN := Lib.hid hfn
  have HFV := Lib.hid hfv
  have hfl := hob.l
  have ST := Lib.hid (hI.setF hD hx (i := q) (by omega) hstx hfw hww hraw)
  have SE : Hid ((setF A m (pw o.a) (q : Int) fw).2 = 0) := Lib.hid ST.out.1
  have HM : Hid (({ S with objs := S.objs.set p { x with fs := x.fs.set q ⟨fw, fk⟩ } } : Ys).md = stepM S.md ⟨1, a, b, (q : Int), n, wd, p0, p1⟩ true) := Lib.hid (by
    rw [stepM_1 (Ac.on ha hb _ _ _ _ _ _) (by simp)]
    simp only
    rw [md_at S a HKA.out, (md_kd hx).2, if_neg (by omega), HFD.out]
    unfold Md.setFd
    simp only
    rw [md_at S a HKA.out, (md_kd hx).1, (md_kd hx).2, if_neg (by omega), Int.toNat_natCast, Int.toNat_natCast]
    unfold Ys.md
    simp only [List.map_set])
  have hfn2 : fn ≤ 240 := by omega
  clear hq hst hfv hfn hfo hfl hfw hww hvw hraw hstx
  clear hsw hfwe hfke
  clear h16
  have fin : Hid (∀ w', YAt w0 w' c ((setF A m (pw o.a) (q : Int) fw).1) { S with objs := S.objs.set p { x with fs := x.fs.set q ⟨fw, fk⟩ } } ex → StepOk w0 c ex m S ⟨1, a, b, (q : Int), n, wd, p0, p1⟩ (.returned (.bool true)) w') := Lib.hid (fun w' h => ⟨true, _, _, G, K, _, rfl, h, ST.out.2, HM.out⟩)
  clear hD hx hpp hob hroot hxb hcn hcnt hn0 hov hoo hxf
  have HY := Lib.hid hY
  have CO := Lib.hid (fun w' (hF : Fr [] w w') => yobject_k (hY.keep hF) a ha (p) HKA.out)
  have CB := Lib.hid (fun w' (hF : Fr [] w w') => yobject_k (hY.keep hF) b hb (kb) HKB.out)
  obtain ⟨mg, mcap, hmv, _, _, _, _⟩ := hY.mrow
  have HMV := Lib.hid hmv
  clear hY hI hmv
  have ha0 : (0 : Int) ≤ (a : Int) := by omega
  have ha8 : (a : Int) < 8 := by omega
  have hb0 : (0 : Int) ≤ (b : Int) := by omega
  have hb8 : (b : Int) < 8 := by omega
  go_enter Try.func40, Try.ntmps40
  go_wp2_with fail
  refine (CO.out _ ((Fr.refl _ _).alloc _)).mono ?_
  rintro e w' ⟨rfl, rfl⟩
  have F1 : Fr [] w (w.alloc (.cells #[.int .i64 1, .int .i64 (a : Int), .int .i64 (b : Int), .int .i64 (q : Int), .int .i64 n, .int .u64 wd, .int .i64 p0, .int .i64 p1] 80)) := (Fr.refl [] w).alloc _
  have Y1 := Lib.hid (HY.out.keep F1)
  have B1 := Lib.hid (show blk (w.alloc (.cells #[.int .i64 1, .int .i64 (a : Int), .int .i64 (b : Int), .int .i64 (q : Int), .int .i64 n, .int .u64 wd, .int .i64 p0, .int .i64 p1] 80)) w.heap.size = some (.cells #[.int .i64 1, .int .i64 (a : Int), .int .i64 (b : Int), .int .i64 (q : Int), .int .i64 n, .int .u64 wd, .int .i64 p0, .int .i64 p1] 80 (0, 0)) by rw [blk_alloc, if_pos rfl])
  have NB := Lib.hid (HY.out.lt_all)
  have NY := Lib.hid HY.out.ny
  have HTOP := Lib.hid HY.out.all_lt
  have FD := Lib.hid (fun (j : Nat) (o : Mo) (ho : S.objs[j]? = some o) (x : Nat) (hx : o.v.ownBlock = some x) => HY.out.nfd ho hx)
  have CB1 := Lib.hid (fun w' (hF : Fr [] (w.alloc (.cells #[.int .i64 1, .int .i64 (a : Int), .int .i64 (b : Int), .int .i64 (q : Int), .int .i64 n, .int .u64 wd, .int .i64 p0, .int .i64 p1] 80)) w') => yobject_k (Y1.out.keep hF) b hb (kb) HKB.out)
  generalize w.alloc (.cells #[.int .i64 1, .int .i64 (a : Int), .int .i64 (b : Int), .int .i64 (q : Int), .int .i64 n, .int .u64 wd, .int .i64 p0, .int .i64 p1] 80) = w1 at *
  generalize w.heap.size = bx at *
  have hnb : bx ≠ S.rb := by have := NB.out.2.1; omega
  have hny : c.y ≠ S.rb := NY.out.1
  have hnc : bx ≠ c.y := by have := NB.out.1; omega
  have hn3 : bx ∉ [c.b, c.wb, c.lb] := Yk.three (fun hm => by have := HTOP.out bx hm; omega)
  have hy3 : c.y ∉ [c.b, c.wb, c.lb] := HY.out.yne.1
  have hr3 : S.rb ∉ [c.b, c.wb, c.lb] := HY.out.nall (rowsY_r S ex) rfl rfl
  have hmo : S.mv.ownBlock = some mg := by rw [HMV.out]; rfl
  have hnm : bx ≠ mg := by have := NB.out.2.2.1 mg hmo; omega
  have hym : c.y ≠ mg := NY.out.2.1 mg hmo
  clear hmo
  have k0 := cell_of B1.out (i := 0) rfl
  go_wp2_with fail
  clear k0
  have k3 := cell_of B1.out (i := 3) rfl
  have y2 : w1.cell? ⟨c.y, 2, none⟩ = some S.ov := Y1.out.y2
  rw [HOV.out] at y2
  obtain ⟨hoc1, _, ok1⟩ := Y1.out.ofz HOV.out HN0.out (by omega)
  obtain ⟨o0, o1⟩ := ok1 p x HX.out
  clear ok1
  rw [HFV.out] at o1
  have hc1 : decide ((p : Int) < 0) = false := by simp
  have hc2 : decide ((q : Int) < 0) = false := by simp
  have hc3 : decide (fn ≤ q) = false := by simpa using hql
  clear o0
  go_wp2_with fail
  have KC : Hid (∀ wz, Fr [] w1 wz → wz.cell? ⟨c.y, 2, none⟩ = some (.slice (some ⟨og, 0, none⟩) n0 ocap) ∧ wz.cell? ⟨bx, 3, none⟩ = some (.int .i64 (q : Int)) ∧ wz.cell? ⟨og, p * 2 + 1, none⟩ = some (.slice (some ⟨fg, 0, none⟩) fn fcap)) := Lib.hid (fun wz hF => ⟨cell_fr y2 hF (by simp), cell_fr k3 hF (by simp), cell_fr o1 hF (by simp)⟩)
  go_region_held3 (fun W => W.cell? ⟨c.y, 2, none⟩ = some (.slice (some ⟨og, 0, none⟩) n0 ocap) ∧ W.cell? ⟨bx, 3, none⟩ = some (.int .i64 (q : Int)) ∧ W.cell? ⟨og, p * 2 + 1, none⟩ = some (.slice (some ⟨fg, 0, none⟩) fn fcap)) (with_reducible first | assumption | exact KC.out _ (by assumption) | exact KC.out _ (Fr.refl _ _).drew | exact KC.out _ (((Fr.refl _ _).setCell (by simp) _).drew) | exact KC.out _ ((((Fr.refl _ _).setCell (by simp) _).setCell (by simp) _).drew) | exact KC.out _ (Fr.refl _ _)) (fail)
  have Y2 := Lib.hid (Y1.out.keep (Fr.refl [] _).drew)
  have B2 := Lib.hid ((Fr.refl [] w1).drew.at B1.out (by simp))
  clear hc1 hc2 hc3 KC y2 o1 k3 Y1 B1
  generalize w1.drew = w2 at *
  have k0 := cell_of B2.out (i := 0) rfl
  have k5 := cell_of B2.out (i := 5) rfl
  have LW := Lib.hid Y2.out.lt_all
  have hbl2 : bx < w2.heap.size := lt_size B2.out
  have hyl2 : c.y < w2.heap.size := LW.out.1
  have hol2 : og < w2.heap.size := LW.out.2.2.2.1 og (by show S.ov.ownBlock = _; rw [HOV.out]; rfl)
  have hgl2 : fg < w2.heap.size := (Y2.out.nfd HX.out (by rw [HFV.out]; rfl)).1
  have hrl2 : S.rb < w2.heap.size := LW.out.2.1
  have hml2 : mg < w2.heap.size := LW.out.2.2.1 mg (by show S.mv.ownBlock = _; rw [HMV.out]; rfl)
  have hyn2 : c.y ≠ w2.heap.size := by omega
  have hon2 : og ≠ w2.heap.size := by omega
  have hbn2 : bx ≠ w2.heap.size := by omega
  have y2 : w2.cell? ⟨c.y, 2, none⟩ = some S.ov := Y2.out.y2
  rw [HOV.out] at y2
  obtain ⟨hoc2, _, ok2⟩ := Y2.out.ofz HOV.out HN0.out (by omega)
  obtain ⟨o0, o1⟩ := ok2 p x HX.out
  clear ok2
  rw [HFV.out] at o1
  go_wp2_with fail
  refine (ysmall_c _ wd HWD.out.1 HWD.out.2).mono ?_
  rintro e w' ⟨rfl, rfl⟩
  rw [← HFWE.out]
  go_wp2_with fail
  clear k0 k5 y2 o0 o1
  have F3 : Fr [] w2 (w2.alloc (.cells #[.int .u64 (fw), .int .i64 (-1)] 139)) := (Fr.refl [] w2).alloc _
  have FB3 := Lib.hid (show blk (w2.alloc (.cells #[.int .u64 (fw), .int .i64 (-1)] 139)) w2.heap.size = some (.cells #[.int .u64 (fw), .int .i64 (-1)] 139 (0, 0)) by rw [blk_alloc, if_pos rfl])
  have B3 := Lib.hid (F3.at B2.out (by simp))
  generalize w2.alloc (.cells #[.int .u64 (fw), .int .i64 (-1)] 139) = w3 at *
  have hfz : w2.heap.size ≤ w2.heap.size := Nat.le_refl _
  have F3 := Lib.hid F3
  have F5 := F3
  have FB5 : Hid (blk w3 w2.heap.size = some (.cells #[.int .u64 fw, .int .i64 fk] 139 (0, 0))) := Lib.hid (by rw [FB3.out, HFKE.out])
  have B5 := B3
  have Y5 := Lib.hid (Y2.out.keep F5.out)
  clear B3 F3 FB3 Y2
  generalize w3 = w5 at *
  have hgf : w2.heap.size ≠ fg := by omega
  clear hyn2 hon2 hbn2 hfz
  generalize w2.heap.size = fb at *
  have y2 : w5.cell? ⟨c.y, 2, none⟩ = some S.ov := Y5.out.y2
  rw [HOV.out] at y2
  obtain ⟨hoc5, _, ok5⟩ := Y5.out.ofz HOV.out HN0.out (by omega)
  obtain ⟨o0, o1⟩ := ok5 p x HX.out
  clear ok5
  rw [HFV.out] at o1
  obtain ⟨⟨fw', fk'⟩, hf'⟩ : ∃ f, x.fs[q]? = some f := ⟨x.fs[q]'(by have := HFN.out; omega), by rw [List.getElem?_eq_getElem]⟩
  obtain ⟨hfc, gf, gk⟩ := Y5.out.ffz HX.out HFV.out HFN.out (by omega)
  obtain ⟨g0, g1⟩ := gk q _ hf'
  simp only at g0 g1
  have k3 := cell_of B5.out (i := 3) rfl
  have q0 := cell_of FB5.out (i := 0) rfl
  have q1 := cell_of FB5.out (i := 1) rfl
  have hyg : c.y ≠ fg := (FD.out p x HX.out fg (by rw [HFV.out]; rfl)).2.1
  have hbg : bx ≠ fg := by have := (FD.out p x HX.out fg (by rw [HFV.out]; rfl)).1; omega
  have hog : og ≠ fg := HY.out.dis (rowsY_o S ex) (rowsY_f ex HX.out) (by omega) HOV.out.symm HFV.out.symm rfl rfl
  clear gk hf' o0
  go_wp2_with fail
  have KC : Hid (∀ wz, Fr [fg] w5 wz → wz.cell? ⟨c.y, 2, none⟩ = some (.slice (some ⟨og, 0, none⟩) n0 ocap) ∧ wz.cell? ⟨bx, 3, none⟩ = some (.int .i64 (q : Int)) ∧ wz.cell? ⟨og, p * 2 + 1, none⟩ = some (.slice (some ⟨fg, 0, none⟩) fn fcap) ∧ wz.cell? ⟨fb, 0, none⟩ = some (.int .u64 fw) ∧ wz.cell? ⟨fb, 1, none⟩ = some (.int .i64 fk)) := Lib.hid (fun wz hF => ⟨cell_fr y2 hF (by simpa using hyg), cell_fr k3 hF (by simpa using hbg), cell_fr o1 hF (by simpa using hog), cell_fr q0 hF (by simpa using hgf), cell_fr q1 hF (by simpa using hgf)⟩)
  go_region_held3 (fun W => W.cell? ⟨c.y, 2, none⟩ = some (.slice (some ⟨og, 0, none⟩) n0 ocap) ∧ W.cell? ⟨bx, 3, none⟩ = some (.int .i64 (q : Int)) ∧ W.cell? ⟨og, p * 2 + 1, none⟩ = some (.slice (some ⟨fg, 0, none⟩) fn fcap) ∧ W.cell? ⟨fb, 0, none⟩ = some (.int .u64 fw) ∧ W.cell? ⟨fb, 1, none⟩ = some (.int .i64 fk)) (with_reducible first | assumption | exact KC.out _ (by assumption) | exact KC.out _ (Fr.refl _ _).drew | exact KC.out _ (((Fr.refl _ _).setCell (by simp) _).drew) | exact KC.out _ ((((Fr.refl _ _).setCell (by simp) _).setCell (by simp) _).drew) | exact KC.out _ (Fr.refl _ _)) (fail)
  have Y6 := Lib.hid ((Y5.out.setF HX.out HFV.out HFN.out.symm hql ⟨fw, fk⟩).keep (Fr.refl [] _).drew)
  have B6 := Lib.hid (((((Fr.refl [fg] w5).setCell (by simp) _).setCell (by simp) _).drew).at (w' := ((w5.setCell ⟨fg, q * 2, none⟩ (.int .u64 fw)).setCell ⟨fg, q * 2 + 1, none⟩ (.int .i64 fk)).drew) B5.out (by simpa using hbg))
  try (simp only at Y6)
  clear KC y2 k3 o1 q0 q1 g0 g1 gf Y5 B5 FB5 F5
  generalize ((w5.setCell ⟨fg, q * 2, none⟩ (.int .u64 fw)).setCell ⟨fg, q * 2 + 1, none⟩ (.int .i64 fk)).drew = w6 at *
  have y0 : w6.cell? ⟨c.y, 0, none⟩ = _ := Y6.out.y0
  have y1 : w6.cell? ⟨c.y, 1, none⟩ = some (.slice (some ⟨S.rb, 0, none⟩) 8 8) := Y6.out.y1
  have k1 := cell_of B6.out (i := 1) rfl
  have k3 := cell_of B6.out (i := 3) rfl
  have r0 := (Y6.out.root ha).1
  simp only at r0
  rw [HROOT.out] at r0
  have CS := Lib.hid (fun wz (hF : Fr [] w6 wz) => oset_c wz (Y6.out.keep hF).he OKA.out WDA.out (pw o.a) (q : Int) fw HPW.out.1 HPW.out.2 (by omega))
  rw [SE.out] at CS
  go_wp2_with fail
  have KC : Hid (∀ wz, Fr [c.b, c.wb, c.lb] w6 wz → wz.cell? ⟨c.y, 0, none⟩ = some (.pointer (some ⟨c.hb, 0, none⟩)) ∧ wz.cell? ⟨c.y, 1, none⟩ = some (.slice (some ⟨S.rb, 0, none⟩) 8 8) ∧ wz.cell? ⟨bx, 1, none⟩ = some (.int .i64 (a : Int)) ∧ wz.cell? ⟨bx, 3, none⟩ = some (.int .i64 (q : Int)) ∧ wz.cell? ⟨S.rb, a, none⟩ = some (.int .u64 (pw o.a))) := Lib.hid (fun wz hF => ⟨cell_fr y0 hF (by simpa using hy3), cell_fr y1 hF (by simpa using hy3), cell_fr k1 hF (by simpa using hn3), cell_fr k3 hF (by simpa using hn3), cell_fr r0 hF (by simpa using hr3)⟩)
  go_region_held3 (fun W => W.cell? ⟨c.y, 0, none⟩ = some (.pointer (some ⟨c.hb, 0, none⟩)) ∧ W.cell? ⟨c.y, 1, none⟩ = some (.slice (some ⟨S.rb, 0, none⟩) 8 8) ∧ W.cell? ⟨bx, 1, none⟩ = some (.int .i64 (a : Int)) ∧ W.cell? ⟨bx, 3, none⟩ = some (.int .i64 (q : Int)) ∧ W.cell? ⟨S.rb, a, none⟩ = some (.int .u64 (pw o.a))) (with_reducible first | assumption | exact KC.out _ (by assumption) | exact KC.out _ (Fr.refl _ _).drew | exact KC.out _ (((Fr.refl _ _).setCell (by simp) _).drew) | exact KC.out _ ((((Fr.refl _ _).setCell (by simp) _).setCell (by simp) _).drew) | exact KC.out _ (Fr.refl _ _)) (first | (go_at_call 19; refine (CS.out _ (by repeat (first | exact Fr.refl _ _ | assumption | apply Fr.drew))).mono ?_; rintro e w8 ⟨rfl, H8, F8⟩; have F9 : Fr [c.b, c.wb, c.lb] w6 w8 := Fr.pre (by repeat (first | exact Fr.refl _ _ | assumption | apply Fr.drew)) F8))
  have Y8 := Lib.hid (Y6.out.heap F9 H8)
  have B8 := Lib.hid (F9.at B6.out hn3)
  clear KC y0 y1 k1 k3 r0 CS Y6 B6 H8 F8 F9
  have y2 : w8.cell? ⟨c.y, 2, none⟩ = some S.ov := Y8.out.y2
  rw [HOV.out] at y2
  obtain ⟨hoc8, _, ok8⟩ := Y8.out.ofz (n := n0) (by simpa only using HOV.out) (by simpa only [List.length_set] using HN0.out) (by omega)
  obtain ⟨o0, o1⟩ := ok8 p { x with fs := x.fs.set q ⟨fw, fk⟩ } (by simp only; rw [List.getElem?_set_self (by rw [← HN0.out]; exact hpn)])
  simp only at o0 o1
  have k3 := cell_of B8.out (i := 3) rfl
  clear ok8
  have hk15 : ¬ x.kind = 15 := by omega
  go_wp2
  go_ret
  exact fin.out _ Y8.out
set_option maxRecDepth 100000 in
set_option maxHeartbeats 8000000 in
theorem step_2oy (hY : YAt w0 w c A S ex) (hI : YI m A S G K D) (a b : Nat) (ha : a < 8) (hb : b < 8) (q : Nat) (n wd p0 p1 kb : Int) (p : Nat)  (HKA : Hid ((p : Int) = (S.mr[a]?.getD ⟨0, -1⟩).k)) (HKB : Hid (kb = (S.mr[b]?.getD ⟨0, -1⟩).k)) (HWD : Hid (Wd64 wd)) (hq : ∀ x, S.objs[p]? = some x → q < x.fs.length) (hst : ∀ x, S.objs[p]? = some x → ¬ (x.kind = 15 ∧ q = 1)) :
    Calls Try.prog 40 #[.pointer (some ⟨c.y, 0, none⟩), .agg #[.int .i64 2, .int .i64 (a : Int), .int .i64 (b : Int), .int .i64 (q : Int), .int .i64 n, .int .u64 wd, .int .i64 p0, .int .i64 p1]] w (StepOk w0 c ex m S ⟨2, a, b, (q : Int), n, wd, p0, p1⟩) := by
  obtain ⟨o, x, pn, hD, hx, hpp, hob, hroot⟩ := hI.rootObj ha HKA.out
  have hcnt := hI.cnt hD hx hob
  have hxb := hI.mb.f x (List.mem_of_getElem? hx)
  obtain ⟨n0, hn0⟩ : ∃ n0, n0 = S.objs.length := ⟨_, rfl⟩
  have hpn : p < n0 := by rw [hn0]; exact lt_some hx
  have hn1 : n0 ≤ 1000 := by rw [hn0]; exact hI.mb.n
  obtain ⟨og, ocap, hov, hoc, hoo, _, _⟩ := hY.orow (by omega)
  rw [← hn0] at hov hoc
  have HN0 := Lib.hid hn0
  have HOV := Lib.hid hov
  have HX := Lib.hid hx
  have HD := Lib.hid hD
  have HPP := Lib.hid hpp
  have HROOT := Lib.hid hroot
  have HOB := Lib.hid hob
  have HXB := Lib.hid hxb
  have HXL := Lib.hid hob.l
  have hxl := hxb.1
  have hxf := hob.l
  obtain ⟨cn, hcn⟩ : ∃ cn : Nat, cntM x.kind x.fs = cn := ⟨cntO o, hcnt⟩
  have hcb := cntM_b x.kind x.fs (fun f hf => (hxb.2 f hf).1.1)
  have CC := Lib.hid (fun wz (hF : Fr [] w wz) => counted_m wz x.kind x.v x.fs ((hY.keep hF).fds hx) (by omega) (fun f hf => (hxb.2 f hf).1))
  rw [hcn] at CC hcb
  have HCN := Lib.hid hcn
  have HCO := Lib.hid (show cn = cntO o by omega)
  have HPW := Lib.hid (hI.hg.pwb hD)
  have OKA := Lib.hid hI.hg.inv.ok
  have WDA := Lib.hid hI.hg.wd
  have HI := Lib.hid hI
  have hql := hq x hx
  have hstx := hst x hx
  have STX := Lib.hid hstx
  obtain ⟨fw, hfwe⟩ : ∃ fw, fw = smallW wd := ⟨_, rfl⟩
  obtain ⟨fk, hfke⟩ : ∃ fk : Int, fk = -1 := ⟨_, rfl⟩
  have hsw := smallW_w HWD.out
  rw [← hfwe] at hsw
  have hfw : Fw D ⟨fw, fk⟩ fw := by rw [hfke]; exact Fw.plain _ hsw.2
  have hww : Wd64 fw := hsw.1
  have HFD : Hid (S.md.fd ⟨2, a, b, (q : Int), n, wd, p0, p1⟩ = ⟨fw, fk⟩) := Lib.hid (by
    unfold Md.fd
    simp only
    rw [md_at S a HKA.out, (md_kd hx).1, if_neg (by simp), hfwe, hfke])
  have hraw : 16 ≤ x.kind → (⟨fw, fk⟩ : Fd).k = -1 := fun _ => hfke
  have HFWE := Lib.hid hfwe
  have HFKE := Lib.hid hfke
  have hvw := hfw.w hI.hg hww
  have HVW := Lib.hid hvw
  obtain ⟨fg, fcap, hfv, _, hfo, _, _⟩ := hY.frow hx (by omega)
  obtain ⟨fn, hfn⟩ : ∃ fn, fn = x.fs.length := ⟨_, rfl⟩
  rw [← hfn] at hfv hql
  have HFN := Lib.hid hfn
  have HFV := Lib.hid hfv
  have hfl := hob.l
  have ST := Lib.hid (hI.setF hD hx (i := q) (by omega) hstx hfw hww hraw)
  have SE : Hid ((setF A m (pw o.a) (q : Int) fw).2 = 0) := Lib.hid ST.out.1
  have HM : Hid (({ S with objs := S.objs.set p { x with fs := x.fs.set q ⟨fw, fk⟩ } } : Ys).md = stepM S.md ⟨2, a, b, (q : Int), n, wd, p0, p1⟩ true) := Lib.hid (by
    rw [stepM_1 (Ac.on ha hb _ _ _ _ _ _) (by simp)]
    simp only
    rw [md_at S a HKA.out, (md_kd hx).2, if_neg (by omega), HFD.out]
    unfold Md.setFd
    simp only
    rw [md_at S a HKA.out, (md_kd hx).1, (md_kd hx).2, if_neg (by omega), Int.toNat_natCast, Int.toNat_natCast]
    unfold Ys.md
    simp only [List.map_set])
  have hfn2 : fn ≤ 240 := by omega
  clear hq hst hfv hfn hfo hfl hfw hww hvw hraw hstx
  clear hsw hfwe hfke
  have fin : Hid (∀ w', YAt w0 w' c ((setF A m (pw o.a) (q : Int) fw).1) { S with objs := S.objs.set p { x with fs := x.fs.set q ⟨fw, fk⟩ } } ex → StepOk w0 c ex m S ⟨2, a, b, (q : Int), n, wd, p0, p1⟩ (.returned (.bool true)) w') := Lib.hid (fun w' h => ⟨true, _, _, G, K, _, rfl, h, ST.out.2, HM.out⟩)
  clear hD hx hpp hob hroot hxb hcn hcnt hn0 hov hoo hxf
  have HY := Lib.hid hY
  have CO := Lib.hid (fun w' (hF : Fr [] w w') => yobject_k (hY.keep hF) a ha (p) HKA.out)
  have CB := Lib.hid (fun w' (hF : Fr [] w w') => yobject_k (hY.keep hF) b hb (kb) HKB.out)
  obtain ⟨mg, mcap, hmv, _, _, _, _⟩ := hY.mrow
  have HMV := Lib.hid hmv
  clear hY hI hmv
  have ha0 : (0 : Int) ≤ (a : Int) := by omega
  have ha8 : (a : Int) < 8 := by omega
  have hb0 : (0 : Int) ≤ (b : Int) := by omega
  have hb8 : (b : Int) < 8 := by omega
  go_enter Try.func40, Try.ntmps40
  go_wp2_with fail
  refine (CO.out _ ((Fr.refl _ _).alloc _)).mono ?_
  rintro e w' ⟨rfl, rfl⟩
  have F1 : Fr [] w (w.alloc (.cells #[.int .i64 2, .int .i64 (a : Int), .int .i64 (b : Int), .int .i64 (q : Int), .int .i64 n, .int .u64 wd, .int .i64 p0, .int .i64 p1] 80)) := (Fr.refl [] w).alloc _
  have Y1 := Lib.hid (HY.out.keep F1)
  have B1 := Lib.hid (show blk (w.alloc (.cells #[.int .i64 2, .int .i64 (a : Int), .int .i64 (b : Int), .int .i64 (q : Int), .int .i64 n, .int .u64 wd, .int .i64 p0, .int .i64 p1] 80)) w.heap.size = some (.cells #[.int .i64 2, .int .i64 (a : Int), .int .i64 (b : Int), .int .i64 (q : Int), .int .i64 n, .int .u64 wd, .int .i64 p0, .int .i64 p1] 80 (0, 0)) by rw [blk_alloc, if_pos rfl])
  have NB := Lib.hid (HY.out.lt_all)
  have NY := Lib.hid HY.out.ny
  have HTOP := Lib.hid HY.out.all_lt
  have FD := Lib.hid (fun (j : Nat) (o : Mo) (ho : S.objs[j]? = some o) (x : Nat) (hx : o.v.ownBlock = some x) => HY.out.nfd ho hx)
  have CB1 := Lib.hid (fun w' (hF : Fr [] (w.alloc (.cells #[.int .i64 2, .int .i64 (a : Int), .int .i64 (b : Int), .int .i64 (q : Int), .int .i64 n, .int .u64 wd, .int .i64 p0, .int .i64 p1] 80)) w') => yobject_k (Y1.out.keep hF) b hb (kb) HKB.out)
  generalize w.alloc (.cells #[.int .i64 2, .int .i64 (a : Int), .int .i64 (b : Int), .int .i64 (q : Int), .int .i64 n, .int .u64 wd, .int .i64 p0, .int .i64 p1] 80) = w1 at *
  generalize w.heap.size = bx at *
  have hnb : bx ≠ S.rb := by have := NB.out.2.1; omega
  have hny : c.y ≠ S.rb := NY.out.1
  have hnc : bx ≠ c.y := by have := NB.out.1; omega
  have hn3 : bx ∉ [c.b, c.wb, c.lb] := Yk.three (fun hm => by have := HTOP.out bx hm; omega)
  have hy3 : c.y ∉ [c.b, c.wb, c.lb] := HY.out.yne.1
  have hr3 : S.rb ∉ [c.b, c.wb, c.lb] := HY.out.nall (rowsY_r S ex) rfl rfl
  have hmo : S.mv.ownBlock = some mg := by rw [HMV.out]; rfl
  have hnm : bx ≠ mg := by have := NB.out.2.2.1 mg hmo; omega
  have hym : c.y ≠ mg := NY.out.2.1 mg hmo
  clear hmo
  have k0 := cell_of B1.out (i := 0) rfl
  go_wp2_with fail
  clear k0
  have k3 := cell_of B1.out (i := 3) rfl
  have y2 : w1.cell? ⟨c.y, 2, none⟩ = some S.ov := Y1.out.y2
  rw [HOV.out] at y2
  obtain ⟨hoc1, _, ok1⟩ := Y1.out.ofz HOV.out HN0.out (by omega)
  obtain ⟨o0, o1⟩ := ok1 p x HX.out
  clear ok1
  rw [HFV.out] at o1
  have hc1 : decide ((p : Int) < 0) = false := by simp
  have hc2 : decide ((q : Int) < 0) = false := by simp
  have hc3 : decide (fn ≤ q) = false := by simpa using hql
  clear o0
  go_wp2_with fail
  have KC : Hid (∀ wz, Fr [] w1 wz → wz.cell? ⟨c.y, 2, none⟩ = some (.slice (some ⟨og, 0, none⟩) n0 ocap) ∧ wz.cell? ⟨bx, 3, none⟩ = some (.int .i64 (q : Int)) ∧ wz.cell? ⟨og, p * 2 + 1, none⟩ = some (.slice (some ⟨fg, 0, none⟩) fn fcap)) := Lib.hid (fun wz hF => ⟨cell_fr y2 hF (by simp), cell_fr k3 hF (by simp), cell_fr o1 hF (by simp)⟩)
  go_region_held3 (fun W => W.cell? ⟨c.y, 2, none⟩ = some (.slice (some ⟨og, 0, none⟩) n0 ocap) ∧ W.cell? ⟨bx, 3, none⟩ = some (.int .i64 (q : Int)) ∧ W.cell? ⟨og, p * 2 + 1, none⟩ = some (.slice (some ⟨fg, 0, none⟩) fn fcap)) (with_reducible first | assumption | exact KC.out _ (by assumption) | exact KC.out _ (Fr.refl _ _).drew | exact KC.out _ (((Fr.refl _ _).setCell (by simp) _).drew) | exact KC.out _ ((((Fr.refl _ _).setCell (by simp) _).setCell (by simp) _).drew) | exact KC.out _ (Fr.refl _ _)) (fail)
  have Y2 := Lib.hid (Y1.out.keep (Fr.refl [] _).drew)
  have B2 := Lib.hid ((Fr.refl [] w1).drew.at B1.out (by simp))
  clear hc1 hc2 hc3 KC y2 o1 k3 Y1 B1
  generalize w1.drew = w2 at *
  have k0 := cell_of B2.out (i := 0) rfl
  have k5 := cell_of B2.out (i := 5) rfl
  have LW := Lib.hid Y2.out.lt_all
  have hbl2 : bx < w2.heap.size := lt_size B2.out
  have hyl2 : c.y < w2.heap.size := LW.out.1
  have hol2 : og < w2.heap.size := LW.out.2.2.2.1 og (by show S.ov.ownBlock = _; rw [HOV.out]; rfl)
  have hgl2 : fg < w2.heap.size := (Y2.out.nfd HX.out (by rw [HFV.out]; rfl)).1
  have hrl2 : S.rb < w2.heap.size := LW.out.2.1
  have hml2 : mg < w2.heap.size := LW.out.2.2.1 mg (by show S.mv.ownBlock = _; rw [HMV.out]; rfl)
  have hyn2 : c.y ≠ w2.heap.size := by omega
  have hon2 : og ≠ w2.heap.size := by omega
  have hbn2 : bx ≠ w2.heap.size := by omega
  have y2 : w2.cell? ⟨c.y, 2, none⟩ = some S.ov := Y2.out.y2
  rw [HOV.out] at y2
  obtain ⟨hoc2, _, ok2⟩ := Y2.out.ofz HOV.out HN0.out (by omega)
  obtain ⟨o0, o1⟩ := ok2 p x HX.out
  clear ok2
  rw [HFV.out] at o1
  go_wp2_with fail
  refine (ysmall_c _ wd HWD.out.1 HWD.out.2).mono ?_
  rintro e w' ⟨rfl, rfl⟩
  rw [← HFWE.out]
  go_wp2_with fail
  clear k0 k5 y2 o0 o1
  have F3 : Fr [] w2 (w2.alloc (.cells #[.int .u64 (fw), .int .i64 (-1)] 139)) := (Fr.refl [] w2).alloc _
  have FB3 := Lib.hid (show blk (w2.alloc (.cells #[.int .u64 (fw), .int .i64 (-1)] 139)) w2.heap.size = some (.cells #[.int .u64 (fw), .int .i64 (-1)] 139 (0, 0)) by rw [blk_alloc, if_pos rfl])
  have B3 := Lib.hid (F3.at B2.out (by simp))
  generalize w2.alloc (.cells #[.int .u64 (fw), .int .i64 (-1)] 139) = w3 at *
  have hfz : w2.heap.size ≤ w2.heap.size := Nat.le_refl _
  have F3 := Lib.hid F3
  have F5 := F3
  have FB5 : Hid (blk w3 w2.heap.size = some (.cells #[.int .u64 fw, .int .i64 fk] 139 (0, 0))) := Lib.hid (by rw [FB3.out, HFKE.out])
  have B5 := B3
  have Y5 := Lib.hid (Y2.out.keep F5.out)
  clear B3 F3 FB3 Y2
  generalize w3 = w5 at *
  have hgf : w2.heap.size ≠ fg := by omega
  clear hyn2 hon2 hbn2 hfz
  generalize w2.heap.size = fb at *
  have y2 : w5.cell? ⟨c.y, 2, none⟩ = some S.ov := Y5.out.y2
  rw [HOV.out] at y2
  obtain ⟨hoc5, _, ok5⟩ := Y5.out.ofz HOV.out HN0.out (by omega)
  obtain ⟨o0, o1⟩ := ok5 p x HX.out
  clear ok5
  rw [HFV.out] at o1
  obtain ⟨⟨fw', fk'⟩, hf'⟩ : ∃ f, x.fs[q]? = some f := ⟨x.fs[q]'(by have := HFN.out; omega), by rw [List.getElem?_eq_getElem]⟩
  obtain ⟨hfc, gf, gk⟩ := Y5.out.ffz HX.out HFV.out HFN.out (by omega)
  obtain ⟨g0, g1⟩ := gk q _ hf'
  simp only at g0 g1
  have k3 := cell_of B5.out (i := 3) rfl
  have q0 := cell_of FB5.out (i := 0) rfl
  have q1 := cell_of FB5.out (i := 1) rfl
  have hyg : c.y ≠ fg := (FD.out p x HX.out fg (by rw [HFV.out]; rfl)).2.1
  have hbg : bx ≠ fg := by have := (FD.out p x HX.out fg (by rw [HFV.out]; rfl)).1; omega
  have hog : og ≠ fg := HY.out.dis (rowsY_o S ex) (rowsY_f ex HX.out) (by omega) HOV.out.symm HFV.out.symm rfl rfl
  clear gk hf' o0
  go_wp2_with fail
  have KC : Hid (∀ wz, Fr [fg] w5 wz → wz.cell? ⟨c.y, 2, none⟩ = some (.slice (some ⟨og, 0, none⟩) n0 ocap) ∧ wz.cell? ⟨bx, 3, none⟩ = some (.int .i64 (q : Int)) ∧ wz.cell? ⟨og, p * 2 + 1, none⟩ = some (.slice (some ⟨fg, 0, none⟩) fn fcap) ∧ wz.cell? ⟨fb, 0, none⟩ = some (.int .u64 fw) ∧ wz.cell? ⟨fb, 1, none⟩ = some (.int .i64 fk)) := Lib.hid (fun wz hF => ⟨cell_fr y2 hF (by simpa using hyg), cell_fr k3 hF (by simpa using hbg), cell_fr o1 hF (by simpa using hog), cell_fr q0 hF (by simpa using hgf), cell_fr q1 hF (by simpa using hgf)⟩)
  go_region_held3 (fun W => W.cell? ⟨c.y, 2, none⟩ = some (.slice (some ⟨og, 0, none⟩) n0 ocap) ∧ W.cell? ⟨bx, 3, none⟩ = some (.int .i64 (q : Int)) ∧ W.cell? ⟨og, p * 2 + 1, none⟩ = some (.slice (some ⟨fg, 0, none⟩) fn fcap) ∧ W.cell? ⟨fb, 0, none⟩ = some (.int .u64 fw) ∧ W.cell? ⟨fb, 1, none⟩ = some (.int .i64 fk)) (with_reducible first | assumption | exact KC.out _ (by assumption) | exact KC.out _ (Fr.refl _ _).drew | exact KC.out _ (((Fr.refl _ _).setCell (by simp) _).drew) | exact KC.out _ ((((Fr.refl _ _).setCell (by simp) _).setCell (by simp) _).drew) | exact KC.out _ (Fr.refl _ _)) (fail)
  have Y6 := Lib.hid ((Y5.out.setF HX.out HFV.out HFN.out.symm hql ⟨fw, fk⟩).keep (Fr.refl [] _).drew)
  have B6 := Lib.hid (((((Fr.refl [fg] w5).setCell (by simp) _).setCell (by simp) _).drew).at (w' := ((w5.setCell ⟨fg, q * 2, none⟩ (.int .u64 fw)).setCell ⟨fg, q * 2 + 1, none⟩ (.int .i64 fk)).drew) B5.out (by simpa using hbg))
  try (simp only at Y6)
  clear KC y2 k3 o1 q0 q1 g0 g1 gf Y5 B5 FB5 F5
  generalize ((w5.setCell ⟨fg, q * 2, none⟩ (.int .u64 fw)).setCell ⟨fg, q * 2 + 1, none⟩ (.int .i64 fk)).drew = w6 at *
  have y0 : w6.cell? ⟨c.y, 0, none⟩ = _ := Y6.out.y0
  have y1 : w6.cell? ⟨c.y, 1, none⟩ = some (.slice (some ⟨S.rb, 0, none⟩) 8 8) := Y6.out.y1
  have k1 := cell_of B6.out (i := 1) rfl
  have k3 := cell_of B6.out (i := 3) rfl
  have r0 := (Y6.out.root ha).1
  simp only at r0
  rw [HROOT.out] at r0
  have CS := Lib.hid (fun wz (hF : Fr [] w6 wz) => oset_c wz (Y6.out.keep hF).he OKA.out WDA.out (pw o.a) (q : Int) fw HPW.out.1 HPW.out.2 (by omega))
  rw [SE.out] at CS
  go_wp2_with fail
  have KC : Hid (∀ wz, Fr [c.b, c.wb, c.lb] w6 wz → wz.cell? ⟨c.y, 0, none⟩ = some (.pointer (some ⟨c.hb, 0, none⟩)) ∧ wz.cell? ⟨c.y, 1, none⟩ = some (.slice (some ⟨S.rb, 0, none⟩) 8 8) ∧ wz.cell? ⟨bx, 1, none⟩ = some (.int .i64 (a : Int)) ∧ wz.cell? ⟨bx, 3, none⟩ = some (.int .i64 (q : Int)) ∧ wz.cell? ⟨S.rb, a, none⟩ = some (.int .u64 (pw o.a))) := Lib.hid (fun wz hF => ⟨cell_fr y0 hF (by simpa using hy3), cell_fr y1 hF (by simpa using hy3), cell_fr k1 hF (by simpa using hn3), cell_fr k3 hF (by simpa using hn3), cell_fr r0 hF (by simpa using hr3)⟩)
  go_region_held3 (fun W => W.cell? ⟨c.y, 0, none⟩ = some (.pointer (some ⟨c.hb, 0, none⟩)) ∧ W.cell? ⟨c.y, 1, none⟩ = some (.slice (some ⟨S.rb, 0, none⟩) 8 8) ∧ W.cell? ⟨bx, 1, none⟩ = some (.int .i64 (a : Int)) ∧ W.cell? ⟨bx, 3, none⟩ = some (.int .i64 (q : Int)) ∧ W.cell? ⟨S.rb, a, none⟩ = some (.int .u64 (pw o.a))) (with_reducible first | assumption | exact KC.out _ (by assumption) | exact KC.out _ (Fr.refl _ _).drew | exact KC.out _ (((Fr.refl _ _).setCell (by simp) _).drew) | exact KC.out _ ((((Fr.refl _ _).setCell (by simp) _).setCell (by simp) _).drew) | exact KC.out _ (Fr.refl _ _)) (first | (go_at_call 19; refine (CS.out _ (by repeat (first | exact Fr.refl _ _ | assumption | apply Fr.drew))).mono ?_; rintro e w8 ⟨rfl, H8, F8⟩; have F9 : Fr [c.b, c.wb, c.lb] w6 w8 := Fr.pre (by repeat (first | exact Fr.refl _ _ | assumption | apply Fr.drew)) F8))
  have Y8 := Lib.hid (Y6.out.heap F9 H8)
  have B8 := Lib.hid (F9.at B6.out hn3)
  clear KC y0 y1 k1 k3 r0 CS Y6 B6 H8 F8 F9
  have y2 : w8.cell? ⟨c.y, 2, none⟩ = some S.ov := Y8.out.y2
  rw [HOV.out] at y2
  obtain ⟨hoc8, _, ok8⟩ := Y8.out.ofz (n := n0) (by simpa only using HOV.out) (by simpa only [List.length_set] using HN0.out) (by omega)
  obtain ⟨o0, o1⟩ := ok8 p { x with fs := x.fs.set q ⟨fw, fk⟩ } (by simp only; rw [List.getElem?_set_self (by rw [← HN0.out]; exact hpn)])
  simp only at o0 o1
  have k3 := cell_of B8.out (i := 3) rfl
  clear ok8
  by_cases hk15 : x.kind = 15
  · have hq1 : ¬ (q : Int) = 1 := fun hq => STX.out ⟨hk15, by omega⟩
    rw [hk15] at o0
    go_wp2
    go_ret
    exact fin.out _ Y8.out
  · go_wp2
    go_ret
    exact fin.out _ Y8.out
set_option maxRecDepth 100000 in
set_option maxHeartbeats 8000000 in
theorem step_1rs (hY : YAt w0 w c A S ex) (hI : YI m A S G K D) (a b : Nat) (ha : a < 8) (hb : b < 8) (q : Nat) (n wd p0 p1 kb : Int) (p : Nat)  (HKA : Hid ((p : Int) = (S.mr[a]?.getD ⟨0, -1⟩).k)) (HKB : Hid (kb = (S.mr[b]?.getD ⟨0, -1⟩).k)) (HWD : Hid (Wd64 wd)) (hq : ∀ x, S.objs[p]? = some x → q < x.fs.length) (h16 : ∀ x, S.objs[p]? = some x → x.kind < 16) (hst : ∀ x, S.objs[p]? = some x → x.kind = 15) (hq1 : q = 1) :
    Calls Try.prog 40 #[.pointer (some ⟨c.y, 0, none⟩), .agg #[.int .i64 1, .int .i64 (a : Int), .int .i64 (b : Int), .int .i64 (q : Int), .int .i64 n, .int .u64 wd, .int .i64 p0, .int .i64 p1]] w (StepOk w0 c ex m S ⟨1, a, b, (q : Int), n, wd, p0, p1⟩) := by
  obtain ⟨o, x, pn, hD, hx, hpp, hob, hroot⟩ := hI.rootObj ha HKA.out
  have hcnt := hI.cnt hD hx hob
  have hxb := hI.mb.f x (List.mem_of_getElem? hx)
  obtain ⟨n0, hn0⟩ : ∃ n0, n0 = S.objs.length := ⟨_, rfl⟩
  have hpn : p < n0 := by rw [hn0]; exact lt_some hx
  have hn1 : n0 ≤ 1000 := by rw [hn0]; exact hI.mb.n
  obtain ⟨og, ocap, hov, hoc, hoo, _, _⟩ := hY.orow (by omega)
  rw [← hn0] at hov hoc
  have HN0 := Lib.hid hn0
  have HOV := Lib.hid hov
  have HX := Lib.hid hx
  have HD := Lib.hid hD
  have HPP := Lib.hid hpp
  have HROOT := Lib.hid hroot
  have HOB := Lib.hid hob
  have HXB := Lib.hid hxb
  have HXL := Lib.hid hob.l
  have hxl := hxb.1
  have hxf := hob.l
  obtain ⟨cn, hcn⟩ : ∃ cn : Nat, cntM x.kind x.fs = cn := ⟨cntO o, hcnt⟩
  have hcb := cntM_b x.kind x.fs (fun f hf => (hxb.2 f hf).1.1)
  have CC := Lib.hid (fun wz (hF : Fr [] w wz) => counted_m wz x.kind x.v x.fs ((hY.keep hF).fds hx) (by omega) (fun f hf => (hxb.2 f hf).1))
  rw [hcn] at CC hcb
  have HCN := Lib.hid hcn
  have HCO := Lib.hid (show cn = cntO o by omega)
  have HPW := Lib.hid (hI.hg.pwb hD)
  have OKA := Lib.hid hI.hg.inv.ok
  have WDA := Lib.hid hI.hg.wd
  have HI := Lib.hid hI
  have hql := hq x hx
  have hstx := hst x hx
  have STX := Lib.hid hstx
  have h16x := h16 x hx
  obtain ⟨⟨fw, fk⟩, hfb, hfw⟩ := hI.rt b hb
  obtain ⟨v, hv⟩ : ∃ v, v = S.roots[b]?.getD 0 := ⟨_, rfl⟩
  rw [← hv] at hfw
  have HV := Lib.hid hv
  have HFB := Lib.hid hfb
  have hww : Wd64 fw := hI.mw _ (List.mem_of_getElem? hfb)
  have HFD : Hid (S.md.fd ⟨1, a, b, (q : Int), n, wd, p0, p1⟩ = ⟨fw, fk⟩) := Lib.hid (by
    unfold Md.fd
    simp only
    rw [md_at S a HKA.out, (md_kd hx).1, if_pos ⟨by simp, h16x⟩, Int.toNat_natCast]
    show S.mr[b]?.getD _ = _
    rw [hfb]; rfl)
  have hraw : 16 ≤ x.kind → (⟨fw, fk⟩ : Fd).k = -1 := fun h => by omega
  have hvw := hfw.w hI.hg hww
  have HVW := Lib.hid hvw
  obtain ⟨fg, fcap, hfv, _, hfo, _, _⟩ := hY.frow hx (by omega)
  obtain ⟨fn, hfn⟩ : ∃ fn, fn = x.fs.length := ⟨_, rfl⟩
  rw [← hfn] at hfv hql
  have HFN := Lib.hid hfn
  have HFV := Lib.hid hfv
  have hfl := hob.l
  have SE : Hid ((setF A m (pw o.a) (q : Int) v).2 = 0) := Lib.hid (hI.hg.setS hD q (by omega) hvw.1 hvw.2).1
  have HG1 : Hid (HG (setF A m (pw o.a) (q : Int) v).1 m G K (updD D p { o with fs := o.fs.set q v })) := Lib.hid (hI.hg.setS hD q (by omega) hvw.1 hvw.2).2
  have UN1 : Hid (Unmarked (setF A m (pw o.a) (q : Int) v).1 m) := Lib.hid (hI.un.set _ _ _)
  have hf2 : 2 ≤ fn := by omega
  have HQ1 := Lib.hid hq1
  clear hq1
  have HSTX := Lib.hid hstx
  have HFW := Lib.hid hfw
  have HWW := Lib.hid hww
  have hfn2 : fn ≤ 240 := by omega
  clear hq hst hfv hfn hfo hfl hfw hww hvw hraw hstx
  clear hv
  clear h16 hfb
  have hstk := HSTX.out
  have hxo := HXL.out
  have fin : Hid (∀ w' A2 ys gs, LS w0 w' c ex A2 m G K D S p x o ⟨fw, fk⟩ v fn ys gs → StepOk w0 c ex m S ⟨1, a, b, (q : Int), n, wd, p0, p1⟩ (.returned (.bool true)) w') := Lib.hid (fun w' A2 ys gs h => by
    rw [HFN.out] at h
    obtain ⟨i1, i2⟩ := h.fin HI.out hD hx hstk (by have := HFN.out; omega) hxo HFW.out HWW.out
    refine ⟨true, _, _, G, K, _, rfl, h.y, i1, ?_⟩
    rw [stepM_1 (Ac.on ha hb _ _ _ _ _ _) (by simp)]
    simp only
    rw [md_at S a HKA.out, (md_kd hx).2, if_neg (by have := HFN.out; omega), HFD.out]
    unfold Md.setFd
    simp only
    rw [md_at S a HKA.out, (md_kd hx).1, (md_kd hx).2, if_pos ⟨hstk, by have := HQ1.out; omega⟩, Int.toNat_natCast, Int.toNat_natCast, HQ1.out]
    unfold Ys.md
    simp only [List.map_set]
    rw [i2])
  clear hstk hxo
  clear hD hx hpp hob hroot hxb hcn hcnt hn0 hov hoo hxf
  have HY := Lib.hid hY
  have CO := Lib.hid (fun w' (hF : Fr [] w w') => yobject_k (hY.keep hF) a ha (p) HKA.out)
  have CB := Lib.hid (fun w' (hF : Fr [] w w') => yobject_k (hY.keep hF) b hb (kb) HKB.out)
  obtain ⟨mg, mcap, hmv, _, _, _, _⟩ := hY.mrow
  have HMV := Lib.hid hmv
  clear hY hI hmv
  have ha0 : (0 : Int) ≤ (a : Int) := by omega
  have ha8 : (a : Int) < 8 := by omega
  have hb0 : (0 : Int) ≤ (b : Int) := by omega
  have hb8 : (b : Int) < 8 := by omega
  go_enter Try.func40, Try.ntmps40
  go_wp2_with fail
  refine (CO.out _ ((Fr.refl _ _).alloc _)).mono ?_
  rintro e w' ⟨rfl, rfl⟩
  have F1 : Fr [] w (w.alloc (.cells #[.int .i64 1, .int .i64 (a : Int), .int .i64 (b : Int), .int .i64 (q : Int), .int .i64 n, .int .u64 wd, .int .i64 p0, .int .i64 p1] 80)) := (Fr.refl [] w).alloc _
  have Y1 := Lib.hid (HY.out.keep F1)
  have B1 := Lib.hid (show blk (w.alloc (.cells #[.int .i64 1, .int .i64 (a : Int), .int .i64 (b : Int), .int .i64 (q : Int), .int .i64 n, .int .u64 wd, .int .i64 p0, .int .i64 p1] 80)) w.heap.size = some (.cells #[.int .i64 1, .int .i64 (a : Int), .int .i64 (b : Int), .int .i64 (q : Int), .int .i64 n, .int .u64 wd, .int .i64 p0, .int .i64 p1] 80 (0, 0)) by rw [blk_alloc, if_pos rfl])
  have NB := Lib.hid (HY.out.lt_all)
  have NY := Lib.hid HY.out.ny
  have HTOP := Lib.hid HY.out.all_lt
  have FD := Lib.hid (fun (j : Nat) (o : Mo) (ho : S.objs[j]? = some o) (x : Nat) (hx : o.v.ownBlock = some x) => HY.out.nfd ho hx)
  have CB1 := Lib.hid (fun w' (hF : Fr [] (w.alloc (.cells #[.int .i64 1, .int .i64 (a : Int), .int .i64 (b : Int), .int .i64 (q : Int), .int .i64 n, .int .u64 wd, .int .i64 p0, .int .i64 p1] 80)) w') => yobject_k (Y1.out.keep hF) b hb (kb) HKB.out)
  generalize w.alloc (.cells #[.int .i64 1, .int .i64 (a : Int), .int .i64 (b : Int), .int .i64 (q : Int), .int .i64 n, .int .u64 wd, .int .i64 p0, .int .i64 p1] 80) = w1 at *
  generalize w.heap.size = bx at *
  have hnb : bx ≠ S.rb := by have := NB.out.2.1; omega
  have hny : c.y ≠ S.rb := NY.out.1
  have hnc : bx ≠ c.y := by have := NB.out.1; omega
  have hn3 : bx ∉ [c.b, c.wb, c.lb] := Yk.three (fun hm => by have := HTOP.out bx hm; omega)
  have hy3 : c.y ∉ [c.b, c.wb, c.lb] := HY.out.yne.1
  have hr3 : S.rb ∉ [c.b, c.wb, c.lb] := HY.out.nall (rowsY_r S ex) rfl rfl
  have hmo : S.mv.ownBlock = some mg := by rw [HMV.out]; rfl
  have hnm : bx ≠ mg := by have := NB.out.2.2.1 mg hmo; omega
  have hym : c.y ≠ mg := NY.out.2.1 mg hmo
  clear hmo
  have k0 := cell_of B1.out (i := 0) rfl
  go_wp2_with fail
  clear k0
  have k3 := cell_of B1.out (i := 3) rfl
  have y2 : w1.cell? ⟨c.y, 2, none⟩ = some S.ov := Y1.out.y2
  rw [HOV.out] at y2
  obtain ⟨hoc1, _, ok1⟩ := Y1.out.ofz HOV.out HN0.out (by omega)
  obtain ⟨o0, o1⟩ := ok1 p x HX.out
  clear ok1
  rw [HFV.out] at o1
  have hc1 : decide ((p : Int) < 0) = false := by simp
  have hc2 : decide ((q : Int) < 0) = false := by simp
  have hc3 : decide (fn ≤ q) = false := by simpa using hql
  clear o0
  go_wp2_with fail
  have KC : Hid (∀ wz, Fr [] w1 wz → wz.cell? ⟨c.y, 2, none⟩ = some (.slice (some ⟨og, 0, none⟩) n0 ocap) ∧ wz.cell? ⟨bx, 3, none⟩ = some (.int .i64 (q : Int)) ∧ wz.cell? ⟨og, p * 2 + 1, none⟩ = some (.slice (some ⟨fg, 0, none⟩) fn fcap)) := Lib.hid (fun wz hF => ⟨cell_fr y2 hF (by simp), cell_fr k3 hF (by simp), cell_fr o1 hF (by simp)⟩)
  go_region_held3 (fun W => W.cell? ⟨c.y, 2, none⟩ = some (.slice (some ⟨og, 0, none⟩) n0 ocap) ∧ W.cell? ⟨bx, 3, none⟩ = some (.int .i64 (q : Int)) ∧ W.cell? ⟨og, p * 2 + 1, none⟩ = some (.slice (some ⟨fg, 0, none⟩) fn fcap)) (with_reducible first | assumption | exact KC.out _ (by assumption) | exact KC.out _ (Fr.refl _ _).drew | exact KC.out _ (((Fr.refl _ _).setCell (by simp) _).drew) | exact KC.out _ ((((Fr.refl _ _).setCell (by simp) _).setCell (by simp) _).drew) | exact KC.out _ (Fr.refl _ _)) (fail)
  have Y2 := Lib.hid (Y1.out.keep (Fr.refl [] _).drew)
  have B2 := Lib.hid ((Fr.refl [] w1).drew.at B1.out (by simp))
  clear hc1 hc2 hc3 KC y2 o1 k3 Y1 B1
  generalize w1.drew = w2 at *
  have k0 := cell_of B2.out (i := 0) rfl
  have k5 := cell_of B2.out (i := 5) rfl
  have LW := Lib.hid Y2.out.lt_all
  have hbl2 : bx < w2.heap.size := lt_size B2.out
  have hyl2 : c.y < w2.heap.size := LW.out.1
  have hol2 : og < w2.heap.size := LW.out.2.2.2.1 og (by show S.ov.ownBlock = _; rw [HOV.out]; rfl)
  have hgl2 : fg < w2.heap.size := (Y2.out.nfd HX.out (by rw [HFV.out]; rfl)).1
  have hrl2 : S.rb < w2.heap.size := LW.out.2.1
  have hml2 : mg < w2.heap.size := LW.out.2.2.1 mg (by show S.mv.ownBlock = _; rw [HMV.out]; rfl)
  have hyn2 : c.y ≠ w2.heap.size := by omega
  have hon2 : og ≠ w2.heap.size := by omega
  have hbn2 : bx ≠ w2.heap.size := by omega
  have y2 : w2.cell? ⟨c.y, 2, none⟩ = some S.ov := Y2.out.y2
  rw [HOV.out] at y2
  obtain ⟨hoc2, _, ok2⟩ := Y2.out.ofz HOV.out HN0.out (by omega)
  obtain ⟨o0, o1⟩ := ok2 p x HX.out
  clear ok2
  rw [HFV.out] at o1
  go_wp2_with fail
  refine (ysmall_c _ wd HWD.out.1 HWD.out.2).mono ?_
  rintro e w' ⟨rfl, rfl⟩
  go_wp2_with fail
  clear k0 k5 y2 o0 o1
  have F3 : Fr [] w2 (w2.alloc (.cells #[.int .u64 (smallW wd), .int .i64 (-1)] 139)) := (Fr.refl [] w2).alloc _
  have FB3 := Lib.hid (show blk (w2.alloc (.cells #[.int .u64 (smallW wd), .int .i64 (-1)] 139)) w2.heap.size = some (.cells #[.int .u64 (smallW wd), .int .i64 (-1)] 139 (0, 0)) by rw [blk_alloc, if_pos rfl])
  have B3 := Lib.hid (F3.at B2.out (by simp))
  generalize w2.alloc (.cells #[.int .u64 (smallW wd), .int .i64 (-1)] 139) = w3 at *
  have hfz : w2.heap.size ≤ w2.heap.size := Nat.le_refl _
  have F3 := Lib.hid F3
  have hfbn : w2.heap.size ≠ mg := by omega
  have Y3 := Lib.hid (Y2.out.keep F3.out)
  have y3 : w3.cell? ⟨c.y, 3, none⟩ = some S.mv := Y3.out.y3
  rw [HMV.out] at y3
  obtain ⟨hm8, _, mk⟩ := Y3.out.mfz HMV.out
  obtain ⟨m0, m1⟩ := mk b _ HFB.out
  simp only at m0 m1
  have k2 := cell_of B3.out (i := 2) rfl
  have q0 := cell_of FB3.out (i := 0) rfl
  have q1 := cell_of FB3.out (i := 1) rfl
  have qf : ∀ i, w3.frozen? ⟨w2.heap.size, i, none⟩ = false := fun i => free_of FB3.out
  have hmfb : mg ≠ w2.heap.size := by omega
  clear mk
  have KC : Hid (∀ wz, Fr [w2.heap.size] w3 wz → wz.cell? ⟨c.y, 3, none⟩ = some (.slice (some ⟨mg, 0, none⟩) 8 mcap) ∧ wz.cell? ⟨bx, 2, none⟩ = some (.int .i64 (b : Int)) ∧ wz.cell? ⟨mg, b * 2, none⟩ = some (.int .u64 fw) ∧ wz.cell? ⟨mg, b * 2 + 1, none⟩ = some (.int .i64 fk)) := Lib.hid (fun wz hF => ⟨cell_fr y3 hF (by simpa using hyn2), cell_fr k2 hF (by simpa using hbn2), cell_fr m0 hF (by simpa using hmfb), cell_fr m1 hF (by simpa using hmfb)⟩)
  go_region_held3 (fun W => W.cell? ⟨c.y, 3, none⟩ = some (.slice (some ⟨mg, 0, none⟩) 8 mcap) ∧ W.cell? ⟨bx, 2, none⟩ = some (.int .i64 (b : Int)) ∧ W.cell? ⟨mg, b * 2, none⟩ = some (.int .u64 fw) ∧ W.cell? ⟨mg, b * 2 + 1, none⟩ = some (.int .i64 fk)) (with_reducible first | assumption | exact KC.out _ (by assumption) | exact KC.out _ (Fr.refl _ _).drew | exact KC.out _ (((Fr.refl _ _).setCell (by simp) _).drew) | exact KC.out _ ((((Fr.refl _ _).setCell (by simp) _).setCell (by simp) _).drew) | exact KC.out _ (Fr.refl _ _)) (fail)
  have F4 := Lib.hid (show Fr [] w2 (((w3.setCell ⟨w2.heap.size, 0, none⟩ (.int .u64 fw)).setCell ⟨w2.heap.size, 1, none⟩ (.int .i64 fk)).drew) from ((F3.out.setCell (.inr (Nat.le_refl _)) _).setCell (.inr (Nat.le_refl _)) _).drew)
  have FB4 := Lib.hid (show blk (((w3.setCell ⟨w2.heap.size, 0, none⟩ (.int .u64 fw)).setCell ⟨w2.heap.size, 1, none⟩ (.int .i64 fk)).drew) w2.heap.size = some (.cells #[.int .u64 fw, .int .i64 fk] 139 (0, 0)) by rw [blk_drew, blk_set, if_pos rfl, blk_set, if_pos rfl, FB3.out]; rfl)
  have B4 := Lib.hid (F4.out.at B2.out (by simp))
  have Y4 := Lib.hid (Y2.out.keep F4.out)
  clear KC y3 k2 m0 m1 q0 q1 qf hm8 Y3 B3 FB3 F3
  generalize ((w3.setCell ⟨w2.heap.size, 0, none⟩ (.int .u64 fw)).setCell ⟨w2.heap.size, 1, none⟩ (.int .i64 fk)).drew = w4 at *
  have y1 : w4.cell? ⟨c.y, 1, none⟩ = some (.slice (some ⟨S.rb, 0, none⟩) 8 8) := Y4.out.y1
  have k2 := cell_of B4.out (i := 2) rfl
  have r0 := (Y4.out.root hb).1
  rw [← HV.out] at r0
  go_wp2_with fail
  have KC : Hid (∀ wz, Fr [] w4 wz → wz.cell? ⟨c.y, 1, none⟩ = some (.slice (some ⟨S.rb, 0, none⟩) 8 8) ∧ wz.cell? ⟨bx, 2, none⟩ = some (.int .i64 (b : Int)) ∧ wz.cell? ⟨S.rb, b, none⟩ = some (.int .u64 v)) := Lib.hid (fun wz hF => ⟨cell_fr y1 hF (by simp), cell_fr k2 hF (by simp), cell_fr r0 hF (by simp)⟩)
  go_region_held3 (fun W => W.cell? ⟨c.y, 1, none⟩ = some (.slice (some ⟨S.rb, 0, none⟩) 8 8) ∧ W.cell? ⟨bx, 2, none⟩ = some (.int .i64 (b : Int)) ∧ W.cell? ⟨S.rb, b, none⟩ = some (.int .u64 v)) (with_reducible first | assumption | exact KC.out _ (by assumption) | exact KC.out _ (Fr.refl _ _).drew | exact KC.out _ (((Fr.refl _ _).setCell (by simp) _).drew) | exact KC.out _ ((((Fr.refl _ _).setCell (by simp) _).setCell (by simp) _).drew) | exact KC.out _ (Fr.refl _ _)) (fail)
  have F5 := Lib.hid (F4.out.drew)
  have FB5 := Lib.hid ((Fr.refl [] w4).drew.at FB4.out (by simp))
  have B5 := Lib.hid (F5.out.at B2.out (by simp))
  have Y5 := Lib.hid (Y2.out.keep F5.out)
  clear KC y1 k2 r0 Y4 B4 FB4 F4 Y2
  generalize w4.drew = w5 at *
  have hgf : w2.heap.size ≠ fg := by omega
  clear hyn2 hon2 hbn2 hfz
  generalize w2.heap.size = fb at *
  have y2 : w5.cell? ⟨c.y, 2, none⟩ = some S.ov := Y5.out.y2
  rw [HOV.out] at y2
  obtain ⟨hoc5, _, ok5⟩ := Y5.out.ofz HOV.out HN0.out (by omega)
  obtain ⟨o0, o1⟩ := ok5 p x HX.out
  clear ok5
  rw [HFV.out] at o1
  obtain ⟨⟨fw', fk'⟩, hf'⟩ : ∃ f, x.fs[q]? = some f := ⟨x.fs[q]'(by have := HFN.out; omega), by rw [List.getElem?_eq_getElem]⟩
  obtain ⟨hfc, gf, gk⟩ := Y5.out.ffz HX.out HFV.out HFN.out (by omega)
  obtain ⟨g0, g1⟩ := gk q _ hf'
  simp only at g0 g1
  have k3 := cell_of B5.out (i := 3) rfl
  have q0 := cell_of FB5.out (i := 0) rfl
  have q1 := cell_of FB5.out (i := 1) rfl
  have hyg : c.y ≠ fg := (FD.out p x HX.out fg (by rw [HFV.out]; rfl)).2.1
  have hbg : bx ≠ fg := by have := (FD.out p x HX.out fg (by rw [HFV.out]; rfl)).1; omega
  have hog : og ≠ fg := HY.out.dis (rowsY_o S ex) (rowsY_f ex HX.out) (by omega) HOV.out.symm HFV.out.symm rfl rfl
  clear gk hf' o0
  go_wp2_with fail
  have KC : Hid (∀ wz, Fr [fg] w5 wz → wz.cell? ⟨c.y, 2, none⟩ = some (.slice (some ⟨og, 0, none⟩) n0 ocap) ∧ wz.cell? ⟨bx, 3, none⟩ = some (.int .i64 (q : Int)) ∧ wz.cell? ⟨og, p * 2 + 1, none⟩ = some (.slice (some ⟨fg, 0, none⟩) fn fcap) ∧ wz.cell? ⟨fb, 0, none⟩ = some (.int .u64 fw) ∧ wz.cell? ⟨fb, 1, none⟩ = some (.int .i64 fk)) := Lib.hid (fun wz hF => ⟨cell_fr y2 hF (by simpa using hyg), cell_fr k3 hF (by simpa using hbg), cell_fr o1 hF (by simpa using hog), cell_fr q0 hF (by simpa using hgf), cell_fr q1 hF (by simpa using hgf)⟩)
  go_region_held3 (fun W => W.cell? ⟨c.y, 2, none⟩ = some (.slice (some ⟨og, 0, none⟩) n0 ocap) ∧ W.cell? ⟨bx, 3, none⟩ = some (.int .i64 (q : Int)) ∧ W.cell? ⟨og, p * 2 + 1, none⟩ = some (.slice (some ⟨fg, 0, none⟩) fn fcap) ∧ W.cell? ⟨fb, 0, none⟩ = some (.int .u64 fw) ∧ W.cell? ⟨fb, 1, none⟩ = some (.int .i64 fk)) (with_reducible first | assumption | exact KC.out _ (by assumption) | exact KC.out _ (Fr.refl _ _).drew | exact KC.out _ (((Fr.refl _ _).setCell (by simp) _).drew) | exact KC.out _ ((((Fr.refl _ _).setCell (by simp) _).setCell (by simp) _).drew) | exact KC.out _ (Fr.refl _ _)) (fail)
  have Y6 := Lib.hid ((Y5.out.setF HX.out HFV.out HFN.out.symm hql ⟨fw, fk⟩).keep (Fr.refl [] _).drew)
  have B6 := Lib.hid (((((Fr.refl [fg] w5).setCell (by simp) _).setCell (by simp) _).drew).at (w' := ((w5.setCell ⟨fg, q * 2, none⟩ (.int .u64 fw)).setCell ⟨fg, q * 2 + 1, none⟩ (.int .i64 fk)).drew) B5.out (by simpa using hbg))
  try (simp only at Y6)
  clear KC y2 k3 o1 q0 q1 g0 g1 gf Y5 B5 FB5 F5
  generalize ((w5.setCell ⟨fg, q * 2, none⟩ (.int .u64 fw)).setCell ⟨fg, q * 2 + 1, none⟩ (.int .i64 fk)).drew = w6 at *
  have y0 : w6.cell? ⟨c.y, 0, none⟩ = _ := Y6.out.y0
  have y1 : w6.cell? ⟨c.y, 1, none⟩ = some (.slice (some ⟨S.rb, 0, none⟩) 8 8) := Y6.out.y1
  have k1 := cell_of B6.out (i := 1) rfl
  have k3 := cell_of B6.out (i := 3) rfl
  have r0 := (Y6.out.root ha).1
  simp only at r0
  rw [HROOT.out] at r0
  have CS := Lib.hid (fun wz (hF : Fr [] w6 wz) => oset_c wz (Y6.out.keep hF).he OKA.out WDA.out (pw o.a) (q : Int) v HPW.out.1 HPW.out.2 (by omega))
  rw [SE.out] at CS
  go_wp2_with fail
  have KC : Hid (∀ wz, Fr [c.b, c.wb, c.lb] w6 wz → wz.cell? ⟨c.y, 0, none⟩ = some (.pointer (some ⟨c.hb, 0, none⟩)) ∧ wz.cell? ⟨c.y, 1, none⟩ = some (.slice (some ⟨S.rb, 0, none⟩) 8 8) ∧ wz.cell? ⟨bx, 1, none⟩ = some (.int .i64 (a : Int)) ∧ wz.cell? ⟨bx, 3, none⟩ = some (.int .i64 (q : Int)) ∧ wz.cell? ⟨S.rb, a, none⟩ = some (.int .u64 (pw o.a))) := Lib.hid (fun wz hF => ⟨cell_fr y0 hF (by simpa using hy3), cell_fr y1 hF (by simpa using hy3), cell_fr k1 hF (by simpa using hn3), cell_fr k3 hF (by simpa using hn3), cell_fr r0 hF (by simpa using hr3)⟩)
  go_region_held3 (fun W => W.cell? ⟨c.y, 0, none⟩ = some (.pointer (some ⟨c.hb, 0, none⟩)) ∧ W.cell? ⟨c.y, 1, none⟩ = some (.slice (some ⟨S.rb, 0, none⟩) 8 8) ∧ W.cell? ⟨bx, 1, none⟩ = some (.int .i64 (a : Int)) ∧ W.cell? ⟨bx, 3, none⟩ = some (.int .i64 (q : Int)) ∧ W.cell? ⟨S.rb, a, none⟩ = some (.int .u64 (pw o.a))) (with_reducible first | assumption | exact KC.out _ (by assumption) | exact KC.out _ (Fr.refl _ _).drew | exact KC.out _ (((Fr.refl _ _).setCell (by simp) _).drew) | exact KC.out _ ((((Fr.refl _ _).setCell (by simp) _).setCell (by simp) _).drew) | exact KC.out _ (Fr.refl _ _)) (first | (go_at_call 19; refine (CS.out _ (by repeat (first | exact Fr.refl _ _ | assumption | apply Fr.drew))).mono ?_; rintro e w8 ⟨rfl, H8, F8⟩; have F9 : Fr [c.b, c.wb, c.lb] w6 w8 := Fr.pre (by repeat (first | exact Fr.refl _ _ | assumption | apply Fr.drew)) F8))
  have Y8 := Lib.hid (Y6.out.heap F9 H8)
  have B8 := Lib.hid (F9.at B6.out hn3)
  clear KC y0 y1 k1 k3 r0 CS Y6 B6 H8 F8 F9
  have y2 : w8.cell? ⟨c.y, 2, none⟩ = some S.ov := Y8.out.y2
  rw [HOV.out] at y2
  obtain ⟨hoc8, _, ok8⟩ := Y8.out.ofz (n := n0) (by simpa only using HOV.out) (by simpa only [List.length_set] using HN0.out) (by omega)
  obtain ⟨o0, o1⟩ := ok8 p { x with fs := x.fs.set q ⟨fw, fk⟩ } (by simp only; rw [List.getElem?_set_self (by rw [← HN0.out]; exact hpn)])
  simp only at o0 o1
  have k3 := cell_of B8.out (i := 3) rfl
  clear ok8
  have hqb : ((q : Int) != 1) = false := by rw [HQ1.out]; rfl
  have hs0 := HSTX.out
  rw [hs0] at o0
  clear hs0
  have L8 := Lib.hid (show LS w0 w8 c ex (setF A m (pw o.a) (q : Int) v).1 m G K D S p x o ⟨fw, fk⟩ v 2 (o.fs.set 1 v) (x.fs.set 1 ⟨fw, fk⟩) by
    have h1 := Y8.out
    have h2 := HG1.out
    rw [HQ1.out] at h1 h2 ⊢
    have h3 := UN1.out
    rw [HQ1.out] at h3
    exact LS.start h1 h2 h3 (by have := HFN.out; omega) HXL.out)
  clear Y8 HG1 UN1
  go_wp2_with fail
  clear o0 o1 k3 y2 hqb
  generalize setF A m (pw o.a) (q : Int) v = A8 at *
  go_loopw [14] (fun u wr => ∃ (k : Nat) (A2 : Ar) (ys : List Int) (gs : List Fd), 2 ≤ k ∧ k ≤ fn ∧ u = .int .i64 (k : Int) ∧ Hid (LS w0 wr c ex A2 m G K D S p x o ⟨fw, fk⟩ v k ys gs) ∧ Hid (blk wr bx = some (.cells #[.int .i64 1, .int .i64 (a : Int), .int .i64 (b : Int), .int .i64 (q : Int), .int .i64 n, .int .u64 wd, .int .i64 p0, .int .i64 p1] 80 (0, 0)))) (fun u _ => fn - (intOf u).toNat)
  case atStart => exact ⟨2, _, _, _, by omega, by omega, by go_num, L8, B8⟩
  case round =>
    obtain ⟨k, A2, ys, gs, hk2, hkn, rfl, LK, BK⟩ := hrel
    clear L8 B8
    have y2 : wr.cell? ⟨c.y, 2, none⟩ = some S.ov := LK.out.y.y2
    rw [HOV.out] at y2
    obtain ⟨hock, _, okk⟩ := LK.out.y.ofz (n := n0) (by simpa only using HOV.out) (by simpa only [List.length_set] using HN0.out) (by omega)
    have hpx : ({ S with objs := S.objs.set p { x with fs := gs } } : Ys).objs[p]? = some { x with fs := gs } := by simp only; rw [List.getElem?_set_self (by rw [← HN0.out]; exact hpn)]
    have o1 := (okk p _ hpx).2
    simp only at o1
    rw [HFV.out] at o1
    clear okk
    have hgl : fn = gs.length := by rw [LK.out.gl]; exact HFN.out
    by_cases hlt : k < fn
    · obtain ⟨⟨fw', fk'⟩, hf'⟩ : ∃ f, gs[k]? = some f := ⟨gs[k]'(by omega), by rw [List.getElem?_eq_getElem]⟩
      obtain ⟨hfc, gf, gk⟩ := LK.out.y.ffz hpx (show ({ x with fs := gs } : Mo).v = _ from HFV.out) hgl (by omega)
      obtain ⟨g0, g1⟩ := gk k _ hf'
      simp only at g0 g1
      have Y9 := Lib.hid (LK.out.y.setF hpx (show ({ x with fs := gs } : Mo).v = _ from HFV.out) hgl.symm hlt ⟨0, -1⟩)
      simp only [List.set_set] at Y9
      have SE := Lib.hid (LK.out.set HD.out HXL.out (by have := HFN.out; omega))
      have HGL := Lib.hid hgl
      clear gk hf' hpx hgl
      go_wp2_with fail
      have B9 := Lib.hid ((((Fr.refl [fg] wr).setCell (by simp) _).setCell (by simp) _).at (w' := (wr.setCell ⟨fg, k * 2, none⟩ (.int .u64 0)).setCell ⟨fg, k * 2 + 1, none⟩ (.int .i64 (-1))) BK.out (by simpa using hbg))
      generalize (wr.setCell ⟨fg, k * 2, none⟩ (.int .u64 0)).setCell ⟨fg, k * 2 + 1, none⟩ (.int .i64 (-1)) = w9 at *
      clear y2 o1 g0 g1 gf BK
      have y0 : w9.cell? ⟨c.y, 0, none⟩ = _ := Y9.out.y0
      have y1 : w9.cell? ⟨c.y, 1, none⟩ = some (.slice (some ⟨S.rb, 0, none⟩) 8 8) := Y9.out.y1
      have k1 := cell_of B9.out (i := 1) rfl
      have r0 := (Y9.out.root ha).1
      simp only at r0
      rw [HROOT.out] at r0
      have hk240 : k ≤ 240 := by omega
      have CS := Lib.hid (fun wz (hF : Fr [] w9 wz) => oset_c wz (Y9.out.keep hF).he LK.out.hg.inv.ok LK.out.hg.wd (pw o.a) (k : Int) 0 HPW.out.1 HPW.out.2 (by omega))
      rw [SE.out] at CS
      have KC : Hid (∀ wz, Fr [c.b, c.wb, c.lb] w9 wz → wz.cell? ⟨c.y, 0, none⟩ = some (.pointer (some ⟨c.hb, 0, none⟩)) ∧ wz.cell? ⟨c.y, 1, none⟩ = some (.slice (some ⟨S.rb, 0, none⟩) 8 8) ∧ wz.cell? ⟨bx, 1, none⟩ = some (.int .i64 (a : Int)) ∧ wz.cell? ⟨S.rb, a, none⟩ = some (.int .u64 (pw o.a))) := Lib.hid (fun wz hF => ⟨cell_fr y0 hF (by simpa using hy3), cell_fr y1 hF (by simpa using hy3), cell_fr k1 hF (by simpa using hn3), cell_fr r0 hF (by simpa using hr3)⟩)
      go_region_held3 (fun W => W.cell? ⟨c.y, 0, none⟩ = some (.pointer (some ⟨c.hb, 0, none⟩)) ∧ W.cell? ⟨c.y, 1, none⟩ = some (.slice (some ⟨S.rb, 0, none⟩) 8 8) ∧ W.cell? ⟨bx, 1, none⟩ = some (.int .i64 (a : Int)) ∧ W.cell? ⟨S.rb, a, none⟩ = some (.int .u64 (pw o.a))) (with_reducible first | assumption | exact KC.out _ (by assumption) | exact KC.out _ (Fr.refl _ _).drew | exact KC.out _ (((Fr.refl _ _).setCell (by simp) _).drew) | exact KC.out _ ((((Fr.refl _ _).setCell (by simp) _).setCell (by simp) _).drew) | exact KC.out _ (Fr.refl _ _)) (first | (go_at_call 19; refine (CS.out _ (by repeat (first | exact Fr.refl _ _ | assumption | apply Fr.drew))).mono ?_; rintro e w10 ⟨rfl, H10, F10⟩; have F11 : Fr [c.b, c.wb, c.lb] w9 w10 := Fr.pre (by repeat (first | exact Fr.refl _ _ | assumption | apply Fr.drew)) F10))
      have L10 := Lib.hid (LK.out.next HXL.out hk2 (by have := HFN.out; omega) (Y9.out.heap F11 H10))
      have B10 := Lib.hid (F11.at B9.out hn3)
      clear KC y0 y1 k1 r0 CS Y9 B9 H10 F10 F11 LK SE
      go_wp2
      go_roundw
      case rel => exact ⟨k + 1, _, _, _, by omega, by omega, by go_num, L10, B10⟩
      case measure => simp [intOf]; omega
    · have hkf : k = fn := by omega
      have L9 := Lib.hid (show LS w0 wr c ex A2 m G K D S p x o ⟨fw, fk⟩ v fn ys gs by have := LK.out; rw [hkf] at this; exact this)
      have HKF := Lib.hid hkf
      have HJK := Lib.hid hlt
      clear LK BK hkf hpx hgl
      go_wp2
      go_ret
      exact fin.out _ _ _ _ L9.out
set_option maxRecDepth 100000 in
set_option maxHeartbeats 8000000 in
theorem step_2os (hY : YAt w0 w c A S ex) (hI : YI m A S G K D) (a b : Nat) (ha : a < 8) (hb : b < 8) (q : Nat) (n wd p0 p1 kb : Int) (p : Nat)  (HKA : Hid ((p : Int) = (S.mr[a]?.getD ⟨0, -1⟩).k)) (HKB : Hid (kb = (S.mr[b]?.getD ⟨0, -1⟩).k)) (HWD : Hid (Wd64 wd)) (hq : ∀ x, S.objs[p]? = some x → q < x.fs.length) (hst : ∀ x, S.objs[p]? = some x → x.kind = 15) (hq1 : q = 1) :
    Calls Try.prog 40 #[.pointer (some ⟨c.y, 0, none⟩), .agg #[.int .i64 2, .int .i64 (a : Int), .int .i64 (b : Int), .int .i64 (q : Int), .int .i64 n, .int .u64 wd, .int .i64 p0, .int .i64 p1]] w (StepOk w0 c ex m S ⟨2, a, b, (q : Int), n, wd, p0, p1⟩) := by
  obtain ⟨o, x, pn, hD, hx, hpp, hob, hroot⟩ := hI.rootObj ha HKA.out
  have hcnt := hI.cnt hD hx hob
  have hxb := hI.mb.f x (List.mem_of_getElem? hx)
  obtain ⟨n0, hn0⟩ : ∃ n0, n0 = S.objs.length := ⟨_, rfl⟩
  have hpn : p < n0 := by rw [hn0]; exact lt_some hx
  have hn1 : n0 ≤ 1000 := by rw [hn0]; exact hI.mb.n
  obtain ⟨og, ocap, hov, hoc, hoo, _, _⟩ := hY.orow (by omega)
  rw [← hn0] at hov hoc
  have HN0 := Lib.hid hn0
  have HOV := Lib.hid hov
  have HX := Lib.hid hx
  have HD := Lib.hid hD
  have HPP := Lib.hid hpp
  have HROOT := Lib.hid hroot
  have HOB := Lib.hid hob
  have HXB := Lib.hid hxb
  have HXL := Lib.hid hob.l
  have hxl := hxb.1
  have hxf := hob.l
  obtain ⟨cn, hcn⟩ : ∃ cn : Nat, cntM x.kind x.fs = cn := ⟨cntO o, hcnt⟩
  have hcb := cntM_b x.kind x.fs (fun f hf => (hxb.2 f hf).1.1)
  have CC := Lib.hid (fun wz (hF : Fr [] w wz) => counted_m wz x.kind x.v x.fs ((hY.keep hF).fds hx) (by omega) (fun f hf => (hxb.2 f hf).1))
  rw [hcn] at CC hcb
  have HCN := Lib.hid hcn
  have HCO := Lib.hid (show cn = cntO o by omega)
  have HPW := Lib.hid (hI.hg.pwb hD)
  have OKA := Lib.hid hI.hg.inv.ok
  have WDA := Lib.hid hI.hg.wd
  have HI := Lib.hid hI
  have hql := hq x hx
  have hstx := hst x hx
  have STX := Lib.hid hstx
  obtain ⟨fw, hfwe⟩ : ∃ fw, fw = smallW wd := ⟨_, rfl⟩
  obtain ⟨fk, hfke⟩ : ∃ fk : Int, fk = -1 := ⟨_, rfl⟩
  have hsw := smallW_w HWD.out
  rw [← hfwe] at hsw
  have hfw : Fw D ⟨fw, fk⟩ fw := by rw [hfke]; exact Fw.plain _ hsw.2
  have hww : Wd64 fw := hsw.1
  have HFD : Hid (S.md.fd ⟨2, a, b, (q : Int), n, wd, p0, p1⟩ = ⟨fw, fk⟩) := Lib.hid (by
    unfold Md.fd
    simp only
    rw [md_at S a HKA.out, (md_kd hx).1, if_neg (by simp), hfwe, hfke])
  have hraw : 16 ≤ x.kind → (⟨fw, fk⟩ : Fd).k = -1 := fun _ => hfke
  have HFWE := Lib.hid hfwe
  have HFKE := Lib.hid hfke
  have hvw := hfw.w hI.hg hww
  have HVW := Lib.hid hvw
  obtain ⟨fg, fcap, hfv, _, hfo, _, _⟩ := hY.frow hx (by omega)
  obtain ⟨fn, hfn⟩ : ∃ fn, fn = x.fs.length := ⟨_, rfl⟩
  rw [← hfn] at hfv hql
  have HFN := Lib.hid hfn
  have HFV := Lib.hid hfv
  have hfl := hob.l
  have SE : Hid ((setF A m (pw o.a) (q : Int) fw).2 = 0) := Lib.hid (hI.hg.setS hD q (by omega) hvw.1 hvw.2).1
  have HG1 : Hid (HG (setF A m (pw o.a) (q : Int) fw).1 m G K (updD D p { o with fs := o.fs.set q fw })) := Lib.hid (hI.hg.setS hD q (by omega) hvw.1 hvw.2).2
  have UN1 : Hid (Unmarked (setF A m (pw o.a) (q : Int) fw).1 m) := Lib.hid (hI.un.set _ _ _)
  have hf2 : 2 ≤ fn := by omega
  have HQ1 := Lib.hid hq1
  clear hq1
  have HSTX := Lib.hid hstx
  have HFW := Lib.hid hfw
  have HWW := Lib.hid hww
  have hfn2 : fn ≤ 240 := by omega
  clear hq hst hfv hfn hfo hfl hfw hww hvw hraw hstx
  clear hsw hfwe hfke
  have hstk := HSTX.out
  have hxo := HXL.out
  have fin : Hid (∀ w' A2 ys gs, LS w0 w' c ex A2 m G K D S p x o ⟨fw, fk⟩ fw fn ys gs → StepOk w0 c ex m S ⟨2, a, b, (q : Int), n, wd, p0, p1⟩ (.returned (.bool true)) w') := Lib.hid (fun w' A2 ys gs h => by
    rw [HFN.out] at h
    obtain ⟨i1, i2⟩ := h.fin HI.out hD hx hstk (by have := HFN.out; omega) hxo HFW.out HWW.out
    refine ⟨true, _, _, G, K, _, rfl, h.y, i1, ?_⟩
    rw [stepM_1 (Ac.on ha hb _ _ _ _ _ _) (by simp)]
    simp only
    rw [md_at S a HKA.out, (md_kd hx).2, if_neg (by have := HFN.out; omega), HFD.out]
    unfold Md.setFd
    simp only
    rw [md_at S a HKA.out, (md_kd hx).1, (md_kd hx).2, if_pos ⟨hstk, by have := HQ1.out; omega⟩, Int.toNat_natCast, Int.toNat_natCast, HQ1.out]
    unfold Ys.md
    simp only [List.map_set]
    rw [i2])
  clear hstk hxo
  clear hD hx hpp hob hroot hxb hcn hcnt hn0 hov hoo hxf
  have HY := Lib.hid hY
  have CO := Lib.hid (fun w' (hF : Fr [] w w') => yobject_k (hY.keep hF) a ha (p) HKA.out)
  have CB := Lib.hid (fun w' (hF : Fr [] w w') => yobject_k (hY.keep hF) b hb (kb) HKB.out)
  obtain ⟨mg, mcap, hmv, _, _, _, _⟩ := hY.mrow
  have HMV := Lib.hid hmv
  clear hY hI hmv
  have ha0 : (0 : Int) ≤ (a : Int) := by omega
  have ha8 : (a : Int) < 8 := by omega
  have hb0 : (0 : Int) ≤ (b : Int) := by omega
  have hb8 : (b : Int) < 8 := by omega
  go_enter Try.func40, Try.ntmps40
  go_wp2_with fail
  refine (CO.out _ ((Fr.refl _ _).alloc _)).mono ?_
  rintro e w' ⟨rfl, rfl⟩
  have F1 : Fr [] w (w.alloc (.cells #[.int .i64 2, .int .i64 (a : Int), .int .i64 (b : Int), .int .i64 (q : Int), .int .i64 n, .int .u64 wd, .int .i64 p0, .int .i64 p1] 80)) := (Fr.refl [] w).alloc _
  have Y1 := Lib.hid (HY.out.keep F1)
  have B1 := Lib.hid (show blk (w.alloc (.cells #[.int .i64 2, .int .i64 (a : Int), .int .i64 (b : Int), .int .i64 (q : Int), .int .i64 n, .int .u64 wd, .int .i64 p0, .int .i64 p1] 80)) w.heap.size = some (.cells #[.int .i64 2, .int .i64 (a : Int), .int .i64 (b : Int), .int .i64 (q : Int), .int .i64 n, .int .u64 wd, .int .i64 p0, .int .i64 p1] 80 (0, 0)) by rw [blk_alloc, if_pos rfl])
  have NB := Lib.hid (HY.out.lt_all)
  have NY := Lib.hid HY.out.ny
  have HTOP := Lib.hid HY.out.all_lt
  have FD := Lib.hid (fun (j : Nat) (o : Mo) (ho : S.objs[j]? = some o) (x : Nat) (hx : o.v.ownBlock = some x) => HY.out.nfd ho hx)
  have CB1 := Lib.hid (fun w' (hF : Fr [] (w.alloc (.cells #[.int .i64 2, .int .i64 (a : Int), .int .i64 (b : Int), .int .i64 (q : Int), .int .i64 n, .int .u64 wd, .int .i64 p0, .int .i64 p1] 80)) w') => yobject_k (Y1.out.keep hF) b hb (kb) HKB.out)
  generalize w.alloc (.cells #[.int .i64 2, .int .i64 (a : Int), .int .i64 (b : Int), .int .i64 (q : Int), .int .i64 n, .int .u64 wd, .int .i64 p0, .int .i64 p1] 80) = w1 at *
  generalize w.heap.size = bx at *
  have hnb : bx ≠ S.rb := by have := NB.out.2.1; omega
  have hny : c.y ≠ S.rb := NY.out.1
  have hnc : bx ≠ c.y := by have := NB.out.1; omega
  have hn3 : bx ∉ [c.b, c.wb, c.lb] := Yk.three (fun hm => by have := HTOP.out bx hm; omega)
  have hy3 : c.y ∉ [c.b, c.wb, c.lb] := HY.out.yne.1
  have hr3 : S.rb ∉ [c.b, c.wb, c.lb] := HY.out.nall (rowsY_r S ex) rfl rfl
  have hmo : S.mv.ownBlock = some mg := by rw [HMV.out]; rfl
  have hnm : bx ≠ mg := by have := NB.out.2.2.1 mg hmo; omega
  have hym : c.y ≠ mg := NY.out.2.1 mg hmo
  clear hmo
  have k0 := cell_of B1.out (i := 0) rfl
  go_wp2_with fail
  clear k0
  have k3 := cell_of B1.out (i := 3) rfl
  have y2 : w1.cell? ⟨c.y, 2, none⟩ = some S.ov := Y1.out.y2
  rw [HOV.out] at y2
  obtain ⟨hoc1, _, ok1⟩ := Y1.out.ofz HOV.out HN0.out (by omega)
  obtain ⟨o0, o1⟩ := ok1 p x HX.out
  clear ok1
  rw [HFV.out] at o1
  have hc1 : decide ((p : Int) < 0) = false := by simp
  have hc2 : decide ((q : Int) < 0) = false := by simp
  have hc3 : decide (fn ≤ q) = false := by simpa using hql
  clear o0
  go_wp2_with fail
  have KC : Hid (∀ wz, Fr [] w1 wz → wz.cell? ⟨c.y, 2, none⟩ = some (.slice (some ⟨og, 0, none⟩) n0 ocap) ∧ wz.cell? ⟨bx, 3, none⟩ = some (.int .i64 (q : Int)) ∧ wz.cell? ⟨og, p * 2 + 1, none⟩ = some (.slice (some ⟨fg, 0, none⟩) fn fcap)) := Lib.hid (fun wz hF => ⟨cell_fr y2 hF (by simp), cell_fr k3 hF (by simp), cell_fr o1 hF (by simp)⟩)
  go_region_held3 (fun W => W.cell? ⟨c.y, 2, none⟩ = some (.slice (some ⟨og, 0, none⟩) n0 ocap) ∧ W.cell? ⟨bx, 3, none⟩ = some (.int .i64 (q : Int)) ∧ W.cell? ⟨og, p * 2 + 1, none⟩ = some (.slice (some ⟨fg, 0, none⟩) fn fcap)) (with_reducible first | assumption | exact KC.out _ (by assumption) | exact KC.out _ (Fr.refl _ _).drew | exact KC.out _ (((Fr.refl _ _).setCell (by simp) _).drew) | exact KC.out _ ((((Fr.refl _ _).setCell (by simp) _).setCell (by simp) _).drew) | exact KC.out _ (Fr.refl _ _)) (fail)
  have Y2 := Lib.hid (Y1.out.keep (Fr.refl [] _).drew)
  have B2 := Lib.hid ((Fr.refl [] w1).drew.at B1.out (by simp))
  clear hc1 hc2 hc3 KC y2 o1 k3 Y1 B1
  generalize w1.drew = w2 at *
  have k0 := cell_of B2.out (i := 0) rfl
  have k5 := cell_of B2.out (i := 5) rfl
  have LW := Lib.hid Y2.out.lt_all
  have hbl2 : bx < w2.heap.size := lt_size B2.out
  have hyl2 : c.y < w2.heap.size := LW.out.1
  have hol2 : og < w2.heap.size := LW.out.2.2.2.1 og (by show S.ov.ownBlock = _; rw [HOV.out]; rfl)
  have hgl2 : fg < w2.heap.size := (Y2.out.nfd HX.out (by rw [HFV.out]; rfl)).1
  have hrl2 : S.rb < w2.heap.size := LW.out.2.1
  have hml2 : mg < w2.heap.size := LW.out.2.2.1 mg (by show S.mv.ownBlock = _; rw [HMV.out]; rfl)
  have hyn2 : c.y ≠ w2.heap.size := by omega
  have hon2 : og ≠ w2.heap.size := by omega
  have hbn2 : bx ≠ w2.heap.size := by omega
  have y2 : w2.cell? ⟨c.y, 2, none⟩ = some S.ov := Y2.out.y2
  rw [HOV.out] at y2
  obtain ⟨hoc2, _, ok2⟩ := Y2.out.ofz HOV.out HN0.out (by omega)
  obtain ⟨o0, o1⟩ := ok2 p x HX.out
  clear ok2
  rw [HFV.out] at o1
  go_wp2_with fail
  refine (ysmall_c _ wd HWD.out.1 HWD.out.2).mono ?_
  rintro e w' ⟨rfl, rfl⟩
  rw [← HFWE.out]
  go_wp2_with fail
  clear k0 k5 y2 o0 o1
  have F3 : Fr [] w2 (w2.alloc (.cells #[.int .u64 (fw), .int .i64 (-1)] 139)) := (Fr.refl [] w2).alloc _
  have FB3 := Lib.hid (show blk (w2.alloc (.cells #[.int .u64 (fw), .int .i64 (-1)] 139)) w2.heap.size = some (.cells #[.int .u64 (fw), .int .i64 (-1)] 139 (0, 0)) by rw [blk_alloc, if_pos rfl])
  have B3 := Lib.hid (F3.at B2.out (by simp))
  generalize w2.alloc (.cells #[.int .u64 (fw), .int .i64 (-1)] 139) = w3 at *
  have hfz : w2.heap.size ≤ w2.heap.size := Nat.le_refl _
  have F3 := Lib.hid F3
  have F5 := F3
  have FB5 : Hid (blk w3 w2.heap.size = some (.cells #[.int .u64 fw, .int .i64 fk] 139 (0, 0))) := Lib.hid (by rw [FB3.out, HFKE.out])
  have B5 := B3
  have Y5 := Lib.hid (Y2.out.keep F5.out)
  clear B3 F3 FB3 Y2
  generalize w3 = w5 at *
  have hgf : w2.heap.size ≠ fg := by omega
  clear hyn2 hon2 hbn2 hfz
  generalize w2.heap.size = fb at *
  have y2 : w5.cell? ⟨c.y, 2, none⟩ = some S.ov := Y5.out.y2
  rw [HOV.out] at y2
  obtain ⟨hoc5, _, ok5⟩ := Y5.out.ofz HOV.out HN0.out (by omega)
  obtain ⟨o0, o1⟩ := ok5 p x HX.out
  clear ok5
  rw [HFV.out] at o1
  obtain ⟨⟨fw', fk'⟩, hf'⟩ : ∃ f, x.fs[q]? = some f := ⟨x.fs[q]'(by have := HFN.out; omega), by rw [List.getElem?_eq_getElem]⟩
  obtain ⟨hfc, gf, gk⟩ := Y5.out.ffz HX.out HFV.out HFN.out (by omega)
  obtain ⟨g0, g1⟩ := gk q _ hf'
  simp only at g0 g1
  have k3 := cell_of B5.out (i := 3) rfl
  have q0 := cell_of FB5.out (i := 0) rfl
  have q1 := cell_of FB5.out (i := 1) rfl
  have hyg : c.y ≠ fg := (FD.out p x HX.out fg (by rw [HFV.out]; rfl)).2.1
  have hbg : bx ≠ fg := by have := (FD.out p x HX.out fg (by rw [HFV.out]; rfl)).1; omega
  have hog : og ≠ fg := HY.out.dis (rowsY_o S ex) (rowsY_f ex HX.out) (by omega) HOV.out.symm HFV.out.symm rfl rfl
  clear gk hf' o0
  go_wp2_with fail
  have KC : Hid (∀ wz, Fr [fg] w5 wz → wz.cell? ⟨c.y, 2, none⟩ = some (.slice (some ⟨og, 0, none⟩) n0 ocap) ∧ wz.cell? ⟨bx, 3, none⟩ = some (.int .i64 (q : Int)) ∧ wz.cell? ⟨og, p * 2 + 1, none⟩ = some (.slice (some ⟨fg, 0, none⟩) fn fcap) ∧ wz.cell? ⟨fb, 0, none⟩ = some (.int .u64 fw) ∧ wz.cell? ⟨fb, 1, none⟩ = some (.int .i64 fk)) := Lib.hid (fun wz hF => ⟨cell_fr y2 hF (by simpa using hyg), cell_fr k3 hF (by simpa using hbg), cell_fr o1 hF (by simpa using hog), cell_fr q0 hF (by simpa using hgf), cell_fr q1 hF (by simpa using hgf)⟩)
  go_region_held3 (fun W => W.cell? ⟨c.y, 2, none⟩ = some (.slice (some ⟨og, 0, none⟩) n0 ocap) ∧ W.cell? ⟨bx, 3, none⟩ = some (.int .i64 (q : Int)) ∧ W.cell? ⟨og, p * 2 + 1, none⟩ = some (.slice (some ⟨fg, 0, none⟩) fn fcap) ∧ W.cell? ⟨fb, 0, none⟩ = some (.int .u64 fw) ∧ W.cell? ⟨fb, 1, none⟩ = some (.int .i64 fk)) (with_reducible first | assumption | exact KC.out _ (by assumption) | exact KC.out _ (Fr.refl _ _).drew | exact KC.out _ (((Fr.refl _ _).setCell (by simp) _).drew) | exact KC.out _ ((((Fr.refl _ _).setCell (by simp) _).setCell (by simp) _).drew) | exact KC.out _ (Fr.refl _ _)) (fail)
  have Y6 := Lib.hid ((Y5.out.setF HX.out HFV.out HFN.out.symm hql ⟨fw, fk⟩).keep (Fr.refl [] _).drew)
  have B6 := Lib.hid (((((Fr.refl [fg] w5).setCell (by simp) _).setCell (by simp) _).drew).at (w' := ((w5.setCell ⟨fg, q * 2, none⟩ (.int .u64 fw)).setCell ⟨fg, q * 2 + 1, none⟩ (.int .i64 fk)).drew) B5.out (by simpa using hbg))
  try (simp only at Y6)
  clear KC y2 k3 o1 q0 q1 g0 g1 gf Y5 B5 FB5 F5
  generalize ((w5.setCell ⟨fg, q * 2, none⟩ (.int .u64 fw)).setCell ⟨fg, q * 2 + 1, none⟩ (.int .i64 fk)).drew = w6 at *
  have y0 : w6.cell? ⟨c.y, 0, none⟩ = _ := Y6.out.y0
  have y1 : w6.cell? ⟨c.y, 1, none⟩ = some (.slice (some ⟨S.rb, 0, none⟩) 8 8) := Y6.out.y1
  have k1 := cell_of B6.out (i := 1) rfl
  have k3 := cell_of B6.out (i := 3) rfl
  have r0 := (Y6.out.root ha).1
  simp only at r0
  rw [HROOT.out] at r0
  have CS := Lib.hid (fun wz (hF : Fr [] w6 wz) => oset_c wz (Y6.out.keep hF).he OKA.out WDA.out (pw o.a) (q : Int) fw HPW.out.1 HPW.out.2 (by omega))
  rw [SE.out] at CS
  go_wp2_with fail
  have KC : Hid (∀ wz, Fr [c.b, c.wb, c.lb] w6 wz → wz.cell? ⟨c.y, 0, none⟩ = some (.pointer (some ⟨c.hb, 0, none⟩)) ∧ wz.cell? ⟨c.y, 1, none⟩ = some (.slice (some ⟨S.rb, 0, none⟩) 8 8) ∧ wz.cell? ⟨bx, 1, none⟩ = some (.int .i64 (a : Int)) ∧ wz.cell? ⟨bx, 3, none⟩ = some (.int .i64 (q : Int)) ∧ wz.cell? ⟨S.rb, a, none⟩ = some (.int .u64 (pw o.a))) := Lib.hid (fun wz hF => ⟨cell_fr y0 hF (by simpa using hy3), cell_fr y1 hF (by simpa using hy3), cell_fr k1 hF (by simpa using hn3), cell_fr k3 hF (by simpa using hn3), cell_fr r0 hF (by simpa using hr3)⟩)
  go_region_held3 (fun W => W.cell? ⟨c.y, 0, none⟩ = some (.pointer (some ⟨c.hb, 0, none⟩)) ∧ W.cell? ⟨c.y, 1, none⟩ = some (.slice (some ⟨S.rb, 0, none⟩) 8 8) ∧ W.cell? ⟨bx, 1, none⟩ = some (.int .i64 (a : Int)) ∧ W.cell? ⟨bx, 3, none⟩ = some (.int .i64 (q : Int)) ∧ W.cell? ⟨S.rb, a, none⟩ = some (.int .u64 (pw o.a))) (with_reducible first | assumption | exact KC.out _ (by assumption) | exact KC.out _ (Fr.refl _ _).drew | exact KC.out _ (((Fr.refl _ _).setCell (by simp) _).drew) | exact KC.out _ ((((Fr.refl _ _).setCell (by simp) _).setCell (by simp) _).drew) | exact KC.out _ (Fr.refl _ _)) (first | (go_at_call 19; refine (CS.out _ (by repeat (first | exact Fr.refl _ _ | assumption | apply Fr.drew))).mono ?_; rintro e w8 ⟨rfl, H8, F8⟩; have F9 : Fr [c.b, c.wb, c.lb] w6 w8 := Fr.pre (by repeat (first | exact Fr.refl _ _ | assumption | apply Fr.drew)) F8))
  have Y8 := Lib.hid (Y6.out.heap F9 H8)
  have B8 := Lib.hid (F9.at B6.out hn3)
  clear KC y0 y1 k1 k3 r0 CS Y6 B6 H8 F8 F9
  have y2 : w8.cell? ⟨c.y, 2, none⟩ = some S.ov := Y8.out.y2
  rw [HOV.out] at y2
  obtain ⟨hoc8, _, ok8⟩ := Y8.out.ofz (n := n0) (by simpa only using HOV.out) (by simpa only [List.length_set] using HN0.out) (by omega)
  obtain ⟨o0, o1⟩ := ok8 p { x with fs := x.fs.set q ⟨fw, fk⟩ } (by simp only; rw [List.getElem?_set_self (by rw [← HN0.out]; exact hpn)])
  simp only at o0 o1
  have k3 := cell_of B8.out (i := 3) rfl
  clear ok8
  have hqb : ((q : Int) != 1) = false := by rw [HQ1.out]; rfl
  have hs0 := HSTX.out
  rw [hs0] at o0
  clear hs0
  have L8 := Lib.hid (show LS w0 w8 c ex (setF A m (pw o.a) (q : Int) fw).1 m G K D S p x o ⟨fw, fk⟩ fw 2 (o.fs.set 1 fw) (x.fs.set 1 ⟨fw, fk⟩) by
    have h1 := Y8.out
    have h2 := HG1.out
    rw [HQ1.out] at h1 h2 ⊢
    have h3 := UN1.out
    rw [HQ1.out] at h3
    exact LS.start h1 h2 h3 (by have := HFN.out; omega) HXL.out)
  clear Y8 HG1 UN1
  go_wp2_with fail
  clear o0 o1 k3 y2 hqb
  generalize setF A m (pw o.a) (q : Int) fw = A8 at *
  go_loopw [14] (fun u wr => ∃ (k : Nat) (A2 : Ar) (ys : List Int) (gs : List Fd), 2 ≤ k ∧ k ≤ fn ∧ u = .int .i64 (k : Int) ∧ Hid (LS w0 wr c ex A2 m G K D S p x o ⟨fw, fk⟩ fw k ys gs) ∧ Hid (blk wr bx = some (.cells #[.int .i64 2, .int .i64 (a : Int), .int .i64 (b : Int), .int .i64 (q : Int), .int .i64 n, .int .u64 wd, .int .i64 p0, .int .i64 p1] 80 (0, 0)))) (fun u _ => fn - (intOf u).toNat)
  case atStart => exact ⟨2, _, _, _, by omega, by omega, by go_num, L8, B8⟩
  case round =>
    obtain ⟨k, A2, ys, gs, hk2, hkn, rfl, LK, BK⟩ := hrel
    clear L8 B8
    have y2 : wr.cell? ⟨c.y, 2, none⟩ = some S.ov := LK.out.y.y2
    rw [HOV.out] at y2
    obtain ⟨hock, _, okk⟩ := LK.out.y.ofz (n := n0) (by simpa only using HOV.out) (by simpa only [List.length_set] using HN0.out) (by omega)
    have hpx : ({ S with objs := S.objs.set p { x with fs := gs } } : Ys).objs[p]? = some { x with fs := gs } := by simp only; rw [List.getElem?_set_self (by rw [← HN0.out]; exact hpn)]
    have o1 := (okk p _ hpx).2
    simp only at o1
    rw [HFV.out] at o1
    clear okk
    have hgl : fn = gs.length := by rw [LK.out.gl]; exact HFN.out
    by_cases hlt : k < fn
    · obtain ⟨⟨fw', fk'⟩, hf'⟩ : ∃ f, gs[k]? = some f := ⟨gs[k]'(by omega), by rw [List.getElem?_eq_getElem]⟩
      obtain ⟨hfc, gf, gk⟩ := LK.out.y.ffz hpx (show ({ x with fs := gs } : Mo).v = _ from HFV.out) hgl (by omega)
      obtain ⟨g0, g1⟩ := gk k _ hf'
      simp only at g0 g1
      have Y9 := Lib.hid (LK.out.y.setF hpx (show ({ x with fs := gs } : Mo).v = _ from HFV.out) hgl.symm hlt ⟨0, -1⟩)
      simp only [List.set_set] at Y9
      have SE := Lib.hid (LK.out.set HD.out HXL.out (by have := HFN.out; omega))
      have HGL := Lib.hid hgl
      clear gk hf' hpx hgl
      go_wp2_with fail
      have B9 := Lib.hid ((((Fr.refl [fg] wr).setCell (by simp) _).setCell (by simp) _).at (w' := (wr.setCell ⟨fg, k * 2, none⟩ (.int .u64 0)).setCell ⟨fg, k * 2 + 1, none⟩ (.int .i64 (-1))) BK.out (by simpa using hbg))
      generalize (wr.setCell ⟨fg, k * 2, none⟩ (.int .u64 0)).setCell ⟨fg, k * 2 + 1, none⟩ (.int .i64 (-1)) = w9 at *
      clear y2 o1 g0 g1 gf BK
      have y0 : w9.cell? ⟨c.y, 0, none⟩ = _ := Y9.out.y0
      have y1 : w9.cell? ⟨c.y, 1, none⟩ = some (.slice (some ⟨S.rb, 0, none⟩) 8 8) := Y9.out.y1
      have k1 := cell_of B9.out (i := 1) rfl
      have r0 := (Y9.out.root ha).1
      simp only at r0
      rw [HROOT.out] at r0
      have hk240 : k ≤ 240 := by omega
      have CS := Lib.hid (fun wz (hF : Fr [] w9 wz) => oset_c wz (Y9.out.keep hF).he LK.out.hg.inv.ok LK.out.hg.wd (pw o.a) (k : Int) 0 HPW.out.1 HPW.out.2 (by omega))
      rw [SE.out] at CS
      have KC : Hid (∀ wz, Fr [c.b, c.wb, c.lb] w9 wz → wz.cell? ⟨c.y, 0, none⟩ = some (.pointer (some ⟨c.hb, 0, none⟩)) ∧ wz.cell? ⟨c.y, 1, none⟩ = some (.slice (some ⟨S.rb, 0, none⟩) 8 8) ∧ wz.cell? ⟨bx, 1, none⟩ = some (.int .i64 (a : Int)) ∧ wz.cell? ⟨S.rb, a, none⟩ = some (.int .u64 (pw o.a))) := Lib.hid (fun wz hF => ⟨cell_fr y0 hF (by simpa using hy3), cell_fr y1 hF (by simpa using hy3), cell_fr k1 hF (by simpa using hn3), cell_fr r0 hF (by simpa using hr3)⟩)
      go_region_held3 (fun W => W.cell? ⟨c.y, 0, none⟩ = some (.pointer (some ⟨c.hb, 0, none⟩)) ∧ W.cell? ⟨c.y, 1, none⟩ = some (.slice (some ⟨S.rb, 0, none⟩) 8 8) ∧ W.cell? ⟨bx, 1, none⟩ = some (.int .i64 (a : Int)) ∧ W.cell? ⟨S.rb, a, none⟩ = some (.int .u64 (pw o.a))) (with_reducible first | assumption | exact KC.out _ (by assumption) | exact KC.out _ (Fr.refl _ _).drew | exact KC.out _ (((Fr.refl _ _).setCell (by simp) _).drew) | exact KC.out _ ((((Fr.refl _ _).setCell (by simp) _).setCell (by simp) _).drew) | exact KC.out _ (Fr.refl _ _)) (first | (go_at_call 19; refine (CS.out _ (by repeat (first | exact Fr.refl _ _ | assumption | apply Fr.drew))).mono ?_; rintro e w10 ⟨rfl, H10, F10⟩; have F11 : Fr [c.b, c.wb, c.lb] w9 w10 := Fr.pre (by repeat (first | exact Fr.refl _ _ | assumption | apply Fr.drew)) F10))
      have L10 := Lib.hid (LK.out.next HXL.out hk2 (by have := HFN.out; omega) (Y9.out.heap F11 H10))
      have B10 := Lib.hid (F11.at B9.out hn3)
      clear KC y0 y1 k1 r0 CS Y9 B9 H10 F10 F11 LK SE
      go_wp2
      go_roundw
      case rel => exact ⟨k + 1, _, _, _, by omega, by omega, by go_num, L10, B10⟩
      case measure => simp [intOf]; omega
    · have hkf : k = fn := by omega
      have L9 := Lib.hid (show LS w0 wr c ex A2 m G K D S p x o ⟨fw, fk⟩ fw fn ys gs by have := LK.out; rw [hkf] at this; exact this)
      have HKF := Lib.hid hkf
      have HJK := Lib.hid hlt
      clear LK BK hkf hpx hgl
      go_wp2
      go_ret
      exact fin.out _ _ _ _ L9.out
end Go.Proofs.Ytjgndfhfiekomaa
