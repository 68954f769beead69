/- The law's step: an object is made. -/
import Derived.Test.YtjgndfhfiekomaaZK
import Derived.Deep.AppendLies
set_option linter.all false
namespace Go.Proofs.Ytjgndfhfiekomaa
open Go.ChangeShapes Go.WideShapes Go.RowKit
variable {w0 w : World} {c : Yk} {A : Ar} {S : Ys} {ex : List RV} {m : Nat} {G K : List Bool} {D : Nat → Option Ob}
theorem infoF : (Try.prog.info? 139).map (fun i => (i.zero, i.size, i.bytes)) = some (some (.agg #[.int .u64 0, .int .i64 0]), 2, 16) := by kernel_rfl
theorem infoO : (Try.prog.info? 141).map (fun i => (i.zero, i.size, i.bytes)) = some (some (.agg #[.int .i64 0, .slice none 0 0]), 2, 32) := by kernel_rfl
theorem far_y {w w2 w1 : World} {row : Option Nat} {pb : Nat} (hg : w2.grownBy w1 row) (hF : Fr [] w w2) (hl : pb < w.heap.size) (hne : row ≠ some pb) {o : Obj} (h : blk w pb = some o) : blk w1 pb = some o :=
  ((hg.block pb (Nat.lt_of_lt_of_le hl hF.size) (fun h => hne h.symm)).trans (hF.block pb hl (by simp))).trans h
def reps (q : Nat) (e : Int) : List Fd := List.replicate q ⟨e, -1⟩
theorem reps_len (q : Nat) (e : Int) : (reps q e).length = q := by simp [reps]
theorem reps_app (q : Nat) (e : Int) : fdCells (reps q e) ++ [.int .u64 e, .int .i64 (-1)] = fdCells (reps (q + 1) e) := by
  unfold reps
  rw [List.replicate_succ', fd_app]
set_option maxRecDepth 100000 in
set_option maxHeartbeats 8000000 in
theorem step_0n (hY : YAt w0 w c A S ex) (hI : YI m A S G K D) (a b : Nat) (ha : a < 8) (hb : b < 8) (q : Int) (n wd p0 p1 : Int) (ka kb : Int) (HKA : Hid (ka = (S.mr[a]?.getD ⟨0, -1⟩).k)) (HKB : Hid (kb = (S.mr[b]?.getD ⟨0, -1⟩).k)) (hmk : (makeF A m n (q : Int)).2 = none) :
    Calls Try.prog 40 #[.pointer (some ⟨c.y, 0, none⟩), .agg #[.int .i64 0, .int .i64 (a : Int), .int .i64 (b : Int), .int .i64 (q : Int), .int .i64 n, .int .u64 wd, .int .i64 p0, .int .i64 p1]] w (StepOk w0 c ex m S ⟨0, a, b, (q : Int), n, wd, p0, p1⟩) := by
  obtain ⟨G', hI'⟩ := hI.none hmk
  have HM : Hid (S.md = stepM S.md ⟨0, a, b, (q : Int), n, wd, p0, p1⟩ false) := Lib.hid (by
    rw [stepM_0 (Ac.on ha hb _ _ _ _ _ _) rfl]; rfl)
  have fin : Hid (∀ w', YAt w0 w' c ((makeF A m n (q : Int)).1) S ex → StepOk w0 c ex m S ⟨0, a, b, (q : Int), n, wd, p0, p1⟩ (.returned (.bool true)) w') := Lib.hid (fun w' h => ⟨false, _, _, G', K, D, rfl, h, hI', HM.out⟩)
  have OKA := Lib.hid hI.hg.inv.ok
  have HMK := Lib.hid hmk
  clear hmk
  have HY := Lib.hid hY
  have CO := Lib.hid (fun w' (hF : Fr [] w w') => yobject_k (hY.keep hF) a ha ka HKA.out)
  have CB := Lib.hid (fun w' (hF : Fr [] w w') => yobject_k (hY.keep hF) b hb kb HKB.out)
  obtain ⟨mg, mcap, hmv, _, _, _, _⟩ := hY.mrow
  have HMV := Lib.hid hmv
  clear hY hI hmv
  have ha0 : (0 : Int) ≤ (a : Int) := by omega
  have ha8 : (a : Int) < 8 := by omega
  have hb0 : (0 : Int) ≤ (b : Int) := by omega
  have hb8 : (b : Int) < 8 := by omega
  go_enter Try.func40, Try.ntmps40
  go_wp2_with fail
  refine (CO.out _ ((Fr.refl _ _).alloc _)).mono ?_
  rintro e w' ⟨rfl, rfl⟩
  have F1 : Fr [] w (w.alloc (.cells #[.int .i64 0, .int .i64 (a : Int), .int .i64 (b : Int), .int .i64 (q : Int), .int .i64 n, .int .u64 wd, .int .i64 p0, .int .i64 p1] 80)) := (Fr.refl [] w).alloc _
  have Y1 := Lib.hid (HY.out.keep F1)
  have B1 := Lib.hid (show blk (w.alloc (.cells #[.int .i64 0, .int .i64 (a : Int), .int .i64 (b : Int), .int .i64 (q : Int), .int .i64 n, .int .u64 wd, .int .i64 p0, .int .i64 p1] 80)) w.heap.size = some (.cells #[.int .i64 0, .int .i64 (a : Int), .int .i64 (b : Int), .int .i64 (q : Int), .int .i64 n, .int .u64 wd, .int .i64 p0, .int .i64 p1] 80 (0, 0)) by rw [blk_alloc, if_pos rfl])
  have NB := Lib.hid (HY.out.lt_all)
  have NY := Lib.hid HY.out.ny
  have HTOP := Lib.hid HY.out.all_lt
  have FD := Lib.hid (fun (j : Nat) (o : Mo) (ho : S.objs[j]? = some o) (x : Nat) (hx : o.v.ownBlock = some x) => HY.out.nfd ho hx)
  have CB1 := Lib.hid (fun w' (hF : Fr [] (w.alloc (.cells #[.int .i64 0, .int .i64 (a : Int), .int .i64 (b : Int), .int .i64 (q : Int), .int .i64 n, .int .u64 wd, .int .i64 p0, .int .i64 p1] 80)) w') => yobject_k (Y1.out.keep hF) b hb kb HKB.out)
  generalize w.alloc (.cells #[.int .i64 0, .int .i64 (a : Int), .int .i64 (b : Int), .int .i64 (q : Int), .int .i64 n, .int .u64 wd, .int .i64 p0, .int .i64 p1] 80) = w1 at *
  generalize w.heap.size = bx at *
  have hnb : bx ≠ S.rb := by have := NB.out.2.1; omega
  have hny : c.y ≠ S.rb := NY.out.1
  have hnc : bx ≠ c.y := by have := NB.out.1; omega
  have hn3 : bx ∉ [c.b, c.wb, c.lb] := Yk.three (fun hm => by have := HTOP.out bx hm; omega)
  have hy3 : c.y ∉ [c.b, c.wb, c.lb] := HY.out.yne.1
  have hr3 : S.rb ∉ [c.b, c.wb, c.lb] := HY.out.nall (rowsY_r S ex) rfl rfl
  have hmo : S.mv.ownBlock = some mg := by rw [HMV.out]; rfl
  have hnm : bx ≠ mg := by have := NB.out.2.2.1 mg hmo; omega
  have hym : c.y ≠ mg := NY.out.2.1 mg hmo
  clear hmo
  have k0 := cell_of B1.out (i := 0) rfl
  go_wp2_with fail
  clear k0
  have y0 : w1.cell? ⟨c.y, 0, none⟩ = _ := Y1.out.y0
  have k3 := cell_of B1.out (i := 3) rfl
  have k4 := cell_of B1.out (i := 4) rfl
  have CM := Lib.hid (fun wz (hF : Fr [] w1 wz) => omake_c wz (Y1.out.keep hF).he OKA.out n (q : Int))
  rw [HMK.out] at CM
  simp only [wordVal] at CM
  have KC : Hid (∀ wz, Fr [c.b, c.wb, c.lb] w1 wz → wz.cell? ⟨c.y, 0, none⟩ = some (.pointer (some ⟨c.hb, 0, none⟩)) ∧ wz.cell? ⟨bx, 4, none⟩ = some (.int .i64 n) ∧ wz.cell? ⟨bx, 3, none⟩ = some (.int .i64 (q : Int))) := Lib.hid (fun wz hF => ⟨cell_fr y0 hF (by simpa using hy3), cell_fr k4 hF (by simpa using hn3), cell_fr k3 hF (by simpa using hn3)⟩)
  go_region_held3 (fun W => W.cell? ⟨c.y, 0, none⟩ = some (.pointer (some ⟨c.hb, 0, none⟩)) ∧ W.cell? ⟨bx, 4, none⟩ = some (.int .i64 n) ∧ W.cell? ⟨bx, 3, none⟩ = some (.int .i64 (q : Int))) (with_reducible first | assumption | exact KC.out _ (by assumption) | exact KC.out _ (Fr.refl _ _).drew | exact KC.out _ (((Fr.refl _ _).setCell (by simp) _).drew) | exact KC.out _ ((((Fr.refl _ _).setCell (by simp) _).setCell (by simp) _).drew) | exact KC.out _ (Fr.refl _ _)) (first | (go_at_call 15; refine (CM.out _ (by repeat (first | exact Fr.refl _ _ | assumption | apply Fr.drew))).mono ?_; rintro e w2 ⟨rfl, H2, F2⟩; have F3 : Fr [c.b, c.wb, c.lb] w1 w2 := Fr.pre (by repeat (first | exact Fr.refl _ _ | assumption | apply Fr.drew)) F2))
  have Y2 := Lib.hid (Y1.out.heap F3 H2)
  have B2 := Lib.hid (F3.at B1.out hn3)
  clear KC y0 k3 k4 CM Y1 B1 H2 F2 F3
  go_wp2
  go_ret
  exact fin.out _ Y2.out
set_option maxRecDepth 100000 in
set_option maxHeartbeats 8000000 in
theorem step_0y (hY : YAt w0 w c A S ex) (hI : YI m A S G K D) (a b : Nat) (ha : a < 8) (hb : b < 8) (q : Nat) (n wd p0 p1 x0 : Int) (ka kb : Int) (HKA : Hid (ka = (S.mr[a]?.getD ⟨0, -1⟩).k)) (HKB : Hid (kb = (S.mr[b]?.getD ⟨0, -1⟩).k)) (hmk : (makeF A m n (q : Int)).2 = some x0) (hlen : S.objs.length < 1000) :
    Calls Try.prog 40 #[.pointer (some ⟨c.y, 0, none⟩), .agg #[.int .i64 0, .int .i64 (a : Int), .int .i64 (b : Int), .int .i64 (q : Int), .int .i64 n, .int .u64 wd, .int .i64 p0, .int .i64 p1]] w (StepOk w0 c ex m S ⟨0, a, b, (q : Int), n, wd, p0, p1⟩) := by
  obtain ⟨G', a0, hxa, qn0, qn1, kn0, kn1, hg', hyi⟩ := hI.make hmk ha hlen
  obtain ⟨e, hev⟩ : ∃ e, e = emptyW n := ⟨_, rfl⟩
  have hq240 : q ≤ 240 := by omega
  have hnd := updD_self D S.objs.length (⟨a0, n.toNat, 0, List.replicate (q : Int).toNat (emptyW n)⟩ : Ob)
  have GT : Hid (∀ k : Nat, k < q → getF (makeF A m n (q : Int)).1 m x0 (k : Int) = (e, 0)) := Lib.hid (fun k hk => by
    have := hg'.get hnd k (by simp only [List.length_replicate, Int.toNat_natCast]; exact hk)
    rw [hxa, this, hev]
    simp only [Int.toNat_natCast, List.getElem?_replicate, if_pos hk, Option.getD_some])
  have HPW : Hid (0 ≤ x0 ∧ x0 < 18446744073709551616) := Lib.hid (by have := hg'.pwb hnd; rw [hxa]; exact this)
  have OKN := Lib.hid hg'.inv.ok
  have WDN := Lib.hid hg'.wd
  obtain ⟨n0, hn0⟩ : ∃ n0, n0 = S.objs.length := ⟨_, rfl⟩
  have HN0 := Lib.hid hn0
  have HNP : Hid (S.pins.length = n0) := Lib.hid (by rw [hn0]; exact hI.np)
  have hn1 : n0 < 1000 := by omega
  have HM : Hid (∀ v ov pv, ({ S with roots := S.roots.set a x0, mr := S.mr.set a ⟨0, (n0 : Int)⟩, objs := S.objs ++ [⟨n, reps q e, v⟩], ov := ov, pins := S.pins ++ [0], pv := pv } : Ys).md = stepM S.md ⟨0, a, b, (q : Int), n, wd, p0, p1⟩ true) := Lib.hid (fun v ov pv => by
    rw [stepM_0 (Ac.on ha hb _ _ _ _ _ _) rfl, if_pos rfl]
    unfold Ys.md reps
    simp only [List.map_append, List.map_cons, List.map_nil, Int.toNat_natCast, List.length_map, hev, hn0])
  have HYI := Lib.hid hyi
  have fin : Hid (∀ w' v ov pv, YAt w0 w' c (makeF A m n (q : Int)).1 { S with roots := S.roots.set a x0, mr := S.mr.set a ⟨0, (n0 : Int)⟩, objs := S.objs ++ [⟨n, reps q e, v⟩], ov := ov, pins := S.pins ++ [0], pv := pv } ex → StepOk w0 c ex m S ⟨0, a, b, (q : Int), n, wd, p0, p1⟩ (.returned (.bool true)) w') := Lib.hid (fun w' v ov pv h => ⟨true, _, _, G', K, _, rfl, h, by
    have := HYI.out v ov pv
    rw [← HN0.out, Int.toNat_natCast, ← hev] at this
    exact this, HM.out v ov pv⟩)
  obtain ⟨oa, ocap, hov, hoc⟩ := hY.oform
  rw [← hn0] at hov hoc
  have HOV := Lib.hid hov
  clear hyi hg' hnd hxa hn0 hov hlen hev
  have OKA := Lib.hid hI.hg.inv.ok
  have HMK := Lib.hid hmk
  clear hmk
  have HY := Lib.hid hY
  have CO := Lib.hid (fun w' (hF : Fr [] w w') => yobject_k (hY.keep hF) a ha ka HKA.out)
  have CB := Lib.hid (fun w' (hF : Fr [] w w') => yobject_k (hY.keep hF) b hb kb HKB.out)
  obtain ⟨mg, mcap, hmv, _, _, _, _⟩ := hY.mrow
  have HMV := Lib.hid hmv
  clear hY hI hmv
  have ha0 : (0 : Int) ≤ (a : Int) := by omega
  have ha8 : (a : Int) < 8 := by omega
  have hb0 : (0 : Int) ≤ (b : Int) := by omega
  have hb8 : (b : Int) < 8 := by omega
  go_enter Try.func40, Try.ntmps40
  go_wp2_with fail
  refine (CO.out _ ((Fr.refl _ _).alloc _)).mono ?_
  rintro e w' ⟨rfl, rfl⟩
  have F1 : Fr [] w (w.alloc (.cells #[.int .i64 0, .int .i64 (a : Int), .int .i64 (b : Int), .int .i64 (q : Int), .int .i64 n, .int .u64 wd, .int .i64 p0, .int .i64 p1] 80)) := (Fr.refl [] w).alloc _
  have Y1 := Lib.hid (HY.out.keep F1)
  have B1 := Lib.hid (show blk (w.alloc (.cells #[.int .i64 0, .int .i64 (a : Int), .int .i64 (b : Int), .int .i64 (q : Int), .int .i64 n, .int .u64 wd, .int .i64 p0, .int .i64 p1] 80)) w.heap.size = some (.cells #[.int .i64 0, .int .i64 (a : Int), .int .i64 (b : Int), .int .i64 (q : Int), .int .i64 n, .int .u64 wd, .int .i64 p0, .int .i64 p1] 80 (0, 0)) by rw [blk_alloc, if_pos rfl])
  have NB := Lib.hid (HY.out.lt_all)
  have NY := Lib.hid HY.out.ny
  have HTOP := Lib.hid HY.out.all_lt
  have FD := Lib.hid (fun (j : Nat) (o : Mo) (ho : S.objs[j]? = some o) (x : Nat) (hx : o.v.ownBlock = some x) => HY.out.nfd ho hx)
  have CB1 := Lib.hid (fun w' (hF : Fr [] (w.alloc (.cells #[.int .i64 0, .int .i64 (a : Int), .int .i64 (b : Int), .int .i64 (q : Int), .int .i64 n, .int .u64 wd, .int .i64 p0, .int .i64 p1] 80)) w') => yobject_k (Y1.out.keep hF) b hb kb HKB.out)
  generalize w.alloc (.cells #[.int .i64 0, .int .i64 (a : Int), .int .i64 (b : Int), .int .i64 (q : Int), .int .i64 n, .int .u64 wd, .int .i64 p0, .int .i64 p1] 80) = w1 at *
  generalize w.heap.size = bx at *
  have hnb : bx ≠ S.rb := by have := NB.out.2.1; omega
  have hny : c.y ≠ S.rb := NY.out.1
  have hnc : bx ≠ c.y := by have := NB.out.1; omega
  have hn3 : bx ∉ [c.b, c.wb, c.lb] := Yk.three (fun hm => by have := HTOP.out bx hm; omega)
  have hy3 : c.y ∉ [c.b, c.wb, c.lb] := HY.out.yne.1
  have hr3 : S.rb ∉ [c.b, c.wb, c.lb] := HY.out.nall (rowsY_r S ex) rfl rfl
  have hmo : S.mv.ownBlock = some mg := by rw [HMV.out]; rfl
  have hnm : bx ≠ mg := by have := NB.out.2.2.1 mg hmo; omega
  have hym : c.y ≠ mg := NY.out.2.1 mg hmo
  clear hmo
  have k0 := cell_of B1.out (i := 0) rfl
  go_wp2_with fail
  clear k0
  have y0 : w1.cell? ⟨c.y, 0, none⟩ = _ := Y1.out.y0
  have k3 := cell_of B1.out (i := 3) rfl
  have k4 := cell_of B1.out (i := 4) rfl
  have CM := Lib.hid (fun wz (hF : Fr [] w1 wz) => omake_c wz (Y1.out.keep hF).he OKA.out n (q : Int))
  rw [HMK.out] at CM
  simp only [wordVal] at CM
  have KC : Hid (∀ wz, Fr [c.b, c.wb, c.lb] w1 wz → wz.cell? ⟨c.y, 0, none⟩ = some (.pointer (some ⟨c.hb, 0, none⟩)) ∧ wz.cell? ⟨bx, 4, none⟩ = some (.int .i64 n) ∧ wz.cell? ⟨bx, 3, none⟩ = some (.int .i64 (q : Int))) := Lib.hid (fun wz hF => ⟨cell_fr y0 hF (by simpa using hy3), cell_fr k4 hF (by simpa using hn3), cell_fr k3 hF (by simpa using hn3)⟩)
  go_region_held3 (fun W => W.cell? ⟨c.y, 0, none⟩ = some (.pointer (some ⟨c.hb, 0, none⟩)) ∧ W.cell? ⟨bx, 4, none⟩ = some (.int .i64 n) ∧ W.cell? ⟨bx, 3, none⟩ = some (.int .i64 (q : Int))) (with_reducible first | assumption | exact KC.out _ (by assumption) | exact KC.out _ (Fr.refl _ _).drew | exact KC.out _ (((Fr.refl _ _).setCell (by simp) _).drew) | exact KC.out _ ((((Fr.refl _ _).setCell (by simp) _).setCell (by simp) _).drew) | exact KC.out _ (Fr.refl _ _)) (first | (go_at_call 15; refine (CM.out _ (by repeat (first | exact Fr.refl _ _ | assumption | apply Fr.drew))).mono ?_; rintro e w2 ⟨rfl, H2, F2⟩; have F3 : Fr [c.b, c.wb, c.lb] w1 w2 := Fr.pre (by repeat (first | exact Fr.refl _ _ | assumption | apply Fr.drew)) F2))
  have Y2 := Lib.hid (Y1.out.heap F3 H2)
  have B2 := Lib.hid (F3.at B1.out hn3)
  clear KC y0 k3 k4 CM Y1 B1 H2 F2 F3
  have k4 := cell_of B2.out (i := 4) rfl
  have hbl2 : bx < w2.heap.size := lt_size B2.out
  generalize (makeF A m n (q : Int)).1 = A9 at *
  go_wp2_with fail
  clear k4
  have F3 : Fr [] w2 (w2.alloc (.cells #[.int .i64 n, .slice none 0 0] 141)) := (Fr.refl _ _).alloc _
  have O3 := Lib.hid (show blk (w2.alloc (.cells #[.int .i64 n, .slice none 0 0] 141)) w2.heap.size = some (.cells #[.int .i64 n, .slice none 0 0] 141 (0, 0)) by rw [blk_alloc, if_pos rfl])
  have S3 : Hid (w2.heap.size + 1 ≤ (w2.alloc (.cells #[.int .i64 n, .slice none 0 0] 141)).heap.size) := Lib.hid (by rw [size_alloc]; omega)
  have R3 : Hid ((w2.alloc (.cells #[.int .i64 n, .slice none 0 0] 141)).ownsRow (w2.heap.size + 1) 139 2 (.slice none 0 0) 0 (fdCells (reps 0 e))) := Lib.hid ⟨rfl, .inl ⟨rfl, rfl⟩⟩
  have F3 := Lib.hid F3
  generalize w2.alloc (.cells #[.int .i64 n, .slice none 0 0] 141) = w3 at *
  obtain ⟨ob, hob⟩ : ∃ ob, ob = w2.heap.size := ⟨_, rfl⟩
  rw [← hob] at O3 S3 R3 ⊢
  have HOB := Lib.hid hob
  have hbob : bx ≠ ob := by omega
  have hbob2 : ob ≠ bx := by omega
  obtain ⟨i0, hi0, hz0, hz1, hz2⟩ := info_parts infoF
  have II := Lib.hid hi0
  have Z0 := Lib.hid hz0
  have Z1 := Lib.hid hz1
  have Z2 := Lib.hid hz2
  clear hi0 hz0 hz1 hz2 hob hbl2
  go_loopw [9, 10, 11] (fun u _ _ wr => ∃ (k : Nat) (v : Value), k ≤ q ∧ u = .int .i64 (k : Int) ∧ Hid (Fr [] w2 wr) ∧ Hid (blk wr ob = some (.cells #[.int .i64 n, v] 141 (0, 0))) ∧ Hid (wr.ownsRow (ob + 1) 139 2 v k (fdCells (reps k e)))) (fun u _ _ _ => q - (intOf u).toNat)
  case atStart => exact ⟨0, _, by omega, by go_num, F3, O3, R3⟩
  case round =>
    obtain ⟨k, v, hk, rfl, FK, OK, RK⟩ := hrel
    clear F3 O3 R3 S3
    have B3 := Lib.hid (FK.out.at B2.out (by simp))
    have Y3 := Lib.hid (Y2.out.keep FK.out)
    have k3 := cell_of B3.out (i := 3) rfl
    by_cases hlt : k < q
    · have y0 : wr.cell? ⟨c.y, 0, none⟩ = _ := Y3.out.y0
      have CG := Lib.hid (oget_c wr Y3.out.he OKN.out WDN.out x0 (k : Int) HPW.out.1 HPW.out.2 (by omega))
      rw [GT.out k hlt] at CG
      go_wp2_with fail
      refine CG.out.mono ?_
      rintro e4 w4 ⟨rfl, F4⟩
      have O4 := Lib.hid (F4.at OK.out (by simp))
      have R4 := Lib.hid (own_fr RK.out F4 (by simp))
      have FK4 := Lib.hid (FK.out.same F4)
      clear k3 y0 CG B3 Y3 OK RK FK F4
      have o1 := cell_of O4.out (i := 1) rfl
      have R5 := Lib.hid (own_fr (w' := w4.alloc (.cells #[.int .u64 e, .int .i64 (-1)] 139)) R4.out ((Fr.refl [] w4).alloc _) (by simp))
      have NW := Lib.hid (show (w4.alloc (.cells #[.int .u64 e, .int .i64 (-1)] 139)).heap[w4.heap.size]? = some (.cells #[.int .u64 e, .int .i64 (-1)] 139 (0, 0)) by
        have := blk_alloc w4 (.cells #[.int .u64 e, .int .i64 (-1)] 139) w4.heap.size
        rw [if_pos rfl] at this; exact this)
      have hol : ob < w4.heap.size := lt_size O4.out
      have hB4 : ob + 1 ≤ (w4.alloc (.cells #[.int .u64 e, .int .i64 (-1)] 139)).heap.size := by rw [size_alloc]; omega
      have hrn : v.ownBlock ≠ some ob := fun h => by have := (own_lt' R4.out ob h).1; omega
      have HRN := Lib.hid hrn
      clear hrn
      go_wp2_with (at_builtin; refine wpList_append_lies _ rfl _ _ _ rfl (ob + 1) 139 i0 (.agg #[.int .u64 0, .int .i64 0]) 2 16 Try.underlying85 II.out Z0.out Z1.out Z2.out rfl (by omega) v k _ rfl R5.out ⟨w4.heap.size, 0, none⟩ 1 1 [.int .u64 e, .int .i64 (-1)] rfl rfl (World.news_of_block NW.out) (by simp [Value.oneCell']) (by omega) (by unfold maxLen; omega) (by omega) hB4 _ rfl ?_; intro g5 cap5 w5 own5 gr5 at5 lt5; rw [reps_app] at own5; have q5 := far_y gr5 ((Fr.refl [] w4).alloc _) hol HRN.out O4.out; have q6 : w5.cell? ⟨ob, 1, none⟩ = some v := cell_of q5 rfl; have q7 : w5.frozen? ⟨ob, 1, none⟩ = false := free_of q5; have OW := Lib.hid own5; have GR := Lib.hid gr5; have QB := Lib.hid q5; clear own5 gr5 at5 q5)
      have W6 : Hid (Fr [] w2 (w5.setCell ⟨ob, 1, none⟩ (.slice (some ⟨g5, 0, none⟩) (k + 1) cap5)) ∧ blk (w5.setCell ⟨ob, 1, none⟩ (.slice (some ⟨g5, 0, none⟩) (k + 1) cap5)) ob = some (.cells #[.int .i64 n, .slice (some ⟨g5, 0, none⟩) (k + 1) cap5] 141 (0, 0)) ∧ (w5.setCell ⟨ob, 1, none⟩ (.slice (some ⟨g5, 0, none⟩) (k + 1) cap5)).ownsRow (ob + 1) 139 2 (.slice (some ⟨g5, 0, none⟩) (k + 1) cap5) (k + 1) (fdCells (reps (k + 1) e))) := Lib.hid (by
        have hg := (own_lt' OW.out g5 rfl).1
        have ho := HOB.out
        refine ⟨((FK4.out.alloc _).trans (grown_fr GR.out) (fun x hx => ?_)).setCell (.inr (by omega)) _, ?_, ?_⟩
        · have := (own_lt' R5.out x (by simpa using hx)).1
          right; omega
        · rw [blk_set, if_pos rfl, QB.out]; rfl
        · refine own_fr OW.out ((Fr.refl [ob] w5).setCell (by simp) _) (fun x hx => ?_)
          simp only [Value.ownBlock, Option.some.injEq] at hx
          simp only [List.mem_singleton]
          omega)
      clear R4 R5 NW O4 FK4 OW GR QB q6 q7 o1 HRN
      go_roundw
      case rel => exact ⟨k + 1, _, by omega, by go_num, Lib.hid W6.out.1, Lib.hid W6.out.2.1, Lib.hid W6.out.2.2⟩
      case measure => simp [intOf]; omega
    · have hkq : k = q := by omega
      rw [hkq] at RK
      obtain ⟨va, vcap, hvf, hvc⟩ := RV.ok.form (r := ⟨139, 2, v, q, fdCells (reps q e)⟩) RK.out
      simp only at hvf hvc
      have hbl : bx < ob := by have := lt_size B2.out; have := HOB.out; omega
      have Y4 := Lib.hid (show YAt w0 wr c A9 S (fRow ⟨n, reps q e, v⟩ :: ex) from Y2.out.moreA FK.out (r := fRow ⟨n, reps q e, v⟩) (by
        unfold RV.ok fRow
        simp only [reps_len]
        obtain ⟨h1, h2⟩ := RK.out
        refine ⟨h1, h2.imp id ?_⟩
        rintro ⟨g, cap, cur, a1, a2, a3⟩
        have h3 := Y2.out.fr.size
        have h4 := HOB.out
        exact ⟨g, cap, cur, a1, by omega, a3⟩) (fun x hx => by
        have h1 := (own_lt' RK.out x hx).1
        have h4 := HOB.out
        omega))
      have HVF := Lib.hid hvf
      have HJK := Lib.hid hlt
      have hor : ob ≠ S.rb := by have := NB.out.2.1; omega
      have hom : ob ≠ mg := by have := NB.out.2.2.1 mg (by rw [HMV.out]; rfl); omega
      have hoy : ob ≠ c.y := by have := NB.out.1; omega
      have hyo : c.y ≠ ob := Ne.symm hoy
      clear hvf hkq
      go_wp2_with fail
      clear k3 Y3 RK FK
      have B4 := B3
      have O4 := OK
      clear B3 OK hlt
      generalize wr = w4 at *
      have k1 := cell_of B4.out (i := 1) rfl
      have y1 : w4.cell? ⟨c.y, 1, none⟩ = some (.slice (some ⟨S.rb, 0, none⟩) 8 8) := Y4.out.y1
      obtain ⟨r0, r1⟩ := Y4.out.root ha
      try (simp only at r0 r1)
      have KC : Hid (∀ wz, Fr [S.rb] w4 wz → wz.cell? ⟨c.y, 1, none⟩ = some (.slice (some ⟨S.rb, 0, none⟩) 8 8) ∧ wz.cell? ⟨bx, 1, none⟩ = some (.int .i64 (a : Int))) := Lib.hid (fun wz hF => ⟨cell_fr y1 hF (by simpa using hny), cell_fr k1 hF (by simpa using hnb)⟩)
      go_region_held3 (fun W => W.cell? ⟨c.y, 1, none⟩ = some (.slice (some ⟨S.rb, 0, none⟩) 8 8) ∧ W.cell? ⟨bx, 1, none⟩ = some (.int .i64 (a : Int))) (with_reducible first | assumption | exact KC.out _ (by assumption) | exact KC.out _ (Fr.refl _ _).drew | exact KC.out _ (((Fr.refl _ _).setCell (by simp) _).drew) | exact KC.out _ ((((Fr.refl _ _).setCell (by simp) _).setCell (by simp) _).drew) | exact KC.out _ (Fr.refl _ _)) (fail)
      have O5 := Lib.hid ((((Fr.refl [S.rb] w4).setCell (by simp) _).drew).at (w' := (w4.setCell ⟨S.rb, a, none⟩ (.int .u64 (x0))).drew) O4.out (by simpa using hor))
      have Y5 := Lib.hid ((Y4.out.setR ha (x0)).keep (Fr.refl [] _).drew)
      have B5 := Lib.hid ((((Fr.refl [S.rb] w4).setCell (by simp) _).drew).at (w' := (w4.setCell ⟨S.rb, a, none⟩ (.int .u64 (x0))).drew) B4.out (by simpa using hnb))
      try (simp only at Y5)
      generalize (w4.setCell ⟨S.rb, a, none⟩ (.int .u64 (x0))).drew = w5 at *
      clear KC k1 y1 r0 r1 Y4 B4
      have k1 := cell_of B5.out (i := 1) rfl
      have y3 : w5.cell? ⟨c.y, 3, none⟩ = some S.mv := Y5.out.y3
      rw [HMV.out] at y3
      obtain ⟨f0, hf0⟩ : ∃ f, S.mr[a]? = some f := ⟨S.mr[a]'(by have := Y5.out.n8.2; simp only at this; omega), by rw [List.getElem?_eq_getElem]⟩
      obtain ⟨hm8, mf, mk⟩ := Y5.out.mfz HMV.out
      obtain ⟨m0, m1⟩ := mk a f0 hf0
      clear mk hf0
      have y2 : w5.cell? ⟨c.y, 2, none⟩ = some S.ov := Y5.out.y2
      rw [HOV.out] at y2
      go_wp2_with fail
      have KC : Hid (∀ wz, Fr [mg] w5 wz → wz.cell? ⟨c.y, 3, none⟩ = some (.slice (some ⟨mg, 0, none⟩) 8 mcap) ∧ wz.cell? ⟨bx, 1, none⟩ = some (.int .i64 (a : Int)) ∧ wz.cell? ⟨c.y, 2, none⟩ = some (.slice oa n0 ocap)) := Lib.hid (fun wz hF => ⟨cell_fr y3 hF (by simpa using hym), cell_fr k1 hF (by simpa using hnm), cell_fr y2 hF (by simpa using hym)⟩)
      go_region_held3 (fun W => W.cell? ⟨c.y, 3, none⟩ = some (.slice (some ⟨mg, 0, none⟩) 8 mcap) ∧ W.cell? ⟨bx, 1, none⟩ = some (.int .i64 (a : Int)) ∧ W.cell? ⟨c.y, 2, none⟩ = some (.slice oa n0 ocap)) (with_reducible first | assumption | exact KC.out _ (by assumption) | exact KC.out _ (Fr.refl _ _).drew | exact KC.out _ (((Fr.refl _ _).setCell (by simp) _).drew) | exact KC.out _ ((((Fr.refl _ _).setCell (by simp) _).setCell (by simp) _).drew) | exact KC.out _ (Fr.refl _ _)) (fail)
      have O6 := Lib.hid (((((Fr.refl [mg] w5).setCell (by simp) _).setCell (by simp) _).drew).at (w' := ((w5.setCell ⟨mg, a * 2, none⟩ (.int .u64 (0))).setCell ⟨mg, a * 2 + 1, none⟩ (.int .i64 ((n0 : Int)))).drew) O5.out (by simpa using hom))
      have Y6 := Lib.hid ((Y5.out.setM HMV.out ha ⟨0, (n0 : Int)⟩).keep (Fr.refl [] _).drew)
      have B6 := Lib.hid (((((Fr.refl [mg] w5).setCell (by simp) _).setCell (by simp) _).drew).at (w' := ((w5.setCell ⟨mg, a * 2, none⟩ (.int .u64 (0))).setCell ⟨mg, a * 2 + 1, none⟩ (.int .i64 ((n0 : Int)))).drew) B5.out (by simpa using hnm))
      try (simp only at Y6)
      generalize ((w5.setCell ⟨mg, a * 2, none⟩ (.int .u64 (0))).setCell ⟨mg, a * 2 + 1, none⟩ (.int .i64 ((n0 : Int)))).drew = w6 at *
      clear KC k1 y3 mf m0 m1 hm8 Y5 B5
      have y2 : w6.cell? ⟨c.y, 2, none⟩ = some S.ov := Y6.out.y2
      rw [HOV.out] at y2
      have o0 := cell_of O6.out (i := 0) rfl
      have o1 := cell_of O6.out (i := 1) rfl
      have y2f := Y6.out.yf 2
      have hyl : c.y < w6.heap.size := (addr_none y2).2
      have hol : ob < w6.heap.size := lt_size O6.out
      have hyn : c.y ≠ w6.heap.size := by omega
      have hon : ob ≠ w6.heap.size := by omega
      have RO : Hid (∀ wz, Fr [] w6 wz → wz.ownsRow w0.heap.size 141 2 (.slice oa n0 ocap) n0 (moCells S.objs)) := Lib.hid (fun wz hF => by
        have := (Y6.out.rows.at (rowsY_o _ _)).fr hF (by simp)
        unfold RV.ok oRow at this
        simp only at this
        rw [HOV.out, ← HN0.out] at this
        exact this)
      have HSZ : Hid (∀ wz, Fr [] w6 wz → w0.heap.size ≤ wz.heap.size) := Lib.hid (fun wz hF => Nat.le_trans Y6.out.fr.size hF.size)
      have NW := Lib.hid (show (w6.alloc (.cells #[.int .i64 n, v] 141)).heap[w6.heap.size]? = some (.cells #[.int .i64 n, v] 141 (0, 0)) by
        have := blk_alloc w6 (.cells #[.int .i64 n, v] 141) w6.heap.size
        rw [if_pos rfl] at this; exact this)
      have HNY : Hid ((Value.slice oa n0 ocap).ownBlock ≠ some c.y) := Lib.hid (fun h => Y6.out.ny.2.2.1 c.y (by show S.ov.ownBlock = _; rw [HOV.out]; exact h) rfl)
      have ONE : Hid (∀ u ∈ [Value.int .i64 n, v], u.oneCell' = true) := Lib.hid (by
        intro u hu
        simp only [List.mem_cons, List.not_mem_nil, or_false] at hu
        rcases hu with rfl | rfl
        · rfl
        · rw [HVF.out]; rfl)
      obtain ⟨j0, hj0, hy0, hy1, hy2⟩ := info_parts infoO
      have JJ := Lib.hid hj0
      have V0 := Lib.hid hy0
      have V1 := Lib.hid hy1
      have V2 := Lib.hid hy2
      clear hj0 hy0 hy1 hy2
      go_wp2_with fail
      go_region_law (refine step_append_lies _ rfl (.tmp 112) (.tmp 114) 84 rfl w0.heap.size 141 j0 (.agg #[.int .i64 0, .slice none 0 0]) 2 32 Try.underlying84 JJ.out V0.out V1.out V2.out rfl (by decide) (.slice oa n0 ocap) n0 (moCells S.objs) rfl (RO.out _ (by repeat (first | exact Fr.refl _ _ | apply Fr.drew | apply Fr.alloc))) ⟨w6.heap.size, 0, none⟩ 1 1 [.int .i64 n, v] rfl rfl (World.news_of_block NW.out) ONE.out (by omega) (by unfold maxLen; omega) (by omega) (HSZ.out _ (by repeat (first | exact Fr.refl _ _ | apply Fr.drew | apply Fr.alloc))) _ rfl ?_; intro g7 cap7 w7 own7 gr7 at7 lt7; have q0 := far_y gr7 (show Fr [] w6 _ by repeat (first | exact Fr.refl _ _ | apply Fr.drew | apply Fr.alloc)) hyl HNY.out Y6.out.yc; have q1 : w7.cell? ⟨c.y, 2, none⟩ = some S.ov := cell_of q0 rfl; have q2 : w7.frozen? ⟨c.y, 2, none⟩ = false := free_of q0; have OW7 := Lib.hid own7; have GR7 := Lib.hid gr7; have AT7 := Lib.hid at7; clear own7 gr7 at7 q0)
      all_goals
        have Y8 := Lib.hid (show YAt w0 (w7.setCell ⟨c.y, 2, none⟩ (.slice (some ⟨g7, 0, none⟩) (n0 + 1) cap7)) c A9 { S with roots := S.roots.set a x0, mr := S.mr.set a ⟨0, (n0 : Int)⟩, objs := S.objs ++ [⟨n, reps q e, v⟩], ov := .slice (some ⟨g7, 0, none⟩) (n0 + 1) cap7 } ex from by
          refine (Y6.out.keep (((Fr.refl [] w6).alloc (.cells #[.int .i64 n, v] 141)).drew)).app (i := 1) (q := 2) (r' := ⟨141, 2, .slice (some ⟨g7, 0, none⟩) (n0 + 1) cap7, n0 + 1, moCells (S.objs ++ [⟨n, reps q e, v⟩])⟩) (rowsY_o _ _) ?_ ?_ ?_ ?_ rfl ?_
          · have := grown_fr GR7.out
            show Fr S.ov.ownBlock.toList _ _
            rw [HOV.out]; exact this
          · unfold RV.ok
            rw [mo_app]; exact OW7.out
          · rcases AT7.out with h | h
            · left
              show some g7 = S.ov.ownBlock
              rw [HOV.out]; exact h.symm
            · right
              intro x hx
              simp only [Value.ownBlock, Option.some.injEq] at hx
              omega
          · have := HN0.out
            simp [rowsY, oRow, rRow, mRow, pRow, this]
          · have := Y6.out.n8
            simpa using this)
        clear q1 q2 OW7 GR7 AT7 lt7 RO NW ONE HSZ HNY Y6 B6 O6 y2 y2f o0 o1 hyn hon hyl hol
        generalize w7.setCell ⟨c.y, 2, none⟩ (.slice (some ⟨g7, 0, none⟩) (n0 + 1) cap7) = w8 at *
        have y4 : w8.cell? ⟨c.y, 4, none⟩ = some S.pv := Y8.out.y4
        have hyl : c.y < w8.heap.size := (addr_none y4).2
        have F8 : Fr [] w8 (w8.alloc (.cells #[.int .i64 0] 3)) := (Fr.refl [] w8).alloc _
        have RP : Hid ((w8.alloc (.cells #[.int .i64 0] 3)).ownsRow w0.heap.size 3 1 S.pv n0 (S.pins.map (.int .i64))) := Lib.hid (by
          have := (Y8.out.rows.at (rowsY_p _ _)).fr F8 (by simp)
          unfold RV.ok pRow at this
          simp only at this
          rw [HNP.out] at this
          exact this)
        have HSZ8 : w0.heap.size ≤ (w8.alloc (.cells #[.int .i64 0] 3)).heap.size := Nat.le_trans Y8.out.fr.size F8.size
        have NW8 := Lib.hid (show (w8.alloc (.cells #[.int .i64 0] 3)).heap[w8.heap.size]? = some (.cells #[.int .i64 0] 3 (0, 0)) by
          have := blk_alloc w8 (.cells #[.int .i64 0] 3) w8.heap.size
          rw [if_pos rfl] at this; exact this)
        have HPY : Hid (S.pv.ownBlock ≠ some c.y) := Lib.hid (fun h => Y8.out.ny.2.2.2 c.y h rfl)
        obtain ⟨k0, hk0, hx0, hx1, hx2⟩ := info_parts infoI
        have KI := Lib.hid hk0
        have X0 := Lib.hid hx0
        have X1 := Lib.hid hx1
        have X2 := Lib.hid hx2
        have HS8 := Lib.hid HSZ8
        clear hk0 hx0 hx1 hx2 F8 HSZ8
        go_wp2_with (at_builtin; refine wpList_append_lies _ rfl _ _ _ rfl w0.heap.size 3 k0 (.int .i64 0) 1 8 Try.underlying88 KI.out X0.out X1.out X2.out rfl (by omega) S.pv n0 (S.pins.map (.int .i64)) rfl RP.out ⟨w8.heap.size, 0, none⟩ 1 1 [.int .i64 0] rfl rfl (World.news_of_block NW8.out) (by simp [Value.oneCell']) (by omega) (by unfold maxLen; omega) (by omega) HS8.out _ rfl ?_; intro g9 cap9 w9 own9 gr9 at9 lt9; have q0 := far_y gr9 ((Fr.refl [] w8).alloc _) hyl HPY.out Y8.out.yc; have q1 : w9.cell? ⟨c.y, 4, none⟩ = some S.pv := cell_of q0 rfl; have q2 : w9.frozen? ⟨c.y, 4, none⟩ = false := free_of q0; have OW9 := Lib.hid own9; have GR9 := Lib.hid gr9; have AT9 := Lib.hid at9; clear own9 gr9 at9 q0)
        have YF := Lib.hid (show YAt w0 (w9.setCell ⟨c.y, 4, none⟩ (.slice (some ⟨g9, 0, none⟩) (n0 + 1) cap9)) c A9 { S with roots := S.roots.set a x0, mr := S.mr.set a ⟨0, (n0 : Int)⟩, objs := S.objs ++ [⟨n, reps q e, v⟩], ov := .slice (some ⟨g7, 0, none⟩) (n0 + 1) cap7, pins := S.pins ++ [0], pv := .slice (some ⟨g9, 0, none⟩) (n0 + 1) cap9 } ex from by
          refine (Y8.out.keep ((Fr.refl [] w8).alloc (.cells #[.int .i64 0] 3))).app (i := 3) (q := 4) (r' := ⟨3, 1, .slice (some ⟨g9, 0, none⟩) (n0 + 1) cap9, n0 + 1, (S.pins ++ [0]).map (.int .i64)⟩) (rowsY_p _ _) ?_ ?_ ?_ ?_ rfl ?_
          · exact grown_fr GR9.out
          · unfold RV.ok
            rw [List.map_append]; exact OW9.out
          · rcases AT9.out with h | h
            · left; exact h.symm
            · right
              intro x hx
              simp only [Value.ownBlock, Option.some.injEq] at hx
              rw [size_alloc] at *
              omega
          · have := HNP.out
            simp [rowsY, oRow, rRow, mRow, pRow, this]
          · have := Y8.out.n8
            simpa using this)
        go_wp2
        go_ret
        exact fin.out _ v _ _ YF.out
end Go.Proofs.Ytjgndfhfiekomaa
