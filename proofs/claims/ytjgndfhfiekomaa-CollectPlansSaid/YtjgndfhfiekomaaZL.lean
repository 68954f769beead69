/- The law's step: a root is nothing; a root is a field. -/
import Derived.Test.YtjgndfhfiekomaaZK
set_option linter.all false
namespace Go.Proofs.Ytjgndfhfiekomaa
open Go.ChangeShapes Go.WideShapes Go.RowKit
variable {w0 w : World} {c : Yk} {A : Ar} {S : Ys} {ex : List RV} {m : Nat} {G K : List Bool} {D : Nat → Option Ob}
set_option maxRecDepth 100000 in
set_option maxHeartbeats 8000000 in
theorem step_4 (hY : YAt w0 w c A S ex) (hI : YI m A S G K D) (a b : Nat) (ha : a < 8) (hb : b < 8) (i : Int) (n wd p0 p1 : Int) (ka kb : Int) (HKA : Hid (ka = (S.mr[a]?.getD ⟨0, -1⟩).k)) (HKB : Hid (kb = (S.mr[b]?.getD ⟨0, -1⟩).k))  :
    Calls Try.prog 40 #[.pointer (some ⟨c.y, 0, none⟩), .agg #[.int .i64 4, .int .i64 (a : Int), .int .i64 (b : Int), .int .i64 i, .int .i64 n, .int .u64 wd, .int .i64 p0, .int .i64 p1]] w (StepOk w0 c ex m S ⟨4, a, b, i, n, wd, p0, p1⟩) := by
  have fin : Hid (∀ w', YAt w0 w' c (A) { S with roots := S.roots.set a 0, mr := S.mr.set a ⟨0, -1⟩ } ex → StepOk w0 c ex m S ⟨4, a, b, i, n, wd, p0, p1⟩ (.returned (.bool true)) w') := Lib.hid (fun w' h => ⟨true, _, _, G, K, D, rfl, h, hI.setRoot ha (Fw.plain 0 (by decide)) (by unfold Wd64; simp), by rw [stepM_4 (Ac.on ha hb _ _ _ _ _ _) rfl]; rfl⟩)
  have HY := Lib.hid hY
  have CO := Lib.hid (fun w' (hF : Fr [] w w') => yobject_k (hY.keep hF) a ha ka HKA.out)
  have CB := Lib.hid (fun w' (hF : Fr [] w w') => yobject_k (hY.keep hF) b hb kb HKB.out)
  obtain ⟨mg, mcap, hmv, _, _, _, _⟩ := hY.mrow
  have HMV := Lib.hid hmv
  clear hY hI hmv
  have ha0 : (0 : Int) ≤ (a : Int) := by omega
  have ha8 : (a : Int) < 8 := by omega
  have hb0 : (0 : Int) ≤ (b : Int) := by omega
  have hb8 : (b : Int) < 8 := by omega
  go_enter Try.func40, Try.ntmps40
  go_wp2_with fail
  refine (CO.out _ ((Fr.refl _ _).alloc _)).mono ?_
  rintro e w' ⟨rfl, rfl⟩
  have F1 : Fr [] w (w.alloc (.cells #[.int .i64 4, .int .i64 (a : Int), .int .i64 (b : Int), .int .i64 i, .int .i64 n, .int .u64 wd, .int .i64 p0, .int .i64 p1] 80)) := (Fr.refl [] w).alloc _
  have Y1 := Lib.hid (HY.out.keep F1)
  have B1 := Lib.hid (show blk (w.alloc (.cells #[.int .i64 4, .int .i64 (a : Int), .int .i64 (b : Int), .int .i64 i, .int .i64 n, .int .u64 wd, .int .i64 p0, .int .i64 p1] 80)) w.heap.size = some (.cells #[.int .i64 4, .int .i64 (a : Int), .int .i64 (b : Int), .int .i64 i, .int .i64 n, .int .u64 wd, .int .i64 p0, .int .i64 p1] 80 (0, 0)) by rw [blk_alloc, if_pos rfl])
  have NB := Lib.hid (HY.out.lt_all)
  have NY := Lib.hid HY.out.ny
  have HTOP := Lib.hid HY.out.all_lt
  have FD := Lib.hid (fun (j : Nat) (o : Mo) (ho : S.objs[j]? = some o) (x : Nat) (hx : o.v.ownBlock = some x) => HY.out.nfd ho hx)
  have CB1 := Lib.hid (fun w' (hF : Fr [] (w.alloc (.cells #[.int .i64 4, .int .i64 (a : Int), .int .i64 (b : Int), .int .i64 i, .int .i64 n, .int .u64 wd, .int .i64 p0, .int .i64 p1] 80)) w') => yobject_k (Y1.out.keep hF) b hb kb HKB.out)
  generalize w.alloc (.cells #[.int .i64 4, .int .i64 (a : Int), .int .i64 (b : Int), .int .i64 i, .int .i64 n, .int .u64 wd, .int .i64 p0, .int .i64 p1] 80) = w1 at *
  generalize w.heap.size = bx at *
  have hnb : bx ≠ S.rb := by have := NB.out.2.1; omega
  have hny : c.y ≠ S.rb := NY.out.1
  have hnc : bx ≠ c.y := by have := NB.out.1; omega
  have hn3 : bx ∉ [c.b, c.wb, c.lb] := Yk.three (fun hm => by have := HTOP.out bx hm; omega)
  have hy3 : c.y ∉ [c.b, c.wb, c.lb] := HY.out.yne.1
  have hr3 : S.rb ∉ [c.b, c.wb, c.lb] := HY.out.nall (rowsY_r S ex) rfl rfl
  have hmo : S.mv.ownBlock = some mg := by rw [HMV.out]; rfl
  have hnm : bx ≠ mg := by have := NB.out.2.2.1 mg hmo; omega
  have hym : c.y ≠ mg := NY.out.2.1 mg hmo
  clear hmo
  have k0 := cell_of B1.out (i := 0) rfl
  go_wp2_with fail
  clear k0
  have k1 := cell_of B1.out (i := 1) rfl
  have y1 : w1.cell? ⟨c.y, 1, none⟩ = some (.slice (some ⟨S.rb, 0, none⟩) 8 8) := Y1.out.y1
  obtain ⟨r0, r1⟩ := Y1.out.root ha
  try (simp only at r0 r1)
  have KC : Hid (∀ wz, Fr [S.rb] w1 wz → wz.cell? ⟨c.y, 1, none⟩ = some (.slice (some ⟨S.rb, 0, none⟩) 8 8) ∧ wz.cell? ⟨bx, 1, none⟩ = some (.int .i64 (a : Int))) := Lib.hid (fun wz hF => ⟨cell_fr y1 hF (by simpa using hny), cell_fr k1 hF (by simpa using hnb)⟩)
  go_region_held3 (fun W => W.cell? ⟨c.y, 1, none⟩ = some (.slice (some ⟨S.rb, 0, none⟩) 8 8) ∧ W.cell? ⟨bx, 1, none⟩ = some (.int .i64 (a : Int))) (with_reducible first | assumption | exact KC.out _ (by assumption) | exact KC.out _ (Fr.refl _ _).drew | exact KC.out _ (((Fr.refl _ _).setCell (by simp) _).drew) | exact KC.out _ ((((Fr.refl _ _).setCell (by simp) _).setCell (by simp) _).drew) | exact KC.out _ (Fr.refl _ _)) (fail)
  have Y2 := Lib.hid ((Y1.out.setR ha (0)).keep (Fr.refl [] _).drew)
  have B2 := Lib.hid ((((Fr.refl [S.rb] w1).setCell (by simp) _).drew).at (w' := (w1.setCell ⟨S.rb, a, none⟩ (.int .u64 (0))).drew) B1.out (by simpa using hnb))
  try (simp only at Y2)
  generalize (w1.setCell ⟨S.rb, a, none⟩ (.int .u64 (0))).drew = w2 at *
  clear KC k1 y1 r0 r1 Y1 B1
  have k1 := cell_of B2.out (i := 1) rfl
  have y3 : w2.cell? ⟨c.y, 3, none⟩ = some S.mv := Y2.out.y3
  rw [HMV.out] at y3
  obtain ⟨f0, hf0⟩ : ∃ f, S.mr[a]? = some f := ⟨S.mr[a]'(by have := Y2.out.n8.2; simp only at this; omega), by rw [List.getElem?_eq_getElem]⟩
  obtain ⟨hm8, mf, mk⟩ := Y2.out.mfz HMV.out
  obtain ⟨m0, m1⟩ := mk a f0 hf0
  clear mk hf0
  go_wp2_with fail
  have KC : Hid (∀ wz, Fr [mg] w2 wz → wz.cell? ⟨c.y, 3, none⟩ = some (.slice (some ⟨mg, 0, none⟩) 8 mcap) ∧ wz.cell? ⟨bx, 1, none⟩ = some (.int .i64 (a : Int))) := Lib.hid (fun wz hF => ⟨cell_fr y3 hF (by simpa using hym), cell_fr k1 hF (by simpa using hnm)⟩)
  go_region_held3 (fun W => W.cell? ⟨c.y, 3, none⟩ = some (.slice (some ⟨mg, 0, none⟩) 8 mcap) ∧ W.cell? ⟨bx, 1, none⟩ = some (.int .i64 (a : Int))) (with_reducible first | assumption | exact KC.out _ (by assumption) | exact KC.out _ (Fr.refl _ _).drew | exact KC.out _ (((Fr.refl _ _).setCell (by simp) _).drew) | exact KC.out _ ((((Fr.refl _ _).setCell (by simp) _).setCell (by simp) _).drew) | exact KC.out _ (Fr.refl _ _)) (fail)
  have Y3 := Lib.hid ((Y2.out.setM HMV.out ha ⟨0, -1⟩).keep (Fr.refl [] _).drew)
  have B3 := Lib.hid (((((Fr.refl [mg] w2).setCell (by simp) _).setCell (by simp) _).drew).at (w' := ((w2.setCell ⟨mg, a * 2, none⟩ (.int .u64 (0))).setCell ⟨mg, a * 2 + 1, none⟩ (.int .i64 (-1))).drew) B2.out (by simpa using hnm))
  try (simp only at Y3)
  generalize ((w2.setCell ⟨mg, a * 2, none⟩ (.int .u64 (0))).setCell ⟨mg, a * 2 + 1, none⟩ (.int .i64 (-1))).drew = w3 at *
  clear KC k1 y3 mf m0 m1 hm8 Y2 B2
  go_wp2
  go_ret
  exact fin.out _ Y3.out
set_option maxRecDepth 100000 in
set_option maxHeartbeats 8000000 in
theorem step_3n (hY : YAt w0 w c A S ex) (hI : YI m A S G K D) (a b : Nat) (ha : a < 8) (hb : b < 8) (i : Int) (n wd p0 p1 : Int) (ka kb : Int) (HKA : Hid (ka = (S.mr[a]?.getD ⟨0, -1⟩).k)) (HKB : Hid (kb = (S.mr[b]?.getD ⟨0, -1⟩).k)) (hn : kb < 0) :
    Calls Try.prog 40 #[.pointer (some ⟨c.y, 0, none⟩), .agg #[.int .i64 3, .int .i64 (a : Int), .int .i64 (b : Int), .int .i64 i, .int .i64 n, .int .u64 wd, .int .i64 p0, .int .i64 p1]] w (StepOk w0 c ex m S ⟨3, a, b, i, n, wd, p0, p1⟩) := by
  have HM : Hid (S.md = stepM S.md ⟨3, a, b, i, n, wd, p0, p1⟩ true) := Lib.hid (by
    rw [stepM_3 (Ac.on ha hb _ _ _ _ _ _) rfl, if_pos (.inl (by unfold Md.at Ys.md; have := HKB.out; simp only [Int.toNat_natCast]; omega))])
  have fin : Hid (∀ w', YAt w0 w' c (A) S ex → StepOk w0 c ex m S ⟨3, a, b, i, n, wd, p0, p1⟩ (.returned (.bool true)) w') := Lib.hid (fun w' h => ⟨true, _, _, G, K, D, rfl, h, hI, HM.out⟩)
  have HY := Lib.hid hY
  have CO := Lib.hid (fun w' (hF : Fr [] w w') => yobject_k (hY.keep hF) a ha ka HKA.out)
  have CB := Lib.hid (fun w' (hF : Fr [] w w') => yobject_k (hY.keep hF) b hb kb HKB.out)
  obtain ⟨mg, mcap, hmv, _, _, _, _⟩ := hY.mrow
  have HMV := Lib.hid hmv
  clear hY hI hmv
  have ha0 : (0 : Int) ≤ (a : Int) := by omega
  have ha8 : (a : Int) < 8 := by omega
  have hb0 : (0 : Int) ≤ (b : Int) := by omega
  have hb8 : (b : Int) < 8 := by omega
  go_enter Try.func40, Try.ntmps40
  go_wp2_with fail
  refine (CO.out _ ((Fr.refl _ _).alloc _)).mono ?_
  rintro e w' ⟨rfl, rfl⟩
  have F1 : Fr [] w (w.alloc (.cells #[.int .i64 3, .int .i64 (a : Int), .int .i64 (b : Int), .int .i64 i, .int .i64 n, .int .u64 wd, .int .i64 p0, .int .i64 p1] 80)) := (Fr.refl [] w).alloc _
  have Y1 := Lib.hid (HY.out.keep F1)
  have B1 := Lib.hid (show blk (w.alloc (.cells #[.int .i64 3, .int .i64 (a : Int), .int .i64 (b : Int), .int .i64 i, .int .i64 n, .int .u64 wd, .int .i64 p0, .int .i64 p1] 80)) w.heap.size = some (.cells #[.int .i64 3, .int .i64 (a : Int), .int .i64 (b : Int), .int .i64 i, .int .i64 n, .int .u64 wd, .int .i64 p0, .int .i64 p1] 80 (0, 0)) by rw [blk_alloc, if_pos rfl])
  have NB := Lib.hid (HY.out.lt_all)
  have NY := Lib.hid HY.out.ny
  have HTOP := Lib.hid HY.out.all_lt
  have FD := Lib.hid (fun (j : Nat) (o : Mo) (ho : S.objs[j]? = some o) (x : Nat) (hx : o.v.ownBlock = some x) => HY.out.nfd ho hx)
  have CB1 := Lib.hid (fun w' (hF : Fr [] (w.alloc (.cells #[.int .i64 3, .int .i64 (a : Int), .int .i64 (b : Int), .int .i64 i, .int .i64 n, .int .u64 wd, .int .i64 p0, .int .i64 p1] 80)) w') => yobject_k (Y1.out.keep hF) b hb kb HKB.out)
  generalize w.alloc (.cells #[.int .i64 3, .int .i64 (a : Int), .int .i64 (b : Int), .int .i64 i, .int .i64 n, .int .u64 wd, .int .i64 p0, .int .i64 p1] 80) = w1 at *
  generalize w.heap.size = bx at *
  have hnb : bx ≠ S.rb := by have := NB.out.2.1; omega
  have hny : c.y ≠ S.rb := NY.out.1
  have hnc : bx ≠ c.y := by have := NB.out.1; omega
  have hn3 : bx ∉ [c.b, c.wb, c.lb] := Yk.three (fun hm => by have := HTOP.out bx hm; omega)
  have hy3 : c.y ∉ [c.b, c.wb, c.lb] := HY.out.yne.1
  have hr3 : S.rb ∉ [c.b, c.wb, c.lb] := HY.out.nall (rowsY_r S ex) rfl rfl
  have hmo : S.mv.ownBlock = some mg := by rw [HMV.out]; rfl
  have hnm : bx ≠ mg := by have := NB.out.2.2.1 mg hmo; omega
  have hym : c.y ≠ mg := NY.out.2.1 mg hmo
  clear hmo
  have k0 := cell_of B1.out (i := 0) rfl
  have k2 := cell_of B1.out (i := 2) rfl
  go_wp2_with fail
  clear k0 k2
  refine (CB1.out _ (Fr.refl _ _)).mono ?_
  rintro e w' ⟨rfl, rfl⟩
  go_wp2_with fail
  go_quiet (fail)
  go_wp2
  go_ret
  refine fin.out _ (Y1.out.keep ?_)
  repeat (first | exact Fr.refl _ _ | apply Fr.drewN | apply Fr.drew)
set_option maxRecDepth 100000 in
set_option maxHeartbeats 8000000 in
theorem step_3i (hY : YAt w0 w c A S ex) (hI : YI m A S G K D) (a b : Nat) (ha : a < 8) (hb : b < 8) (i : Int) (n wd p0 p1 : Int) (ka kb : Int) (HKA : Hid (ka = (S.mr[a]?.getD ⟨0, -1⟩).k)) (HKB : Hid (kb = (S.mr[b]?.getD ⟨0, -1⟩).k)) (hn : 0 ≤ kb) (hi : i < 0) :
    Calls Try.prog 40 #[.pointer (some ⟨c.y, 0, none⟩), .agg #[.int .i64 3, .int .i64 (a : Int), .int .i64 (b : Int), .int .i64 i, .int .i64 n, .int .u64 wd, .int .i64 p0, .int .i64 p1]] w (StepOk w0 c ex m S ⟨3, a, b, i, n, wd, p0, p1⟩) := by
  have HM : Hid (S.md = stepM S.md ⟨3, a, b, i, n, wd, p0, p1⟩ true) := Lib.hid (by
    rw [stepM_3 (Ac.on ha hb _ _ _ _ _ _) rfl, if_pos (.inr (.inl hi))])
  have fin : Hid (∀ w', YAt w0 w' c (A) S ex → StepOk w0 c ex m S ⟨3, a, b, i, n, wd, p0, p1⟩ (.returned (.bool true)) w') := Lib.hid (fun w' h => ⟨true, _, _, G, K, D, rfl, h, hI, HM.out⟩)
  have HY := Lib.hid hY
  have CO := Lib.hid (fun w' (hF : Fr [] w w') => yobject_k (hY.keep hF) a ha ka HKA.out)
  have CB := Lib.hid (fun w' (hF : Fr [] w w') => yobject_k (hY.keep hF) b hb kb HKB.out)
  obtain ⟨mg, mcap, hmv, _, _, _, _⟩ := hY.mrow
  have HMV := Lib.hid hmv
  clear hY hI hmv
  have ha0 : (0 : Int) ≤ (a : Int) := by omega
  have ha8 : (a : Int) < 8 := by omega
  have hb0 : (0 : Int) ≤ (b : Int) := by omega
  have hb8 : (b : Int) < 8 := by omega
  go_enter Try.func40, Try.ntmps40
  go_wp2_with fail
  refine (CO.out _ ((Fr.refl _ _).alloc _)).mono ?_
  rintro e w' ⟨rfl, rfl⟩
  have F1 : Fr [] w (w.alloc (.cells #[.int .i64 3, .int .i64 (a : Int), .int .i64 (b : Int), .int .i64 i, .int .i64 n, .int .u64 wd, .int .i64 p0, .int .i64 p1] 80)) := (Fr.refl [] w).alloc _
  have Y1 := Lib.hid (HY.out.keep F1)
  have B1 := Lib.hid (show blk (w.alloc (.cells #[.int .i64 3, .int .i64 (a : Int), .int .i64 (b : Int), .int .i64 i, .int .i64 n, .int .u64 wd, .int .i64 p0, .int .i64 p1] 80)) w.heap.size = some (.cells #[.int .i64 3, .int .i64 (a : Int), .int .i64 (b : Int), .int .i64 i, .int .i64 n, .int .u64 wd, .int .i64 p0, .int .i64 p1] 80 (0, 0)) by rw [blk_alloc, if_pos rfl])
  have NB := Lib.hid (HY.out.lt_all)
  have NY := Lib.hid HY.out.ny
  have HTOP := Lib.hid HY.out.all_lt
  have FD := Lib.hid (fun (j : Nat) (o : Mo) (ho : S.objs[j]? = some o) (x : Nat) (hx : o.v.ownBlock = some x) => HY.out.nfd ho hx)
  have CB1 := Lib.hid (fun w' (hF : Fr [] (w.alloc (.cells #[.int .i64 3, .int .i64 (a : Int), .int .i64 (b : Int), .int .i64 i, .int .i64 n, .int .u64 wd, .int .i64 p0, .int .i64 p1] 80)) w') => yobject_k (Y1.out.keep hF) b hb kb HKB.out)
  generalize w.alloc (.cells #[.int .i64 3, .int .i64 (a : Int), .int .i64 (b : Int), .int .i64 i, .int .i64 n, .int .u64 wd, .int .i64 p0, .int .i64 p1] 80) = w1 at *
  generalize w.heap.size = bx at *
  have hnb : bx ≠ S.rb := by have := NB.out.2.1; omega
  have hny : c.y ≠ S.rb := NY.out.1
  have hnc : bx ≠ c.y := by have := NB.out.1; omega
  have hn3 : bx ∉ [c.b, c.wb, c.lb] := Yk.three (fun hm => by have := HTOP.out bx hm; omega)
  have hy3 : c.y ∉ [c.b, c.wb, c.lb] := HY.out.yne.1
  have hr3 : S.rb ∉ [c.b, c.wb, c.lb] := HY.out.nall (rowsY_r S ex) rfl rfl
  have hmo : S.mv.ownBlock = some mg := by rw [HMV.out]; rfl
  have hnm : bx ≠ mg := by have := NB.out.2.2.1 mg hmo; omega
  have hym : c.y ≠ mg := NY.out.2.1 mg hmo
  clear hmo
  have k0 := cell_of B1.out (i := 0) rfl
  have k2 := cell_of B1.out (i := 2) rfl
  go_wp2_with fail
  clear k0 k2
  have hq : ¬ kb < 0 := by omega
  refine (CB1.out _ (Fr.refl _ _)).mono ?_
  rintro e w' ⟨rfl, rfl⟩
  have k3 := cell_of B1.out (i := 3) rfl
  have hq1 : decide (kb < 0) = false := by simpa using hq
  have hi1 : decide (i < 0) = true := by simpa using hi
  go_wp2_with fail
  go_quiet (fail)
  go_wp2
  go_ret
  refine fin.out _ (Y1.out.keep ?_)
  repeat (first | exact Fr.refl _ _ | apply Fr.drewN | apply Fr.drew)
set_option maxRecDepth 100000 in
set_option maxHeartbeats 8000000 in
theorem step_3c (hY : YAt w0 w c A S ex) (hI : YI m A S G K D) (a b : Nat) (ha : a < 8) (hb : b < 8) (q : Nat) (n wd p0 p1 ka : Int) (p cnt0 : Nat)  (HKA : Hid (ka = (S.mr[a]?.getD ⟨0, -1⟩).k)) (HKB : Hid ((p : Int) = (S.mr[b]?.getD ⟨0, -1⟩).k)) (HC0 : ∀ x, S.objs[p]? = some x → cntM x.kind x.fs = cnt0) (hq : cnt0 ≤ q) :
    Calls Try.prog 40 #[.pointer (some ⟨c.y, 0, none⟩), .agg #[.int .i64 3, .int .i64 (a : Int), .int .i64 (b : Int), .int .i64 (q : Int), .int .i64 n, .int .u64 wd, .int .i64 p0, .int .i64 p1]] w (StepOk w0 c ex m S ⟨3, a, b, (q : Int), n, wd, p0, p1⟩) := by
  obtain ⟨o, x, pn, hD, hx, hpp, hob, hroot⟩ := hI.rootObj hb HKB.out
  have hcnt := hI.cnt hD hx hob
  have hxb := hI.mb.f x (List.mem_of_getElem? hx)
  obtain ⟨n0, hn0⟩ : ∃ n0, n0 = S.objs.length := ⟨_, rfl⟩
  have hpn : p < n0 := by rw [hn0]; exact lt_some hx
  have hn1 : n0 ≤ 1000 := by rw [hn0]; exact hI.mb.n
  obtain ⟨og, ocap, hov, hoc, hoo, _, _⟩ := hY.orow (by omega)
  rw [← hn0] at hov hoc
  have HN0 := Lib.hid hn0
  have HOV := Lib.hid hov
  have HX := Lib.hid hx
  have HD := Lib.hid hD
  have HPP := Lib.hid hpp
  have HROOT := Lib.hid hroot
  have HOB := Lib.hid hob
  have HXB := Lib.hid hxb
  have HXL := Lib.hid hob.l
  have hxl := hxb.1
  have hxf := hob.l
  obtain ⟨cn, hcn⟩ : ∃ cn : Nat, cntM x.kind x.fs = cn := ⟨cntO o, hcnt⟩
  have hcb := cntM_b x.kind x.fs (fun f hf => (hxb.2 f hf).1.1)
  have CC := Lib.hid (fun wz (hF : Fr [] w wz) => counted_m wz x.kind x.v x.fs ((hY.keep hF).fds hx) (by omega) (fun f hf => (hxb.2 f hf).1))
  rw [hcn] at CC hcb
  have HCN := Lib.hid hcn
  have HCO := Lib.hid (show cn = cntO o by omega)
  have HPW := Lib.hid (hI.hg.pwb hD)
  have OKA := Lib.hid hI.hg.inv.ok
  have WDA := Lib.hid hI.hg.wd
  have HI := Lib.hid hI
  obtain rfl : cnt0 = cn := by have := HC0 x hx; omega
  have HM : Hid (S.md = stepM S.md ⟨3, a, b, (q : Int), n, wd, p0, p1⟩ true) := Lib.hid (by
    rw [stepM_3 (Ac.on ha hb _ _ _ _ _ _) rfl]
    simp only
    rw [md_at S b HKB.out, (md_kd hx).1, (md_kd hx).2, hcn, if_pos (.inr (.inr (by omega)))])
  clear HC0
  have fin : Hid (∀ w', YAt w0 w' c (A) S ex → StepOk w0 c ex m S ⟨3, a, b, (q : Int), n, wd, p0, p1⟩ (.returned (.bool true)) w') := Lib.hid (fun w' h => ⟨true, _, _, G, K, D, rfl, h, HI.out, HM.out⟩)
  clear hD hx hpp hob hroot hxb hcn hcnt hn0 hov hoo hxf
  have HY := Lib.hid hY
  have CO := Lib.hid (fun w' (hF : Fr [] w w') => yobject_k (hY.keep hF) a ha (ka) HKA.out)
  have CB := Lib.hid (fun w' (hF : Fr [] w w') => yobject_k (hY.keep hF) b hb (p) HKB.out)
  obtain ⟨mg, mcap, hmv, _, _, _, _⟩ := hY.mrow
  have HMV := Lib.hid hmv
  clear hY hI hmv
  have ha0 : (0 : Int) ≤ (a : Int) := by omega
  have ha8 : (a : Int) < 8 := by omega
  have hb0 : (0 : Int) ≤ (b : Int) := by omega
  have hb8 : (b : Int) < 8 := by omega
  go_enter Try.func40, Try.ntmps40
  go_wp2_with fail
  refine (CO.out _ ((Fr.refl _ _).alloc _)).mono ?_
  rintro e w' ⟨rfl, rfl⟩
  have F1 : Fr [] w (w.alloc (.cells #[.int .i64 3, .int .i64 (a : Int), .int .i64 (b : Int), .int .i64 (q : Int), .int .i64 n, .int .u64 wd, .int .i64 p0, .int .i64 p1] 80)) := (Fr.refl [] w).alloc _
  have Y1 := Lib.hid (HY.out.keep F1)
  have B1 := Lib.hid (show blk (w.alloc (.cells #[.int .i64 3, .int .i64 (a : Int), .int .i64 (b : Int), .int .i64 (q : Int), .int .i64 n, .int .u64 wd, .int .i64 p0, .int .i64 p1] 80)) w.heap.size = some (.cells #[.int .i64 3, .int .i64 (a : Int), .int .i64 (b : Int), .int .i64 (q : Int), .int .i64 n, .int .u64 wd, .int .i64 p0, .int .i64 p1] 80 (0, 0)) by rw [blk_alloc, if_pos rfl])
  have NB := Lib.hid (HY.out.lt_all)
  have NY := Lib.hid HY.out.ny
  have HTOP := Lib.hid HY.out.all_lt
  have FD := Lib.hid (fun (j : Nat) (o : Mo) (ho : S.objs[j]? = some o) (x : Nat) (hx : o.v.ownBlock = some x) => HY.out.nfd ho hx)
  have CB1 := Lib.hid (fun w' (hF : Fr [] (w.alloc (.cells #[.int .i64 3, .int .i64 (a : Int), .int .i64 (b : Int), .int .i64 (q : Int), .int .i64 n, .int .u64 wd, .int .i64 p0, .int .i64 p1] 80)) w') => yobject_k (Y1.out.keep hF) b hb (p) HKB.out)
  generalize w.alloc (.cells #[.int .i64 3, .int .i64 (a : Int), .int .i64 (b : Int), .int .i64 (q : Int), .int .i64 n, .int .u64 wd, .int .i64 p0, .int .i64 p1] 80) = w1 at *
  generalize w.heap.size = bx at *
  have hnb : bx ≠ S.rb := by have := NB.out.2.1; omega
  have hny : c.y ≠ S.rb := NY.out.1
  have hnc : bx ≠ c.y := by have := NB.out.1; omega
  have hn3 : bx ∉ [c.b, c.wb, c.lb] := Yk.three (fun hm => by have := HTOP.out bx hm; omega)
  have hy3 : c.y ∉ [c.b, c.wb, c.lb] := HY.out.yne.1
  have hr3 : S.rb ∉ [c.b, c.wb, c.lb] := HY.out.nall (rowsY_r S ex) rfl rfl
  have hmo : S.mv.ownBlock = some mg := by rw [HMV.out]; rfl
  have hnm : bx ≠ mg := by have := NB.out.2.2.1 mg hmo; omega
  have hym : c.y ≠ mg := NY.out.2.1 mg hmo
  clear hmo
  have k0 := cell_of B1.out (i := 0) rfl
  have k2 := cell_of B1.out (i := 2) rfl
  go_wp2_with fail
  clear k0 k2
  refine (CB1.out _ (Fr.refl _ _)).mono ?_
  rintro e w' ⟨rfl, rfl⟩
  have k3 := cell_of B1.out (i := 3) rfl
  have y2 : w1.cell? ⟨c.y, 2, none⟩ = some S.ov := Y1.out.y2
  rw [HOV.out] at y2
  obtain ⟨hoc1, _, ok1⟩ := Y1.out.ofz HOV.out HN0.out (by omega)
  obtain ⟨o0, o1⟩ := ok1 p x HX.out
  clear ok1
  have hq2 : decide ((q : Int) < 0) = false := by simp
  go_wp2_with fail
  have KC : Hid (∀ wz, Fr [] w1 wz → wz.cell? ⟨c.y, 2, none⟩ = some (.slice (some ⟨og, 0, none⟩) n0 ocap) ∧ wz.cell? ⟨bx, 3, none⟩ = some (.int .i64 (q : Int)) ∧ wz.cell? ⟨og, p * 2, none⟩ = some (.int .i64 x.kind) ∧ wz.cell? ⟨og, p * 2 + 1, none⟩ = some x.v) := Lib.hid (fun wz hF => ⟨cell_fr y2 hF (by simp), cell_fr k3 hF (by simp), cell_fr o0 hF (by simp), cell_fr o1 hF (by simp)⟩)
  go_region_held3 (fun W => W.cell? ⟨c.y, 2, none⟩ = some (.slice (some ⟨og, 0, none⟩) n0 ocap) ∧ W.cell? ⟨bx, 3, none⟩ = some (.int .i64 (q : Int)) ∧ W.cell? ⟨og, p * 2, none⟩ = some (.int .i64 x.kind) ∧ W.cell? ⟨og, p * 2 + 1, none⟩ = some x.v) (with_reducible first | assumption | exact KC.out _ (by assumption) | exact KC.out _ (Fr.refl _ _).drew | exact KC.out _ (((Fr.refl _ _).setCell (by simp) _).drew) | exact KC.out _ ((((Fr.refl _ _).setCell (by simp) _).setCell (by simp) _).drew) | exact KC.out _ (Fr.refl _ _)) (first | (go_at_call 93; refine (CC.out _ (F1.same (by repeat (first | exact Fr.refl _ _ | assumption | apply Fr.drew)))).mono ?_; rintro e w6 ⟨rfl, F6⟩; have F7 : Fr [] w1 w6 := Fr.same (by repeat (first | exact Fr.refl _ _ | assumption | apply Fr.drew)) F6))
  go_wp2
  go_ret
  refine fin.out _ (Y1.out.keep F7)
set_option maxRecDepth 100000 in
set_option maxHeartbeats 8000000 in
theorem step_3y (hY : YAt w0 w c A S ex) (hI : YI m A S G K D) (a b : Nat) (ha : a < 8) (hb : b < 8) (q : Nat) (n wd p0 p1 ka : Int) (p cnt0 : Nat)  (HKA : Hid (ka = (S.mr[a]?.getD ⟨0, -1⟩).k)) (HKB : Hid ((p : Int) = (S.mr[b]?.getD ⟨0, -1⟩).k)) (HC0 : ∀ x, S.objs[p]? = some x → cntM x.kind x.fs = cnt0) (hq : q < cnt0) :
    Calls Try.prog 40 #[.pointer (some ⟨c.y, 0, none⟩), .agg #[.int .i64 3, .int .i64 (a : Int), .int .i64 (b : Int), .int .i64 (q : Int), .int .i64 n, .int .u64 wd, .int .i64 p0, .int .i64 p1]] w (StepOk w0 c ex m S ⟨3, a, b, (q : Int), n, wd, p0, p1⟩) := by
  obtain ⟨o, x, pn, hD, hx, hpp, hob, hroot⟩ := hI.rootObj hb HKB.out
  have hcnt := hI.cnt hD hx hob
  have hxb := hI.mb.f x (List.mem_of_getElem? hx)
  obtain ⟨n0, hn0⟩ : ∃ n0, n0 = S.objs.length := ⟨_, rfl⟩
  have hpn : p < n0 := by rw [hn0]; exact lt_some hx
  have hn1 : n0 ≤ 1000 := by rw [hn0]; exact hI.mb.n
  obtain ⟨og, ocap, hov, hoc, hoo, _, _⟩ := hY.orow (by omega)
  rw [← hn0] at hov hoc
  have HN0 := Lib.hid hn0
  have HOV := Lib.hid hov
  have HX := Lib.hid hx
  have HD := Lib.hid hD
  have HPP := Lib.hid hpp
  have HROOT := Lib.hid hroot
  have HOB := Lib.hid hob
  have HXB := Lib.hid hxb
  have HXL := Lib.hid hob.l
  have hxl := hxb.1
  have hxf := hob.l
  obtain ⟨cn, hcn⟩ : ∃ cn : Nat, cntM x.kind x.fs = cn := ⟨cntO o, hcnt⟩
  have hcb := cntM_b x.kind x.fs (fun f hf => (hxb.2 f hf).1.1)
  have CC := Lib.hid (fun wz (hF : Fr [] w wz) => counted_m wz x.kind x.v x.fs ((hY.keep hF).fds hx) (by omega) (fun f hf => (hxb.2 f hf).1))
  rw [hcn] at CC hcb
  have HCN := Lib.hid hcn
  have HCO := Lib.hid (show cn = cntO o by omega)
  have HPW := Lib.hid (hI.hg.pwb hD)
  have OKA := Lib.hid hI.hg.inv.ok
  have WDA := Lib.hid hI.hg.wd
  have HI := Lib.hid hI
  obtain rfl : cnt0 = cn := by have := HC0 x hx; omega
  obtain ⟨f, hf, hfw⟩ := hob.f q (by rw [← HCO.out]; exact hq)
  have hfb := hxb.2 f (List.mem_of_getElem? hf)
  obtain ⟨fg, fcap, hfv, _, hfo, _, _⟩ := hY.frow hx (by omega)
  obtain ⟨fn, hfn⟩ : ∃ fn, fn = x.fs.length := ⟨_, rfl⟩
  rw [← hfn] at hfv
  have HFN := Lib.hid hfn
  have HFV := Lib.hid hfv
  have HF := Lib.hid hf
  have hqn : q < fn := by omega
  obtain ⟨v, hv⟩ : ∃ v, v = o.fs[q]?.getD 0 := ⟨_, rfl⟩
  rw [← hv] at hfw
  obtain ⟨fw, fk⟩ := f
  have GT : Hid (getF A m (pw o.a) (q : Int) = (v, 0)) := Lib.hid (by rw [hv]; exact hI.hg.get hD q (by have := HXL.out; omega))
  have HM : Hid (({ S with roots := S.roots.set a v, mr := S.mr.set a ⟨fw, fk⟩ } : Ys).md = stepM S.md ⟨3, a, b, (q : Int), n, wd, p0, p1⟩ true) := Lib.hid (by
    rw [stepM_3 (Ac.on ha hb _ _ _ _ _ _) rfl]
    simp only
    rw [md_at S b HKB.out, (md_kd hx).1, (md_kd hx).2, hcn, if_neg (by omega), Int.toNat_natCast, Int.toNat_natCast, hf]
    rfl)
  have HS : Hid (YI m A { S with roots := S.roots.set a v, mr := S.mr.set a ⟨fw, fk⟩ } G K D) := Lib.hid (hI.setRoot ha hfw hfb.1)
  have NOG : Hid (og < w.heap.size ∧ fg < w.heap.size) := Lib.hid ⟨hY.lt_all.2.2.2.1 og (by rw [hov]; rfl), (hY.nfd hx (by rw [hfv]; rfl)).1⟩
  clear HC0 hf hfw hv hfn hfv hfo
  have fin : Hid (∀ w', YAt w0 w' c (A) { S with roots := S.roots.set a v, mr := S.mr.set a ⟨fw, fk⟩ } ex → StepOk w0 c ex m S ⟨3, a, b, (q : Int), n, wd, p0, p1⟩ (.returned (.bool true)) w') := Lib.hid (fun w' h => ⟨true, _, _, G, K, D, rfl, h, HS.out, HM.out⟩)
  clear hD hx hpp hob hroot hxb hcn hcnt hn0 hov hoo hxf
  have HY := Lib.hid hY
  have CO := Lib.hid (fun w' (hF : Fr [] w w') => yobject_k (hY.keep hF) a ha (ka) HKA.out)
  have CB := Lib.hid (fun w' (hF : Fr [] w w') => yobject_k (hY.keep hF) b hb (p) HKB.out)
  obtain ⟨mg, mcap, hmv, _, _, _, _⟩ := hY.mrow
  have HMV := Lib.hid hmv
  clear hY hI hmv
  have ha0 : (0 : Int) ≤ (a : Int) := by omega
  have ha8 : (a : Int) < 8 := by omega
  have hb0 : (0 : Int) ≤ (b : Int) := by omega
  have hb8 : (b : Int) < 8 := by omega
  go_enter Try.func40, Try.ntmps40
  go_wp2_with fail
  refine (CO.out _ ((Fr.refl _ _).alloc _)).mono ?_
  rintro e w' ⟨rfl, rfl⟩
  have F1 : Fr [] w (w.alloc (.cells #[.int .i64 3, .int .i64 (a : Int), .int .i64 (b : Int), .int .i64 (q : Int), .int .i64 n, .int .u64 wd, .int .i64 p0, .int .i64 p1] 80)) := (Fr.refl [] w).alloc _
  have Y1 := Lib.hid (HY.out.keep F1)
  have B1 := Lib.hid (show blk (w.alloc (.cells #[.int .i64 3, .int .i64 (a : Int), .int .i64 (b : Int), .int .i64 (q : Int), .int .i64 n, .int .u64 wd, .int .i64 p0, .int .i64 p1] 80)) w.heap.size = some (.cells #[.int .i64 3, .int .i64 (a : Int), .int .i64 (b : Int), .int .i64 (q : Int), .int .i64 n, .int .u64 wd, .int .i64 p0, .int .i64 p1] 80 (0, 0)) by rw [blk_alloc, if_pos rfl])
  have NB := Lib.hid (HY.out.lt_all)
  have NY := Lib.hid HY.out.ny
  have HTOP := Lib.hid HY.out.all_lt
  have FD := Lib.hid (fun (j : Nat) (o : Mo) (ho : S.objs[j]? = some o) (x : Nat) (hx : o.v.ownBlock = some x) => HY.out.nfd ho hx)
  have CB1 := Lib.hid (fun w' (hF : Fr [] (w.alloc (.cells #[.int .i64 3, .int .i64 (a : Int), .int .i64 (b : Int), .int .i64 (q : Int), .int .i64 n, .int .u64 wd, .int .i64 p0, .int .i64 p1] 80)) w') => yobject_k (Y1.out.keep hF) b hb (p) HKB.out)
  generalize w.alloc (.cells #[.int .i64 3, .int .i64 (a : Int), .int .i64 (b : Int), .int .i64 (q : Int), .int .i64 n, .int .u64 wd, .int .i64 p0, .int .i64 p1] 80) = w1 at *
  generalize w.heap.size = bx at *
  have hnb : bx ≠ S.rb := by have := NB.out.2.1; omega
  have hny : c.y ≠ S.rb := NY.out.1
  have hnc : bx ≠ c.y := by have := NB.out.1; omega
  have hn3 : bx ∉ [c.b, c.wb, c.lb] := Yk.three (fun hm => by have := HTOP.out bx hm; omega)
  have hy3 : c.y ∉ [c.b, c.wb, c.lb] := HY.out.yne.1
  have hr3 : S.rb ∉ [c.b, c.wb, c.lb] := HY.out.nall (rowsY_r S ex) rfl rfl
  have hmo : S.mv.ownBlock = some mg := by rw [HMV.out]; rfl
  have hnm : bx ≠ mg := by have := NB.out.2.2.1 mg hmo; omega
  have hym : c.y ≠ mg := NY.out.2.1 mg hmo
  clear hmo
  have k0 := cell_of B1.out (i := 0) rfl
  have k2 := cell_of B1.out (i := 2) rfl
  go_wp2_with fail
  clear k0 k2
  refine (CB1.out _ (Fr.refl _ _)).mono ?_
  rintro e w' ⟨rfl, rfl⟩
  have k3 := cell_of B1.out (i := 3) rfl
  have hfc : fn ≤ fcap := (Y1.out.ffz HX.out HFV.out HFN.out (by omega)).1
  have y2 : w1.cell? ⟨c.y, 2, none⟩ = some S.ov := Y1.out.y2
  rw [HOV.out] at y2
  obtain ⟨hoc1, _, ok1⟩ := Y1.out.ofz HOV.out HN0.out (by omega)
  obtain ⟨o0, o1⟩ := ok1 p x HX.out
  clear ok1
  have hq2 : decide ((q : Int) < 0) = false := by simp
  go_wp2_with fail
  have KC : Hid (∀ wz, Fr [] w1 wz → wz.cell? ⟨c.y, 2, none⟩ = some (.slice (some ⟨og, 0, none⟩) n0 ocap) ∧ wz.cell? ⟨bx, 3, none⟩ = some (.int .i64 (q : Int)) ∧ wz.cell? ⟨og, p * 2, none⟩ = some (.int .i64 x.kind) ∧ wz.cell? ⟨og, p * 2 + 1, none⟩ = some x.v) := Lib.hid (fun wz hF => ⟨cell_fr y2 hF (by simp), cell_fr k3 hF (by simp), cell_fr o0 hF (by simp), cell_fr o1 hF (by simp)⟩)
  go_region_held3 (fun W => W.cell? ⟨c.y, 2, none⟩ = some (.slice (some ⟨og, 0, none⟩) n0 ocap) ∧ W.cell? ⟨bx, 3, none⟩ = some (.int .i64 (q : Int)) ∧ W.cell? ⟨og, p * 2, none⟩ = some (.int .i64 x.kind) ∧ W.cell? ⟨og, p * 2 + 1, none⟩ = some x.v) (with_reducible first | assumption | exact KC.out _ (by assumption) | exact KC.out _ (Fr.refl _ _).drew | exact KC.out _ (((Fr.refl _ _).setCell (by simp) _).drew) | exact KC.out _ ((((Fr.refl _ _).setCell (by simp) _).setCell (by simp) _).drew) | exact KC.out _ (Fr.refl _ _)) (first | (go_at_call 93; refine (CC.out _ (F1.same (by repeat (first | exact Fr.refl _ _ | assumption | apply Fr.drew)))).mono ?_; rintro e w6 ⟨rfl, F6⟩; have F7 : Fr [] w1 w6 := Fr.same (by repeat (first | exact Fr.refl _ _ | assumption | apply Fr.drew)) F6))
  have Y2 := Lib.hid (Y1.out.keep F7)
  have B2 := Lib.hid (F7.at B1.out (by simp))
  have F1 := F1.same F7
  clear KC y2 k3 o0 o1 Y1 B1 F6 F7
  generalize w6 = w2 at *
  have k2 := cell_of B2.out (i := 2) rfl
  have k3 := cell_of B2.out (i := 3) rfl
  have y0 : w2.cell? ⟨c.y, 0, none⟩ = _ := Y2.out.y0
  have y1 : w2.cell? ⟨c.y, 1, none⟩ = some (.slice (some ⟨S.rb, 0, none⟩) 8 8) := Y2.out.y1
  have r0 := (Y2.out.root hb).1
  rw [HROOT.out] at r0
  have CG := Lib.hid (fun wz (hF : Fr [] w2 wz) => oget_c wz (Y2.out.keep hF).he OKA.out WDA.out (pw o.a) (q : Int) HPW.out.1 HPW.out.2 (by omega))
  rw [GT.out] at CG
  go_wp2_with fail
  have KC : Hid (∀ wz, Fr [] w2 wz → wz.cell? ⟨c.y, 0, none⟩ = some (.pointer (some ⟨c.hb, 0, none⟩)) ∧ wz.cell? ⟨c.y, 1, none⟩ = some (.slice (some ⟨S.rb, 0, none⟩) 8 8) ∧ wz.cell? ⟨bx, 2, none⟩ = some (.int .i64 (b : Int)) ∧ wz.cell? ⟨bx, 3, none⟩ = some (.int .i64 (q : Int)) ∧ wz.cell? ⟨S.rb, b, none⟩ = some (.int .u64 (pw o.a))) := Lib.hid (fun wz hF => ⟨cell_fr y0 hF (by simp), cell_fr y1 hF (by simp), cell_fr k2 hF (by simp), cell_fr k3 hF (by simp), cell_fr r0 hF (by simp)⟩)
  go_region_held3 (fun W => W.cell? ⟨c.y, 0, none⟩ = some (.pointer (some ⟨c.hb, 0, none⟩)) ∧ W.cell? ⟨c.y, 1, none⟩ = some (.slice (some ⟨S.rb, 0, none⟩) 8 8) ∧ W.cell? ⟨bx, 2, none⟩ = some (.int .i64 (b : Int)) ∧ W.cell? ⟨bx, 3, none⟩ = some (.int .i64 (q : Int)) ∧ W.cell? ⟨S.rb, b, none⟩ = some (.int .u64 (pw o.a))) (with_reducible first | assumption | exact KC.out _ (by assumption) | exact KC.out _ (Fr.refl _ _).drew | exact KC.out _ (((Fr.refl _ _).setCell (by simp) _).drew) | exact KC.out _ ((((Fr.refl _ _).setCell (by simp) _).setCell (by simp) _).drew) | exact KC.out _ (Fr.refl _ _)) (first | (go_at_call 17; refine (CG.out _ (by repeat (first | exact Fr.refl _ _ | assumption | apply Fr.drew))).mono ?_; rintro e w7 ⟨rfl, F8⟩; have F9 : Fr [] w2 w7 := Fr.same (by repeat (first | exact Fr.refl _ _ | assumption | apply Fr.drew)) F8))
  have Y3 := Lib.hid (Y2.out.keep F9)
  have B3 := Lib.hid (F9.at B2.out (by simp))
  clear KC y0 y1 k2 k3 r0 Y2 B2 CG F8 F9
  generalize w7 = w3 at *
  go_wp2_with fail
  have k1 := cell_of B3.out (i := 1) rfl
  have y1 : w3.cell? ⟨c.y, 1, none⟩ = some (.slice (some ⟨S.rb, 0, none⟩) 8 8) := Y3.out.y1
  obtain ⟨r0, r1⟩ := Y3.out.root ha
  try (simp only at r0 r1)
  have KC : Hid (∀ wz, Fr [S.rb] w3 wz → wz.cell? ⟨c.y, 1, none⟩ = some (.slice (some ⟨S.rb, 0, none⟩) 8 8) ∧ wz.cell? ⟨bx, 1, none⟩ = some (.int .i64 (a : Int))) := Lib.hid (fun wz hF => ⟨cell_fr y1 hF (by simpa using hny), cell_fr k1 hF (by simpa using hnb)⟩)
  go_region_held3 (fun W => W.cell? ⟨c.y, 1, none⟩ = some (.slice (some ⟨S.rb, 0, none⟩) 8 8) ∧ W.cell? ⟨bx, 1, none⟩ = some (.int .i64 (a : Int))) (with_reducible first | assumption | exact KC.out _ (by assumption) | exact KC.out _ (Fr.refl _ _).drew | exact KC.out _ (((Fr.refl _ _).setCell (by simp) _).drew) | exact KC.out _ ((((Fr.refl _ _).setCell (by simp) _).setCell (by simp) _).drew) | exact KC.out _ (Fr.refl _ _)) (fail)
  have Y4 := Lib.hid ((Y3.out.setR ha (v)).keep (Fr.refl [] _).drew)
  have B4 := Lib.hid ((((Fr.refl [S.rb] w3).setCell (by simp) _).drew).at (w' := (w3.setCell ⟨S.rb, a, none⟩ (.int .u64 (v))).drew) B3.out (by simpa using hnb))
  try (simp only at Y4)
  generalize (w3.setCell ⟨S.rb, a, none⟩ (.int .u64 (v))).drew = w4 at *
  clear KC k1 y1 r0 r1 Y3 B3
  have k1 := cell_of B4.out (i := 1) rfl
  have y3 : w4.cell? ⟨c.y, 3, none⟩ = some S.mv := Y4.out.y3
  rw [HMV.out] at y3
  obtain ⟨f0, hf0⟩ : ∃ f, S.mr[a]? = some f := ⟨S.mr[a]'(by have := Y4.out.n8.2; simp only at this; omega), by rw [List.getElem?_eq_getElem]⟩
  obtain ⟨hm8, mf, mk⟩ := Y4.out.mfz HMV.out
  obtain ⟨m0, m1⟩ := mk a f0 hf0
  clear mk hf0
  have k3 := cell_of B4.out (i := 3) rfl
  have y2 : w4.cell? ⟨c.y, 2, none⟩ = some S.ov := Y4.out.y2
  rw [HOV.out] at y2
  obtain ⟨hoc4, _, ok4⟩ := Y4.out.ofz HOV.out HN0.out (by omega)
  have o1 := (ok4 p x HX.out).2
  rw [HFV.out] at o1
  obtain ⟨hfc4, _, fk4⟩ := Y4.out.ffz HX.out HFV.out HFN.out (by omega)
  obtain ⟨g0, g1⟩ := fk4 q _ HF.out
  simp only at g0 g1
  have hyy := hym
  have hog : og ≠ mg := HY.out.dis (rowsY_o S ex) (rowsY_m S ex) (by omega) HOV.out.symm HMV.out.symm rfl rfl
  have hfg : fg ≠ mg := HY.out.dis (rowsY_f ex HX.out) (rowsY_m S ex) (by omega) HFV.out.symm HMV.out.symm rfl rfl
  clear ok4 fk4
  go_wp2_with fail
  have KC : Hid (∀ wz, Fr [mg] w4 wz → wz.cell? ⟨c.y, 3, none⟩ = some (.slice (some ⟨mg, 0, none⟩) 8 mcap) ∧ wz.cell? ⟨bx, 1, none⟩ = some (.int .i64 (a : Int)) ∧ wz.cell? ⟨c.y, 2, none⟩ = some (.slice (some ⟨og, 0, none⟩) n0 ocap) ∧ wz.cell? ⟨bx, 3, none⟩ = some (.int .i64 (q : Int)) ∧ wz.cell? ⟨og, p * 2 + 1, none⟩ = some (.slice (some ⟨fg, 0, none⟩) fn fcap) ∧ wz.cell? ⟨fg, q * 2, none⟩ = some (.int .u64 fw) ∧ wz.cell? ⟨fg, q * 2 + 1, none⟩ = some (.int .i64 fk)) := Lib.hid (fun wz hF => ⟨cell_fr y3 hF (by simpa using hym), cell_fr k1 hF (by simpa using hnm), cell_fr y2 hF (by simpa using hyy), cell_fr k3 hF (by simpa using hnm), cell_fr o1 hF (by simpa using hog), cell_fr g0 hF (by simpa using hfg), cell_fr g1 hF (by simpa using hfg)⟩)
  go_region_held3 (fun W => W.cell? ⟨c.y, 3, none⟩ = some (.slice (some ⟨mg, 0, none⟩) 8 mcap) ∧ W.cell? ⟨bx, 1, none⟩ = some (.int .i64 (a : Int)) ∧ W.cell? ⟨c.y, 2, none⟩ = some (.slice (some ⟨og, 0, none⟩) n0 ocap) ∧ W.cell? ⟨bx, 3, none⟩ = some (.int .i64 (q : Int)) ∧ W.cell? ⟨og, p * 2 + 1, none⟩ = some (.slice (some ⟨fg, 0, none⟩) fn fcap) ∧ W.cell? ⟨fg, q * 2, none⟩ = some (.int .u64 fw) ∧ W.cell? ⟨fg, q * 2 + 1, none⟩ = some (.int .i64 fk)) (with_reducible first | assumption | exact KC.out _ (by assumption) | exact KC.out _ (Fr.refl _ _).drew | exact KC.out _ (((Fr.refl _ _).setCell (by simp) _).drew) | exact KC.out _ ((((Fr.refl _ _).setCell (by simp) _).setCell (by simp) _).drew) | exact KC.out _ (Fr.refl _ _)) (fail)
  have Y5 := Lib.hid ((Y4.out.setM HMV.out ha ⟨fw, fk⟩).keep (Fr.refl [] _).drew)
  have B5 := Lib.hid (((((Fr.refl [mg] w4).setCell (by simp) _).setCell (by simp) _).drew).at (w' := ((w4.setCell ⟨mg, a * 2, none⟩ (.int .u64 (fw))).setCell ⟨mg, a * 2 + 1, none⟩ (.int .i64 (fk))).drew) B4.out (by simpa using hnm))
  try (simp only at Y5)
  generalize ((w4.setCell ⟨mg, a * 2, none⟩ (.int .u64 (fw))).setCell ⟨mg, a * 2 + 1, none⟩ (.int .i64 (fk))).drew = w5 at *
  clear KC k1 y3 mf m0 m1 hm8 Y4 B4
  go_wp2
  go_ret
  exact fin.out _ Y5.out
end Go.Proofs.Ytjgndfhfiekomaa
