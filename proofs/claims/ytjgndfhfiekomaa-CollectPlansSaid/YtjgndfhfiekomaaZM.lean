/- The law's step: pins; what is none. -/
import Derived.Test.YtjgndfhfiekomaaZK
set_option linter.all false
namespace Go.Proofs.Ytjgndfhfiekomaa
open Go.ChangeShapes Go.WideShapes Go.RowKit
variable {w0 w : World} {c : Yk} {A : Ar} {S : Ys} {ex : List RV} {m : Nat} {G K : List Bool} {D : Nat → Option Ob}
set_option maxRecDepth 100000 in
set_option maxHeartbeats 8000000 in
theorem step_6n (hY : YAt w0 w c A S ex) (hI : YI m A S G K D) (a b : Nat) (ha : a < 8) (hb : b < 8) (i : Int) (n wd p0 p1 : Int) (ka kb : Int) (HKA : Hid (ka = (S.mr[a]?.getD ⟨0, -1⟩).k)) (HKB : Hid (kb = (S.mr[b]?.getD ⟨0, -1⟩).k)) (hn : ka < 0) :
    Calls Try.prog 40 #[.pointer (some ⟨c.y, 0, none⟩), .agg #[.int .i64 6, .int .i64 (a : Int), .int .i64 (b : Int), .int .i64 i, .int .i64 n, .int .u64 wd, .int .i64 p0, .int .i64 p1]] w (StepOk w0 c ex m S ⟨6, a, b, i, n, wd, p0, p1⟩) := by
  have HM : Hid (S.md = stepM S.md ⟨6, a, b, i, n, wd, p0, p1⟩ true) := Lib.hid (by
    rw [stepM_6 (Ac.on ha hb _ _ _ _ _ _) rfl]
    unfold Md.pin
    simp only
    rw [md_at S a HKA.out, if_neg (by omega)])
  have fin : Hid (∀ w', YAt w0 w' c (A) S ex → StepOk w0 c ex m S ⟨6, a, b, i, n, wd, p0, p1⟩ (.returned (.bool true)) w') := Lib.hid (fun w' h => ⟨true, _, _, G, K, D, rfl, h, hI, HM.out⟩)
  have HY := Lib.hid hY
  have CO := Lib.hid (fun w' (hF : Fr [] w w') => yobject_k (hY.keep hF) a ha ka HKA.out)
  have CB := Lib.hid (fun w' (hF : Fr [] w w') => yobject_k (hY.keep hF) b hb kb HKB.out)
  obtain ⟨mg, mcap, hmv, _, _, _, _⟩ := hY.mrow
  have HMV := Lib.hid hmv
  clear hY hI hmv
  have ha0 : (0 : Int) ≤ (a : Int) := by omega
  have ha8 : (a : Int) < 8 := by omega
  have hb0 : (0 : Int) ≤ (b : Int) := by omega
  have hb8 : (b : Int) < 8 := by omega
  go_enter Try.func40, Try.ntmps40
  go_wp2_with fail
  refine (CO.out _ ((Fr.refl _ _).alloc _)).mono ?_
  rintro e w' ⟨rfl, rfl⟩
  have F1 : Fr [] w (w.alloc (.cells #[.int .i64 6, .int .i64 (a : Int), .int .i64 (b : Int), .int .i64 i, .int .i64 n, .int .u64 wd, .int .i64 p0, .int .i64 p1] 80)) := (Fr.refl [] w).alloc _
  have Y1 := Lib.hid (HY.out.keep F1)
  have B1 := Lib.hid (show blk (w.alloc (.cells #[.int .i64 6, .int .i64 (a : Int), .int .i64 (b : Int), .int .i64 i, .int .i64 n, .int .u64 wd, .int .i64 p0, .int .i64 p1] 80)) w.heap.size = some (.cells #[.int .i64 6, .int .i64 (a : Int), .int .i64 (b : Int), .int .i64 i, .int .i64 n, .int .u64 wd, .int .i64 p0, .int .i64 p1] 80 (0, 0)) by rw [blk_alloc, if_pos rfl])
  have NB := Lib.hid (HY.out.lt_all)
  have NY := Lib.hid HY.out.ny
  have HTOP := Lib.hid HY.out.all_lt
  have FD := Lib.hid (fun (j : Nat) (o : Mo) (ho : S.objs[j]? = some o) (x : Nat) (hx : o.v.ownBlock = some x) => HY.out.nfd ho hx)
  have CB1 := Lib.hid (fun w' (hF : Fr [] (w.alloc (.cells #[.int .i64 6, .int .i64 (a : Int), .int .i64 (b : Int), .int .i64 i, .int .i64 n, .int .u64 wd, .int .i64 p0, .int .i64 p1] 80)) w') => yobject_k (Y1.out.keep hF) b hb kb HKB.out)
  generalize w.alloc (.cells #[.int .i64 6, .int .i64 (a : Int), .int .i64 (b : Int), .int .i64 i, .int .i64 n, .int .u64 wd, .int .i64 p0, .int .i64 p1] 80) = w1 at *
  generalize w.heap.size = bx at *
  have hnb : bx ≠ S.rb := by have := NB.out.2.1; omega
  have hny : c.y ≠ S.rb := NY.out.1
  have hnc : bx ≠ c.y := by have := NB.out.1; omega
  have hn3 : bx ∉ [c.b, c.wb, c.lb] := Yk.three (fun hm => by have := HTOP.out bx hm; omega)
  have hy3 : c.y ∉ [c.b, c.wb, c.lb] := HY.out.yne.1
  have hr3 : S.rb ∉ [c.b, c.wb, c.lb] := HY.out.nall (rowsY_r S ex) rfl rfl
  have hmo : S.mv.ownBlock = some mg := by rw [HMV.out]; rfl
  have hnm : bx ≠ mg := by have := NB.out.2.2.1 mg hmo; omega
  have hym : c.y ≠ mg := NY.out.2.1 mg hmo
  clear hmo
  have k0 := cell_of B1.out (i := 0) rfl
  go_wp2_with fail
  clear k0
  have hq1 : decide (0 ≤ ka) = false := by simpa using hn
  go_quiet (fail)
  go_wp2
  go_ret
  refine fin.out _ (Y1.out.keep ?_)
  repeat (first | exact Fr.refl _ _ | apply Fr.drewN | apply Fr.drew)
set_option maxRecDepth 100000 in
set_option maxHeartbeats 8000000 in
theorem step_6f (hY : YAt w0 w c A S ex) (hI : YI m A S G K D) (a b : Nat) (ha : a < 8) (hb : b < 8) (i : Int) (n wd p0 p1 kb : Int) (p : Nat)  (HKA : Hid ((p : Int) = (S.mr[a]?.getD ⟨0, -1⟩).k)) (HKB : Hid (kb = (S.mr[b]?.getD ⟨0, -1⟩).k)) (hp : ∀ q, S.pins[p]? = some q → ¬ (0 ≤ q + 1 ∧ q + 1 ≤ 7)) :
    Calls Try.prog 40 #[.pointer (some ⟨c.y, 0, none⟩), .agg #[.int .i64 6, .int .i64 (a : Int), .int .i64 (b : Int), .int .i64 i, .int .i64 n, .int .u64 wd, .int .i64 p0, .int .i64 p1]] w (StepOk w0 c ex m S ⟨6, a, b, i, n, wd, p0, p1⟩) := by
  obtain ⟨o, x, pn, hD, hx, hpp, hob, hroot⟩ := hI.rootObj ha HKA.out
  have hcnt := hI.cnt hD hx hob
  have hxb := hI.mb.f x (List.mem_of_getElem? hx)
  obtain ⟨n0, hn0⟩ : ∃ n0, n0 = S.objs.length := ⟨_, rfl⟩
  have hpn : p < n0 := by rw [hn0]; exact lt_some hx
  have hn1 : n0 ≤ 1000 := by rw [hn0]; exact hI.mb.n
  obtain ⟨og, ocap, hov, hoc, hoo, _, _⟩ := hY.orow (by omega)
  rw [← hn0] at hov hoc
  have HN0 := Lib.hid hn0
  have HOV := Lib.hid hov
  have HX := Lib.hid hx
  have HD := Lib.hid hD
  have HPP := Lib.hid hpp
  have HROOT := Lib.hid hroot
  have HOB := Lib.hid hob
  have HXB := Lib.hid hxb
  have HXL := Lib.hid hob.l
  have hxl := hxb.1
  have hxf := hob.l
  obtain ⟨cn, hcn⟩ : ∃ cn : Nat, cntM x.kind x.fs = cn := ⟨cntO o, hcnt⟩
  have hcb := cntM_b x.kind x.fs (fun f hf => (hxb.2 f hf).1.1)
  have CC := Lib.hid (fun wz (hF : Fr [] w wz) => counted_m wz x.kind x.v x.fs ((hY.keep hF).fds hx) (by omega) (fun f hf => (hxb.2 f hf).1))
  rw [hcn] at CC hcb
  have HCN := Lib.hid hcn
  have HCO := Lib.hid (show cn = cntO o by omega)
  have HPW := Lib.hid (hI.hg.pwb hD)
  have OKA := Lib.hid hI.hg.inv.ok
  have WDA := Lib.hid hI.hg.wd
  have HI := Lib.hid hI
  have hpf := hp _ hpp
  have PS := Lib.hid (show (pinsF A m (pw o.a) (1)).2 = false ∧ (pinsF A m (pw o.a) (1)).1 = A by have := HI.out.pin hD hpp (1); rwa [if_neg hpf] at this)
  have HM : Hid (S.md = stepM S.md ⟨6, a, b, i, n, wd, p0, p1⟩ true) := Lib.hid (by
    rw [stepM_6 (Ac.on ha hb _ _ _ _ _ _) rfl]
    unfold Md.pin
    simp only
    rw [md_at S a HKA.out, Int.toNat_natCast, if_neg]
    show ¬ (0 ≤ (p : Int) ∧ 0 ≤ S.pins[p]?.getD 0 + (1) ∧ S.pins[p]?.getD 0 + (1) ≤ 7)
    rw [hpp, Option.getD_some]
    exact fun h => hpf h.2)
  clear hp hpf
  have fin : Hid (∀ w', YAt w0 w' c (A) S ex → StepOk w0 c ex m S ⟨6, a, b, i, n, wd, p0, p1⟩ (.returned (.bool true)) w') := Lib.hid (fun w' h => ⟨true, _, _, G, K, D, rfl, h, HI.out, HM.out⟩)
  clear hD hx hpp hob hroot hxb hcn hcnt hn0 hov hoo hxf
  have HY := Lib.hid hY
  have CO := Lib.hid (fun w' (hF : Fr [] w w') => yobject_k (hY.keep hF) a ha (p) HKA.out)
  have CB := Lib.hid (fun w' (hF : Fr [] w w') => yobject_k (hY.keep hF) b hb (kb) HKB.out)
  obtain ⟨mg, mcap, hmv, _, _, _, _⟩ := hY.mrow
  have HMV := Lib.hid hmv
  clear hY hI hmv
  have ha0 : (0 : Int) ≤ (a : Int) := by omega
  have ha8 : (a : Int) < 8 := by omega
  have hb0 : (0 : Int) ≤ (b : Int) := by omega
  have hb8 : (b : Int) < 8 := by omega
  go_enter Try.func40, Try.ntmps40
  go_wp2_with fail
  refine (CO.out _ ((Fr.refl _ _).alloc _)).mono ?_
  rintro e w' ⟨rfl, rfl⟩
  have F1 : Fr [] w (w.alloc (.cells #[.int .i64 6, .int .i64 (a : Int), .int .i64 (b : Int), .int .i64 i, .int .i64 n, .int .u64 wd, .int .i64 p0, .int .i64 p1] 80)) := (Fr.refl [] w).alloc _
  have Y1 := Lib.hid (HY.out.keep F1)
  have B1 := Lib.hid (show blk (w.alloc (.cells #[.int .i64 6, .int .i64 (a : Int), .int .i64 (b : Int), .int .i64 i, .int .i64 n, .int .u64 wd, .int .i64 p0, .int .i64 p1] 80)) w.heap.size = some (.cells #[.int .i64 6, .int .i64 (a : Int), .int .i64 (b : Int), .int .i64 i, .int .i64 n, .int .u64 wd, .int .i64 p0, .int .i64 p1] 80 (0, 0)) by rw [blk_alloc, if_pos rfl])
  have NB := Lib.hid (HY.out.lt_all)
  have NY := Lib.hid HY.out.ny
  have HTOP := Lib.hid HY.out.all_lt
  have FD := Lib.hid (fun (j : Nat) (o : Mo) (ho : S.objs[j]? = some o) (x : Nat) (hx : o.v.ownBlock = some x) => HY.out.nfd ho hx)
  have CB1 := Lib.hid (fun w' (hF : Fr [] (w.alloc (.cells #[.int .i64 6, .int .i64 (a : Int), .int .i64 (b : Int), .int .i64 i, .int .i64 n, .int .u64 wd, .int .i64 p0, .int .i64 p1] 80)) w') => yobject_k (Y1.out.keep hF) b hb (kb) HKB.out)
  generalize w.alloc (.cells #[.int .i64 6, .int .i64 (a : Int), .int .i64 (b : Int), .int .i64 i, .int .i64 n, .int .u64 wd, .int .i64 p0, .int .i64 p1] 80) = w1 at *
  generalize w.heap.size = bx at *
  have hnb : bx ≠ S.rb := by have := NB.out.2.1; omega
  have hny : c.y ≠ S.rb := NY.out.1
  have hnc : bx ≠ c.y := by have := NB.out.1; omega
  have hn3 : bx ∉ [c.b, c.wb, c.lb] := Yk.three (fun hm => by have := HTOP.out bx hm; omega)
  have hy3 : c.y ∉ [c.b, c.wb, c.lb] := HY.out.yne.1
  have hr3 : S.rb ∉ [c.b, c.wb, c.lb] := HY.out.nall (rowsY_r S ex) rfl rfl
  have hmo : S.mv.ownBlock = some mg := by rw [HMV.out]; rfl
  have hnm : bx ≠ mg := by have := NB.out.2.2.1 mg hmo; omega
  have hym : c.y ≠ mg := NY.out.2.1 mg hmo
  clear hmo
  have k0 := cell_of B1.out (i := 0) rfl
  go_wp2_with fail
  clear k0
  have y0 : w1.cell? ⟨c.y, 0, none⟩ = _ := Y1.out.y0
  have y1 : w1.cell? ⟨c.y, 1, none⟩ = some (.slice (some ⟨S.rb, 0, none⟩) 8 8) := Y1.out.y1
  have k1 := cell_of B1.out (i := 1) rfl
  have r0 := (Y1.out.root ha).1
  rw [HROOT.out] at r0
  have CG := Lib.hid (fun wz (hF : Fr [] w1 wz) => opin_c wz (Y1.out.keep hF).he OKA.out WDA.out (pw o.a) HPW.out.1 HPW.out.2)
  rw [PS.out.1] at CG
  have hq1 : decide (0 ≤ (p : Int)) = true := by simp
  have KC : Hid (∀ wz, Fr [c.b, c.wb, c.lb] w1 wz → wz.cell? ⟨c.y, 0, none⟩ = some (.pointer (some ⟨c.hb, 0, none⟩)) ∧ wz.cell? ⟨c.y, 1, none⟩ = some (.slice (some ⟨S.rb, 0, none⟩) 8 8) ∧ wz.cell? ⟨bx, 1, none⟩ = some (.int .i64 (a : Int)) ∧ wz.cell? ⟨S.rb, a, none⟩ = some (.int .u64 (pw o.a))) := Lib.hid (fun wz hF => ⟨cell_fr y0 hF (by simpa using hy3), cell_fr y1 hF (by simpa using hy3), cell_fr k1 hF (by simpa using hn3), cell_fr r0 hF (by simpa using hr3)⟩)
  go_region_held3 (fun W => W.cell? ⟨c.y, 0, none⟩ = some (.pointer (some ⟨c.hb, 0, none⟩)) ∧ W.cell? ⟨c.y, 1, none⟩ = some (.slice (some ⟨S.rb, 0, none⟩) 8 8) ∧ W.cell? ⟨bx, 1, none⟩ = some (.int .i64 (a : Int)) ∧ W.cell? ⟨S.rb, a, none⟩ = some (.int .u64 (pw o.a))) (with_reducible first | assumption | exact KC.out _ (by assumption) | exact KC.out _ (Fr.refl _ _).drew | exact KC.out _ (((Fr.refl _ _).setCell (by simp) _).drew) | exact KC.out _ ((((Fr.refl _ _).setCell (by simp) _).setCell (by simp) _).drew) | exact KC.out _ (Fr.refl _ _)) (first | (go_at_call 21; refine (CG.out _ (by repeat (first | exact Fr.refl _ _ | assumption | apply Fr.drew))).mono ?_; rintro e w2 ⟨rfl, H2, F2⟩; have F3 : Fr [c.b, c.wb, c.lb] w1 w2 := Fr.pre (by repeat (first | exact Fr.refl _ _ | assumption | apply Fr.drew)) F2))
  rw [PS.out.2] at H2
  have Y2 := Lib.hid (Y1.out.heap F3 H2)
  clear KC
  go_wp2
  go_ret
  exact fin.out _ Y2.out
set_option maxRecDepth 100000 in
set_option maxHeartbeats 8000000 in
theorem step_6y (hY : YAt w0 w c A S ex) (hI : YI m A S G K D) (a b : Nat) (ha : a < 8) (hb : b < 8) (i : Int) (n wd p0 p1 kb : Int) (p : Nat)  (HKA : Hid ((p : Int) = (S.mr[a]?.getD ⟨0, -1⟩).k)) (HKB : Hid (kb = (S.mr[b]?.getD ⟨0, -1⟩).k)) (q : Int) (hp : S.pins[p]? = some q) (hq0 : 0 ≤ q + (1)) (hq7 : q + (1) ≤ 7) :
    Calls Try.prog 40 #[.pointer (some ⟨c.y, 0, none⟩), .agg #[.int .i64 6, .int .i64 (a : Int), .int .i64 (b : Int), .int .i64 i, .int .i64 n, .int .u64 wd, .int .i64 p0, .int .i64 p1]] w (StepOk w0 c ex m S ⟨6, a, b, i, n, wd, p0, p1⟩) := by
  obtain ⟨o, x, pn, hD, hx, hpp, hob, hroot⟩ := hI.rootObj ha HKA.out
  have hcnt := hI.cnt hD hx hob
  have hxb := hI.mb.f x (List.mem_of_getElem? hx)
  obtain ⟨n0, hn0⟩ : ∃ n0, n0 = S.objs.length := ⟨_, rfl⟩
  have hpn : p < n0 := by rw [hn0]; exact lt_some hx
  have hn1 : n0 ≤ 1000 := by rw [hn0]; exact hI.mb.n
  obtain ⟨og, ocap, hov, hoc, hoo, _, _⟩ := hY.orow (by omega)
  rw [← hn0] at hov hoc
  have HN0 := Lib.hid hn0
  have HOV := Lib.hid hov
  have HX := Lib.hid hx
  have HD := Lib.hid hD
  have HPP := Lib.hid hpp
  have HROOT := Lib.hid hroot
  have HOB := Lib.hid hob
  have HXB := Lib.hid hxb
  have HXL := Lib.hid hob.l
  have hxl := hxb.1
  have hxf := hob.l
  obtain ⟨cn, hcn⟩ : ∃ cn : Nat, cntM x.kind x.fs = cn := ⟨cntO o, hcnt⟩
  have hcb := cntM_b x.kind x.fs (fun f hf => (hxb.2 f hf).1.1)
  have CC := Lib.hid (fun wz (hF : Fr [] w wz) => counted_m wz x.kind x.v x.fs ((hY.keep hF).fds hx) (by omega) (fun f hf => (hxb.2 f hf).1))
  rw [hcn] at CC hcb
  have HCN := Lib.hid hcn
  have HCO := Lib.hid (show cn = cntO o by omega)
  have HPW := Lib.hid (hI.hg.pwb hD)
  have OKA := Lib.hid hI.hg.inv.ok
  have WDA := Lib.hid hI.hg.wd
  have HI := Lib.hid hI
  obtain rfl : q = pn := by rw [hp] at hpp; injection hpp
  have hpin := HI.out.pin hD hpp (1)
  rw [if_pos ⟨hq0, hq7⟩] at hpin
  obtain ⟨hp1, D', hp2⟩ := hpin
  have PS := Lib.hid (And.intro hp1 hp2)
  have HM : Hid (({ S with pins := S.pins.set p (q + (1)) } : Ys).md = stepM S.md ⟨6, a, b, i, n, wd, p0, p1⟩ true) := Lib.hid (by
    rw [stepM_6 (Ac.on ha hb _ _ _ _ _ _) rfl]
    unfold Md.pin
    simp only
    rw [md_at S a HKA.out, Int.toNat_natCast, if_pos]
    · show _ = (⟨_, _, S.pins.set p (S.pins[p]?.getD 0 + (1))⟩ : Md)
      rw [hpp, Option.getD_some]; rfl
    · show 0 ≤ (p : Int) ∧ 0 ≤ S.pins[p]?.getD 0 + (1) ∧ S.pins[p]?.getD 0 + (1) ≤ 7
      rw [hpp, Option.getD_some]
      exact ⟨by omega, hq0, hq7⟩)
  have hnp := hI.np
  obtain ⟨pg, pcap, hpv, _, _, _, _⟩ := hY.prow (by omega)
  rw [hnp, ← hn0] at hpv
  have HPV := Lib.hid hpv
  have HNP := Lib.hid (show n0 = S.pins.length by omega)
  clear hp hp1 hp2 hnp hpv
  have fin : Hid (∀ w', YAt w0 w' c ((pinsF A m (pw o.a) (1)).1) { S with pins := S.pins.set p (q + (1)) } ex → StepOk w0 c ex m S ⟨6, a, b, i, n, wd, p0, p1⟩ (.returned (.bool true)) w') := Lib.hid (fun w' h => ⟨true, _, _, G, K, D', rfl, h, PS.out.2, HM.out⟩)
  clear hD hx hpp hob hroot hxb hcn hcnt hn0 hov hoo hxf
  have HY := Lib.hid hY
  have CO := Lib.hid (fun w' (hF : Fr [] w w') => yobject_k (hY.keep hF) a ha (p) HKA.out)
  have CB := Lib.hid (fun w' (hF : Fr [] w w') => yobject_k (hY.keep hF) b hb (kb) HKB.out)
  obtain ⟨mg, mcap, hmv, _, _, _, _⟩ := hY.mrow
  have HMV := Lib.hid hmv
  clear hY hI hmv
  have ha0 : (0 : Int) ≤ (a : Int) := by omega
  have ha8 : (a : Int) < 8 := by omega
  have hb0 : (0 : Int) ≤ (b : Int) := by omega
  have hb8 : (b : Int) < 8 := by omega
  go_enter Try.func40, Try.ntmps40
  go_wp2_with fail
  refine (CO.out _ ((Fr.refl _ _).alloc _)).mono ?_
  rintro e w' ⟨rfl, rfl⟩
  have F1 : Fr [] w (w.alloc (.cells #[.int .i64 6, .int .i64 (a : Int), .int .i64 (b : Int), .int .i64 i, .int .i64 n, .int .u64 wd, .int .i64 p0, .int .i64 p1] 80)) := (Fr.refl [] w).alloc _
  have Y1 := Lib.hid (HY.out.keep F1)
  have B1 := Lib.hid (show blk (w.alloc (.cells #[.int .i64 6, .int .i64 (a : Int), .int .i64 (b : Int), .int .i64 i, .int .i64 n, .int .u64 wd, .int .i64 p0, .int .i64 p1] 80)) w.heap.size = some (.cells #[.int .i64 6, .int .i64 (a : Int), .int .i64 (b : Int), .int .i64 i, .int .i64 n, .int .u64 wd, .int .i64 p0, .int .i64 p1] 80 (0, 0)) by rw [blk_alloc, if_pos rfl])
  have NB := Lib.hid (HY.out.lt_all)
  have NY := Lib.hid HY.out.ny
  have HTOP := Lib.hid HY.out.all_lt
  have FD := Lib.hid (fun (j : Nat) (o : Mo) (ho : S.objs[j]? = some o) (x : Nat) (hx : o.v.ownBlock = some x) => HY.out.nfd ho hx)
  have CB1 := Lib.hid (fun w' (hF : Fr [] (w.alloc (.cells #[.int .i64 6, .int .i64 (a : Int), .int .i64 (b : Int), .int .i64 i, .int .i64 n, .int .u64 wd, .int .i64 p0, .int .i64 p1] 80)) w') => yobject_k (Y1.out.keep hF) b hb (kb) HKB.out)
  generalize w.alloc (.cells #[.int .i64 6, .int .i64 (a : Int), .int .i64 (b : Int), .int .i64 i, .int .i64 n, .int .u64 wd, .int .i64 p0, .int .i64 p1] 80) = w1 at *
  generalize w.heap.size = bx at *
  have hnb : bx ≠ S.rb := by have := NB.out.2.1; omega
  have hny : c.y ≠ S.rb := NY.out.1
  have hnc : bx ≠ c.y := by have := NB.out.1; omega
  have hn3 : bx ∉ [c.b, c.wb, c.lb] := Yk.three (fun hm => by have := HTOP.out bx hm; omega)
  have hy3 : c.y ∉ [c.b, c.wb, c.lb] := HY.out.yne.1
  have hr3 : S.rb ∉ [c.b, c.wb, c.lb] := HY.out.nall (rowsY_r S ex) rfl rfl
  have hmo : S.mv.ownBlock = some mg := by rw [HMV.out]; rfl
  have hnm : bx ≠ mg := by have := NB.out.2.2.1 mg hmo; omega
  have hym : c.y ≠ mg := NY.out.2.1 mg hmo
  clear hmo
  have k0 := cell_of B1.out (i := 0) rfl
  go_wp2_with fail
  clear k0
  have y0 : w1.cell? ⟨c.y, 0, none⟩ = _ := Y1.out.y0
  have y1 : w1.cell? ⟨c.y, 1, none⟩ = some (.slice (some ⟨S.rb, 0, none⟩) 8 8) := Y1.out.y1
  have k1 := cell_of B1.out (i := 1) rfl
  have r0 := (Y1.out.root ha).1
  rw [HROOT.out] at r0
  have CG := Lib.hid (fun wz (hF : Fr [] w1 wz) => opin_c wz (Y1.out.keep hF).he OKA.out WDA.out (pw o.a) HPW.out.1 HPW.out.2)
  rw [PS.out.1] at CG
  have hq1 : decide (0 ≤ (p : Int)) = true := by simp
  have KC : Hid (∀ wz, Fr [c.b, c.wb, c.lb] w1 wz → wz.cell? ⟨c.y, 0, none⟩ = some (.pointer (some ⟨c.hb, 0, none⟩)) ∧ wz.cell? ⟨c.y, 1, none⟩ = some (.slice (some ⟨S.rb, 0, none⟩) 8 8) ∧ wz.cell? ⟨bx, 1, none⟩ = some (.int .i64 (a : Int)) ∧ wz.cell? ⟨S.rb, a, none⟩ = some (.int .u64 (pw o.a))) := Lib.hid (fun wz hF => ⟨cell_fr y0 hF (by simpa using hy3), cell_fr y1 hF (by simpa using hy3), cell_fr k1 hF (by simpa using hn3), cell_fr r0 hF (by simpa using hr3)⟩)
  go_region_held3 (fun W => W.cell? ⟨c.y, 0, none⟩ = some (.pointer (some ⟨c.hb, 0, none⟩)) ∧ W.cell? ⟨c.y, 1, none⟩ = some (.slice (some ⟨S.rb, 0, none⟩) 8 8) ∧ W.cell? ⟨bx, 1, none⟩ = some (.int .i64 (a : Int)) ∧ W.cell? ⟨S.rb, a, none⟩ = some (.int .u64 (pw o.a))) (with_reducible first | assumption | exact KC.out _ (by assumption) | exact KC.out _ (Fr.refl _ _).drew | exact KC.out _ (((Fr.refl _ _).setCell (by simp) _).drew) | exact KC.out _ ((((Fr.refl _ _).setCell (by simp) _).setCell (by simp) _).drew) | exact KC.out _ (Fr.refl _ _)) (first | (go_at_call 21; refine (CG.out _ (by repeat (first | exact Fr.refl _ _ | assumption | apply Fr.drew))).mono ?_; rintro e w2 ⟨rfl, H2, F2⟩; have F3 : Fr [c.b, c.wb, c.lb] w1 w2 := Fr.pre (by repeat (first | exact Fr.refl _ _ | assumption | apply Fr.drew)) F2))
  have Y2 := Lib.hid (Y1.out.heap F3 H2)
  clear KC y0 y1 k1 r0 H2 F2 F3 CG Y1 B1
  have y4 : w2.cell? ⟨c.y, 4, none⟩ = some S.pv := Y2.out.y4
  rw [HPV.out] at y4
  obtain ⟨hpc, pf, pk⟩ := Y2.out.pfz HPV.out HNP.out (by omega)
  have pc := pk p q HPP.out
  have hpl : pg < w2.heap.size := (addr_none pc).2
  have Y3 := Lib.hid (Y2.out.setP HPV.out p (q + (1)) HNP.out.symm)
  clear pk
  go_wp2
  go_ret
  exact fin.out _ Y3.out
set_option maxRecDepth 100000 in
set_option maxHeartbeats 8000000 in
theorem step_7n (hY : YAt w0 w c A S ex) (hI : YI m A S G K D) (a b : Nat) (ha : a < 8) (hb : b < 8) (i : Int) (n wd p0 p1 : Int) (ka kb : Int) (HKA : Hid (ka = (S.mr[a]?.getD ⟨0, -1⟩).k)) (HKB : Hid (kb = (S.mr[b]?.getD ⟨0, -1⟩).k)) (hn : ka < 0) :
    Calls Try.prog 40 #[.pointer (some ⟨c.y, 0, none⟩), .agg #[.int .i64 7, .int .i64 (a : Int), .int .i64 (b : Int), .int .i64 i, .int .i64 n, .int .u64 wd, .int .i64 p0, .int .i64 p1]] w (StepOk w0 c ex m S ⟨7, a, b, i, n, wd, p0, p1⟩) := by
  have HM : Hid (S.md = stepM S.md ⟨7, a, b, i, n, wd, p0, p1⟩ true) := Lib.hid (by
    rw [stepM_7 (Ac.on ha hb _ _ _ _ _ _) rfl]
    unfold Md.pin
    simp only
    rw [md_at S a HKA.out, if_neg (by omega)])
  have fin : Hid (∀ w', YAt w0 w' c (A) S ex → StepOk w0 c ex m S ⟨7, a, b, i, n, wd, p0, p1⟩ (.returned (.bool true)) w') := Lib.hid (fun w' h => ⟨true, _, _, G, K, D, rfl, h, hI, HM.out⟩)
  have HY := Lib.hid hY
  have CO := Lib.hid (fun w' (hF : Fr [] w w') => yobject_k (hY.keep hF) a ha ka HKA.out)
  have CB := Lib.hid (fun w' (hF : Fr [] w w') => yobject_k (hY.keep hF) b hb kb HKB.out)
  obtain ⟨mg, mcap, hmv, _, _, _, _⟩ := hY.mrow
  have HMV := Lib.hid hmv
  clear hY hI hmv
  have ha0 : (0 : Int) ≤ (a : Int) := by omega
  have ha8 : (a : Int) < 8 := by omega
  have hb0 : (0 : Int) ≤ (b : Int) := by omega
  have hb8 : (b : Int) < 8 := by omega
  go_enter Try.func40, Try.ntmps40
  go_wp2_with fail
  refine (CO.out _ ((Fr.refl _ _).alloc _)).mono ?_
  rintro e w' ⟨rfl, rfl⟩
  have F1 : Fr [] w (w.alloc (.cells #[.int .i64 7, .int .i64 (a : Int), .int .i64 (b : Int), .int .i64 i, .int .i64 n, .int .u64 wd, .int .i64 p0, .int .i64 p1] 80)) := (Fr.refl [] w).alloc _
  have Y1 := Lib.hid (HY.out.keep F1)
  have B1 := Lib.hid (show blk (w.alloc (.cells #[.int .i64 7, .int .i64 (a : Int), .int .i64 (b : Int), .int .i64 i, .int .i64 n, .int .u64 wd, .int .i64 p0, .int .i64 p1] 80)) w.heap.size = some (.cells #[.int .i64 7, .int .i64 (a : Int), .int .i64 (b : Int), .int .i64 i, .int .i64 n, .int .u64 wd, .int .i64 p0, .int .i64 p1] 80 (0, 0)) by rw [blk_alloc, if_pos rfl])
  have NB := Lib.hid (HY.out.lt_all)
  have NY := Lib.hid HY.out.ny
  have HTOP := Lib.hid HY.out.all_lt
  have FD := Lib.hid (fun (j : Nat) (o : Mo) (ho : S.objs[j]? = some o) (x : Nat) (hx : o.v.ownBlock = some x) => HY.out.nfd ho hx)
  have CB1 := Lib.hid (fun w' (hF : Fr [] (w.alloc (.cells #[.int .i64 7, .int .i64 (a : Int), .int .i64 (b : Int), .int .i64 i, .int .i64 n, .int .u64 wd, .int .i64 p0, .int .i64 p1] 80)) w') => yobject_k (Y1.out.keep hF) b hb kb HKB.out)
  generalize w.alloc (.cells #[.int .i64 7, .int .i64 (a : Int), .int .i64 (b : Int), .int .i64 i, .int .i64 n, .int .u64 wd, .int .i64 p0, .int .i64 p1] 80) = w1 at *
  generalize w.heap.size = bx at *
  have hnb : bx ≠ S.rb := by have := NB.out.2.1; omega
  have hny : c.y ≠ S.rb := NY.out.1
  have hnc : bx ≠ c.y := by have := NB.out.1; omega
  have hn3 : bx ∉ [c.b, c.wb, c.lb] := Yk.three (fun hm => by have := HTOP.out bx hm; omega)
  have hy3 : c.y ∉ [c.b, c.wb, c.lb] := HY.out.yne.1
  have hr3 : S.rb ∉ [c.b, c.wb, c.lb] := HY.out.nall (rowsY_r S ex) rfl rfl
  have hmo : S.mv.ownBlock = some mg := by rw [HMV.out]; rfl
  have hnm : bx ≠ mg := by have := NB.out.2.2.1 mg hmo; omega
  have hym : c.y ≠ mg := NY.out.2.1 mg hmo
  clear hmo
  have k0 := cell_of B1.out (i := 0) rfl
  go_wp2_with fail
  clear k0
  have hq1 : decide (0 ≤ ka) = false := by simpa using hn
  go_quiet (fail)
  go_wp2
  go_ret
  refine fin.out _ (Y1.out.keep ?_)
  repeat (first | exact Fr.refl _ _ | apply Fr.drewN | apply Fr.drew)
set_option maxRecDepth 100000 in
set_option maxHeartbeats 8000000 in
theorem step_7f (hY : YAt w0 w c A S ex) (hI : YI m A S G K D) (a b : Nat) (ha : a < 8) (hb : b < 8) (i : Int) (n wd p0 p1 kb : Int) (p : Nat)  (HKA : Hid ((p : Int) = (S.mr[a]?.getD ⟨0, -1⟩).k)) (HKB : Hid (kb = (S.mr[b]?.getD ⟨0, -1⟩).k)) (hp : ∀ q, S.pins[p]? = some q → ¬ (0 ≤ q + -1 ∧ q + -1 ≤ 7)) :
    Calls Try.prog 40 #[.pointer (some ⟨c.y, 0, none⟩), .agg #[.int .i64 7, .int .i64 (a : Int), .int .i64 (b : Int), .int .i64 i, .int .i64 n, .int .u64 wd, .int .i64 p0, .int .i64 p1]] w (StepOk w0 c ex m S ⟨7, a, b, i, n, wd, p0, p1⟩) := by
  obtain ⟨o, x, pn, hD, hx, hpp, hob, hroot⟩ := hI.rootObj ha HKA.out
  have hcnt := hI.cnt hD hx hob
  have hxb := hI.mb.f x (List.mem_of_getElem? hx)
  obtain ⟨n0, hn0⟩ : ∃ n0, n0 = S.objs.length := ⟨_, rfl⟩
  have hpn : p < n0 := by rw [hn0]; exact lt_some hx
  have hn1 : n0 ≤ 1000 := by rw [hn0]; exact hI.mb.n
  obtain ⟨og, ocap, hov, hoc, hoo, _, _⟩ := hY.orow (by omega)
  rw [← hn0] at hov hoc
  have HN0 := Lib.hid hn0
  have HOV := Lib.hid hov
  have HX := Lib.hid hx
  have HD := Lib.hid hD
  have HPP := Lib.hid hpp
  have HROOT := Lib.hid hroot
  have HOB := Lib.hid hob
  have HXB := Lib.hid hxb
  have HXL := Lib.hid hob.l
  have hxl := hxb.1
  have hxf := hob.l
  obtain ⟨cn, hcn⟩ : ∃ cn : Nat, cntM x.kind x.fs = cn := ⟨cntO o, hcnt⟩
  have hcb := cntM_b x.kind x.fs (fun f hf => (hxb.2 f hf).1.1)
  have CC := Lib.hid (fun wz (hF : Fr [] w wz) => counted_m wz x.kind x.v x.fs ((hY.keep hF).fds hx) (by omega) (fun f hf => (hxb.2 f hf).1))
  rw [hcn] at CC hcb
  have HCN := Lib.hid hcn
  have HCO := Lib.hid (show cn = cntO o by omega)
  have HPW := Lib.hid (hI.hg.pwb hD)
  have OKA := Lib.hid hI.hg.inv.ok
  have WDA := Lib.hid hI.hg.wd
  have HI := Lib.hid hI
  have hpf := hp _ hpp
  have PS := Lib.hid (show (pinsF A m (pw o.a) (-1)).2 = false ∧ (pinsF A m (pw o.a) (-1)).1 = A by have := HI.out.pin hD hpp (-1); rwa [if_neg hpf] at this)
  have HM : Hid (S.md = stepM S.md ⟨7, a, b, i, n, wd, p0, p1⟩ true) := Lib.hid (by
    rw [stepM_7 (Ac.on ha hb _ _ _ _ _ _) rfl]
    unfold Md.pin
    simp only
    rw [md_at S a HKA.out, Int.toNat_natCast, if_neg]
    show ¬ (0 ≤ (p : Int) ∧ 0 ≤ S.pins[p]?.getD 0 + (-1) ∧ S.pins[p]?.getD 0 + (-1) ≤ 7)
    rw [hpp, Option.getD_some]
    exact fun h => hpf h.2)
  clear hp hpf
  have fin : Hid (∀ w', YAt w0 w' c (A) S ex → StepOk w0 c ex m S ⟨7, a, b, i, n, wd, p0, p1⟩ (.returned (.bool true)) w') := Lib.hid (fun w' h => ⟨true, _, _, G, K, D, rfl, h, HI.out, HM.out⟩)
  clear hD hx hpp hob hroot hxb hcn hcnt hn0 hov hoo hxf
  have HY := Lib.hid hY
  have CO := Lib.hid (fun w' (hF : Fr [] w w') => yobject_k (hY.keep hF) a ha (p) HKA.out)
  have CB := Lib.hid (fun w' (hF : Fr [] w w') => yobject_k (hY.keep hF) b hb (kb) HKB.out)
  obtain ⟨mg, mcap, hmv, _, _, _, _⟩ := hY.mrow
  have HMV := Lib.hid hmv
  clear hY hI hmv
  have ha0 : (0 : Int) ≤ (a : Int) := by omega
  have ha8 : (a : Int) < 8 := by omega
  have hb0 : (0 : Int) ≤ (b : Int) := by omega
  have hb8 : (b : Int) < 8 := by omega
  go_enter Try.func40, Try.ntmps40
  go_wp2_with fail
  refine (CO.out _ ((Fr.refl _ _).alloc _)).mono ?_
  rintro e w' ⟨rfl, rfl⟩
  have F1 : Fr [] w (w.alloc (.cells #[.int .i64 7, .int .i64 (a : Int), .int .i64 (b : Int), .int .i64 i, .int .i64 n, .int .u64 wd, .int .i64 p0, .int .i64 p1] 80)) := (Fr.refl [] w).alloc _
  have Y1 := Lib.hid (HY.out.keep F1)
  have B1 := Lib.hid (show blk (w.alloc (.cells #[.int .i64 7, .int .i64 (a : Int), .int .i64 (b : Int), .int .i64 i, .int .i64 n, .int .u64 wd, .int .i64 p0, .int .i64 p1] 80)) w.heap.size = some (.cells #[.int .i64 7, .int .i64 (a : Int), .int .i64 (b : Int), .int .i64 i, .int .i64 n, .int .u64 wd, .int .i64 p0, .int .i64 p1] 80 (0, 0)) by rw [blk_alloc, if_pos rfl])
  have NB := Lib.hid (HY.out.lt_all)
  have NY := Lib.hid HY.out.ny
  have HTOP := Lib.hid HY.out.all_lt
  have FD := Lib.hid (fun (j : Nat) (o : Mo) (ho : S.objs[j]? = some o) (x : Nat) (hx : o.v.ownBlock = some x) => HY.out.nfd ho hx)
  have CB1 := Lib.hid (fun w' (hF : Fr [] (w.alloc (.cells #[.int .i64 7, .int .i64 (a : Int), .int .i64 (b : Int), .int .i64 i, .int .i64 n, .int .u64 wd, .int .i64 p0, .int .i64 p1] 80)) w') => yobject_k (Y1.out.keep hF) b hb (kb) HKB.out)
  generalize w.alloc (.cells #[.int .i64 7, .int .i64 (a : Int), .int .i64 (b : Int), .int .i64 i, .int .i64 n, .int .u64 wd, .int .i64 p0, .int .i64 p1] 80) = w1 at *
  generalize w.heap.size = bx at *
  have hnb : bx ≠ S.rb := by have := NB.out.2.1; omega
  have hny : c.y ≠ S.rb := NY.out.1
  have hnc : bx ≠ c.y := by have := NB.out.1; omega
  have hn3 : bx ∉ [c.b, c.wb, c.lb] := Yk.three (fun hm => by have := HTOP.out bx hm; omega)
  have hy3 : c.y ∉ [c.b, c.wb, c.lb] := HY.out.yne.1
  have hr3 : S.rb ∉ [c.b, c.wb, c.lb] := HY.out.nall (rowsY_r S ex) rfl rfl
  have hmo : S.mv.ownBlock = some mg := by rw [HMV.out]; rfl
  have hnm : bx ≠ mg := by have := NB.out.2.2.1 mg hmo; omega
  have hym : c.y ≠ mg := NY.out.2.1 mg hmo
  clear hmo
  have k0 := cell_of B1.out (i := 0) rfl
  go_wp2_with fail
  clear k0
  have y0 : w1.cell? ⟨c.y, 0, none⟩ = _ := Y1.out.y0
  have y1 : w1.cell? ⟨c.y, 1, none⟩ = some (.slice (some ⟨S.rb, 0, none⟩) 8 8) := Y1.out.y1
  have k1 := cell_of B1.out (i := 1) rfl
  have r0 := (Y1.out.root ha).1
  rw [HROOT.out] at r0
  have CG := Lib.hid (fun wz (hF : Fr [] w1 wz) => ounpin_c wz (Y1.out.keep hF).he OKA.out WDA.out (pw o.a) HPW.out.1 HPW.out.2)
  rw [PS.out.1] at CG
  have hq1 : decide (0 ≤ (p : Int)) = true := by simp
  have KC : Hid (∀ wz, Fr [c.b, c.wb, c.lb] w1 wz → wz.cell? ⟨c.y, 0, none⟩ = some (.pointer (some ⟨c.hb, 0, none⟩)) ∧ wz.cell? ⟨c.y, 1, none⟩ = some (.slice (some ⟨S.rb, 0, none⟩) 8 8) ∧ wz.cell? ⟨bx, 1, none⟩ = some (.int .i64 (a : Int)) ∧ wz.cell? ⟨S.rb, a, none⟩ = some (.int .u64 (pw o.a))) := Lib.hid (fun wz hF => ⟨cell_fr y0 hF (by simpa using hy3), cell_fr y1 hF (by simpa using hy3), cell_fr k1 hF (by simpa using hn3), cell_fr r0 hF (by simpa using hr3)⟩)
  go_region_held3 (fun W => W.cell? ⟨c.y, 0, none⟩ = some (.pointer (some ⟨c.hb, 0, none⟩)) ∧ W.cell? ⟨c.y, 1, none⟩ = some (.slice (some ⟨S.rb, 0, none⟩) 8 8) ∧ W.cell? ⟨bx, 1, none⟩ = some (.int .i64 (a : Int)) ∧ W.cell? ⟨S.rb, a, none⟩ = some (.int .u64 (pw o.a))) (with_reducible first | assumption | exact KC.out _ (by assumption) | exact KC.out _ (Fr.refl _ _).drew | exact KC.out _ (((Fr.refl _ _).setCell (by simp) _).drew) | exact KC.out _ ((((Fr.refl _ _).setCell (by simp) _).setCell (by simp) _).drew) | exact KC.out _ (Fr.refl _ _)) (first | (go_at_call 23; refine (CG.out _ (by repeat (first | exact Fr.refl _ _ | assumption | apply Fr.drew))).mono ?_; rintro e w2 ⟨rfl, H2, F2⟩; have F3 : Fr [c.b, c.wb, c.lb] w1 w2 := Fr.pre (by repeat (first | exact Fr.refl _ _ | assumption | apply Fr.drew)) F2))
  rw [PS.out.2] at H2
  have Y2 := Lib.hid (Y1.out.heap F3 H2)
  clear KC
  go_wp2
  go_ret
  exact fin.out _ Y2.out
set_option maxRecDepth 100000 in
set_option maxHeartbeats 8000000 in
theorem step_7y (hY : YAt w0 w c A S ex) (hI : YI m A S G K D) (a b : Nat) (ha : a < 8) (hb : b < 8) (i : Int) (n wd p0 p1 kb : Int) (p : Nat)  (HKA : Hid ((p : Int) = (S.mr[a]?.getD ⟨0, -1⟩).k)) (HKB : Hid (kb = (S.mr[b]?.getD ⟨0, -1⟩).k)) (q : Int) (hp : S.pins[p]? = some q) (hq0 : 0 ≤ q + (-1)) (hq7 : q + (-1) ≤ 7) :
    Calls Try.prog 40 #[.pointer (some ⟨c.y, 0, none⟩), .agg #[.int .i64 7, .int .i64 (a : Int), .int .i64 (b : Int), .int .i64 i, .int .i64 n, .int .u64 wd, .int .i64 p0, .int .i64 p1]] w (StepOk w0 c ex m S ⟨7, a, b, i, n, wd, p0, p1⟩) := by
  obtain ⟨o, x, pn, hD, hx, hpp, hob, hroot⟩ := hI.rootObj ha HKA.out
  have hcnt := hI.cnt hD hx hob
  have hxb := hI.mb.f x (List.mem_of_getElem? hx)
  obtain ⟨n0, hn0⟩ : ∃ n0, n0 = S.objs.length := ⟨_, rfl⟩
  have hpn : p < n0 := by rw [hn0]; exact lt_some hx
  have hn1 : n0 ≤ 1000 := by rw [hn0]; exact hI.mb.n
  obtain ⟨og, ocap, hov, hoc, hoo, _, _⟩ := hY.orow (by omega)
  rw [← hn0] at hov hoc
  have HN0 := Lib.hid hn0
  have HOV := Lib.hid hov
  have HX := Lib.hid hx
  have HD := Lib.hid hD
  have HPP := Lib.hid hpp
  have HROOT := Lib.hid hroot
  have HOB := Lib.hid hob
  have HXB := Lib.hid hxb
  have HXL := Lib.hid hob.l
  have hxl := hxb.1
  have hxf := hob.l
  obtain ⟨cn, hcn⟩ : ∃ cn : Nat, cntM x.kind x.fs = cn := ⟨cntO o, hcnt⟩
  have hcb := cntM_b x.kind x.fs (fun f hf => (hxb.2 f hf).1.1)
  have CC := Lib.hid (fun wz (hF : Fr [] w wz) => counted_m wz x.kind x.v x.fs ((hY.keep hF).fds hx) (by omega) (fun f hf => (hxb.2 f hf).1))
  rw [hcn] at CC hcb
  have HCN := Lib.hid hcn
  have HCO := Lib.hid (show cn = cntO o by omega)
  have HPW := Lib.hid (hI.hg.pwb hD)
  have OKA := Lib.hid hI.hg.inv.ok
  have WDA := Lib.hid hI.hg.wd
  have HI := Lib.hid hI
  obtain rfl : q = pn := by rw [hp] at hpp; injection hpp
  have hpin := HI.out.pin hD hpp (-1)
  rw [if_pos ⟨hq0, hq7⟩] at hpin
  obtain ⟨hp1, D', hp2⟩ := hpin
  have PS := Lib.hid (And.intro hp1 hp2)
  have HM : Hid (({ S with pins := S.pins.set p (q + (-1)) } : Ys).md = stepM S.md ⟨7, a, b, i, n, wd, p0, p1⟩ true) := Lib.hid (by
    rw [stepM_7 (Ac.on ha hb _ _ _ _ _ _) rfl]
    unfold Md.pin
    simp only
    rw [md_at S a HKA.out, Int.toNat_natCast, if_pos]
    · show _ = (⟨_, _, S.pins.set p (S.pins[p]?.getD 0 + (-1))⟩ : Md)
      rw [hpp, Option.getD_some]; rfl
    · show 0 ≤ (p : Int) ∧ 0 ≤ S.pins[p]?.getD 0 + (-1) ∧ S.pins[p]?.getD 0 + (-1) ≤ 7
      rw [hpp, Option.getD_some]
      exact ⟨by omega, hq0, hq7⟩)
  have hnp := hI.np
  obtain ⟨pg, pcap, hpv, _, _, _, _⟩ := hY.prow (by omega)
  rw [hnp, ← hn0] at hpv
  have HPV := Lib.hid hpv
  have HNP := Lib.hid (show n0 = S.pins.length by omega)
  clear hp hp1 hp2 hnp hpv
  have fin : Hid (∀ w', YAt w0 w' c ((pinsF A m (pw o.a) (-1)).1) { S with pins := S.pins.set p (q + (-1)) } ex → StepOk w0 c ex m S ⟨7, a, b, i, n, wd, p0, p1⟩ (.returned (.bool true)) w') := Lib.hid (fun w' h => ⟨true, _, _, G, K, D', rfl, h, PS.out.2, HM.out⟩)
  clear hD hx hpp hob hroot hxb hcn hcnt hn0 hov hoo hxf
  have HY := Lib.hid hY
  have CO := Lib.hid (fun w' (hF : Fr [] w w') => yobject_k (hY.keep hF) a ha (p) HKA.out)
  have CB := Lib.hid (fun w' (hF : Fr [] w w') => yobject_k (hY.keep hF) b hb (kb) HKB.out)
  obtain ⟨mg, mcap, hmv, _, _, _, _⟩ := hY.mrow
  have HMV := Lib.hid hmv
  clear hY hI hmv
  have ha0 : (0 : Int) ≤ (a : Int) := by omega
  have ha8 : (a : Int) < 8 := by omega
  have hb0 : (0 : Int) ≤ (b : Int) := by omega
  have hb8 : (b : Int) < 8 := by omega
  go_enter Try.func40, Try.ntmps40
  go_wp2_with fail
  refine (CO.out _ ((Fr.refl _ _).alloc _)).mono ?_
  rintro e w' ⟨rfl, rfl⟩
  have F1 : Fr [] w (w.alloc (.cells #[.int .i64 7, .int .i64 (a : Int), .int .i64 (b : Int), .int .i64 i, .int .i64 n, .int .u64 wd, .int .i64 p0, .int .i64 p1] 80)) := (Fr.refl [] w).alloc _
  have Y1 := Lib.hid (HY.out.keep F1)
  have B1 := Lib.hid (show blk (w.alloc (.cells #[.int .i64 7, .int .i64 (a : Int), .int .i64 (b : Int), .int .i64 i, .int .i64 n, .int .u64 wd, .int .i64 p0, .int .i64 p1] 80)) w.heap.size = some (.cells #[.int .i64 7, .int .i64 (a : Int), .int .i64 (b : Int), .int .i64 i, .int .i64 n, .int .u64 wd, .int .i64 p0, .int .i64 p1] 80 (0, 0)) by rw [blk_alloc, if_pos rfl])
  have NB := Lib.hid (HY.out.lt_all)
  have NY := Lib.hid HY.out.ny
  have HTOP := Lib.hid HY.out.all_lt
  have FD := Lib.hid (fun (j : Nat) (o : Mo) (ho : S.objs[j]? = some o) (x : Nat) (hx : o.v.ownBlock = some x) => HY.out.nfd ho hx)
  have CB1 := Lib.hid (fun w' (hF : Fr [] (w.alloc (.cells #[.int .i64 7, .int .i64 (a : Int), .int .i64 (b : Int), .int .i64 i, .int .i64 n, .int .u64 wd, .int .i64 p0, .int .i64 p1] 80)) w') => yobject_k (Y1.out.keep hF) b hb (kb) HKB.out)
  generalize w.alloc (.cells #[.int .i64 7, .int .i64 (a : Int), .int .i64 (b : Int), .int .i64 i, .int .i64 n, .int .u64 wd, .int .i64 p0, .int .i64 p1] 80) = w1 at *
  generalize w.heap.size = bx at *
  have hnb : bx ≠ S.rb := by have := NB.out.2.1; omega
  have hny : c.y ≠ S.rb := NY.out.1
  have hnc : bx ≠ c.y := by have := NB.out.1; omega
  have hn3 : bx ∉ [c.b, c.wb, c.lb] := Yk.three (fun hm => by have := HTOP.out bx hm; omega)
  have hy3 : c.y ∉ [c.b, c.wb, c.lb] := HY.out.yne.1
  have hr3 : S.rb ∉ [c.b, c.wb, c.lb] := HY.out.nall (rowsY_r S ex) rfl rfl
  have hmo : S.mv.ownBlock = some mg := by rw [HMV.out]; rfl
  have hnm : bx ≠ mg := by have := NB.out.2.2.1 mg hmo; omega
  have hym : c.y ≠ mg := NY.out.2.1 mg hmo
  clear hmo
  have k0 := cell_of B1.out (i := 0) rfl
  go_wp2_with fail
  clear k0
  have y0 : w1.cell? ⟨c.y, 0, none⟩ = _ := Y1.out.y0
  have y1 : w1.cell? ⟨c.y, 1, none⟩ = some (.slice (some ⟨S.rb, 0, none⟩) 8 8) := Y1.out.y1
  have k1 := cell_of B1.out (i := 1) rfl
  have r0 := (Y1.out.root ha).1
  rw [HROOT.out] at r0
  have CG := Lib.hid (fun wz (hF : Fr [] w1 wz) => ounpin_c wz (Y1.out.keep hF).he OKA.out WDA.out (pw o.a) HPW.out.1 HPW.out.2)
  rw [PS.out.1] at CG
  have hq1 : decide (0 ≤ (p : Int)) = true := by simp
  have KC : Hid (∀ wz, Fr [c.b, c.wb, c.lb] w1 wz → wz.cell? ⟨c.y, 0, none⟩ = some (.pointer (some ⟨c.hb, 0, none⟩)) ∧ wz.cell? ⟨c.y, 1, none⟩ = some (.slice (some ⟨S.rb, 0, none⟩) 8 8) ∧ wz.cell? ⟨bx, 1, none⟩ = some (.int .i64 (a : Int)) ∧ wz.cell? ⟨S.rb, a, none⟩ = some (.int .u64 (pw o.a))) := Lib.hid (fun wz hF => ⟨cell_fr y0 hF (by simpa using hy3), cell_fr y1 hF (by simpa using hy3), cell_fr k1 hF (by simpa using hn3), cell_fr r0 hF (by simpa using hr3)⟩)
  go_region_held3 (fun W => W.cell? ⟨c.y, 0, none⟩ = some (.pointer (some ⟨c.hb, 0, none⟩)) ∧ W.cell? ⟨c.y, 1, none⟩ = some (.slice (some ⟨S.rb, 0, none⟩) 8 8) ∧ W.cell? ⟨bx, 1, none⟩ = some (.int .i64 (a : Int)) ∧ W.cell? ⟨S.rb, a, none⟩ = some (.int .u64 (pw o.a))) (with_reducible first | assumption | exact KC.out _ (by assumption) | exact KC.out _ (Fr.refl _ _).drew | exact KC.out _ (((Fr.refl _ _).setCell (by simp) _).drew) | exact KC.out _ ((((Fr.refl _ _).setCell (by simp) _).setCell (by simp) _).drew) | exact KC.out _ (Fr.refl _ _)) (first | (go_at_call 23; refine (CG.out _ (by repeat (first | exact Fr.refl _ _ | assumption | apply Fr.drew))).mono ?_; rintro e w2 ⟨rfl, H2, F2⟩; have F3 : Fr [c.b, c.wb, c.lb] w1 w2 := Fr.pre (by repeat (first | exact Fr.refl _ _ | assumption | apply Fr.drew)) F2))
  have Y2 := Lib.hid (Y1.out.heap F3 H2)
  clear KC y0 y1 k1 r0 H2 F2 F3 CG Y1 B1
  have y4 : w2.cell? ⟨c.y, 4, none⟩ = some S.pv := Y2.out.y4
  rw [HPV.out] at y4
  obtain ⟨hpc, pf, pk⟩ := Y2.out.pfz HPV.out HNP.out (by omega)
  have pc := pk p q HPP.out
  have hpl : pg < w2.heap.size := (addr_none pc).2
  have Y3 := Lib.hid (Y2.out.setP HPV.out p (q + (-1)) HNP.out.symm)
  clear pk
  go_wp2
  go_ret
  exact fin.out _ Y3.out
end Go.Proofs.Ytjgndfhfiekomaa
