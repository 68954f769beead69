/- The model: Reached tells what is reached. -/
import Derived.Test.YtjgndfhfiekomaaYA
import Derived.Deep.LoopGhost
set_option linter.all false
namespace Go.Proofs.Ytjgndfhfiekomaa
open Go.ChangeShapes Go.WideShapes Go.RowKit
theorem infoI : (Try.prog.info? 3).map (fun i => (i.zero, i.size, i.bytes)) = some (some (.int .i64 0), 1, 8) := by kernel_rfl
structure RS (w wr : World) (q0 g1 B : Nat) (ov mv : Value) (objs : List Mo) (mr : List Fd) (L : List Bool) (q : Value) (l : List Int) : Prop where
  bx : blk wr q0 = some (.cells #[ov, mv] 87 (0, 0))
  ot : blk wr g1 = some (.cells (boolCells L) 4 (0, 0))
  mi : MIn wr ov mv objs mr
  fr : Fr [] w wr
  qu : Qu wr B q l
  lo : (q0 < B ∧ g1 < B) ∧ q0 ≠ g1 ∧ w.heap.size ≤ B ∧ w.heap.size ≤ q0 ∧ w.heap.size ≤ g1
variable {w wr wa w2 : World} {q0 g1 B : Nat} {ov mv : Value} {objs : List Mo} {mr : List Fd} {L : List Bool} {q q' : Value} {l l' : List Int}
theorem RS.keep (h : RS w wr q0 g1 B ov mv objs mr L q l) (hF : Fr [] wr w2) : RS w w2 q0 g1 B ov mv objs mr L q l :=
  ⟨hF.at h.bx (by simp), hF.at h.ot (by simp), h.mi.keep hF, h.fr.same hF, h.qu.keep hF, h.lo⟩
theorem RS.push (hM : MIn w ov mv objs mr) (h : RS w wr q0 g1 B ov mv objs mr L q l) (hq : Qu w2 B q' l') (hF : Fr q.ownBlock.toList wr w2) : RS w w2 q0 g1 B ov mv objs mr L q' l' := by
  obtain ⟨g, h1, h2, h3⟩ := h.qu.own
  obtain ⟨⟨l1, l2⟩, l3, l4, l5, l6⟩ := h.lo
  rw [h1] at hF
  have hFw : Fr [] w w2 := h.fr.trans hF (by simp; omega)
  exact ⟨hF.at h.bx (by simp; omega), hF.at h.ot (by simp; omega), hM.keep hFw, hFw, hq, h.lo⟩
theorem RS.mark (hM : MIn w ov mv objs mr) (h : RS w wr q0 g1 B ov mv objs mr L q l) (j : Nat) : RS w (wr.setCell ⟨g1, j, none⟩ (.bool true)) q0 g1 B ov mv objs mr (L.set j true) q l := by
  have hF : Fr [g1] wr (wr.setCell ⟨g1, j, none⟩ (.bool true)) := (Fr.refl _ _).setCell (by simp) _
  obtain ⟨g, h1, h2, h3⟩ := h.qu.own
  obtain ⟨⟨l1, l2⟩, l3, l4, l5, l6⟩ := h.lo
  have hFw : Fr [] w (wr.setCell ⟨g1, j, none⟩ (.bool true)) := h.fr.trans hF (by simp; omega)
  refine ⟨hF.at h.bx (by simp; omega), ?_, hM.keep hFw, hFw, h.qu.fr hF (fun x hx => by rw [h1] at hx; simp at hx ⊢; omega), h.lo⟩
  rw [blk_set, if_pos rfl, h.ot]
  simp [setObj, boolCells, List.map_set]
theorem RS.cells (h : RS w wr q0 g1 B ov mv objs mr L q l) : wr.cell? ⟨q0, 0, none⟩ = some ov ∧ wr.cell? ⟨q0, 1, none⟩ = some mv ∧ (∀ i, wr.frozen? ⟨g1, i, none⟩ = false) ∧ ∀ (j : Nat) (x : Bool), L[j]? = some x → wr.cell? ⟨g1, j, none⟩ = some (.bool x) :=
  ⟨cell_of h.bx rfl, cell_of h.bx rfl, fun i => free_of h.ot, fun j x hx => cell_of h.ot (by simp [boolCells, hx])⟩
set_option maxRecDepth 100000 in
set_option maxHeartbeats 4000000 in
theorem reached_m (w : World) (ov mv : Value) (objs : List Mo) (mr : List Fd) (hM : MIn w ov mv objs mr) (hb : MB objs mr) :
    Calls Try.prog 95 #[.agg #[ov, mv]] w fun e w' => ∃ g L, e = .returned (.slice (some ⟨g, 0, none⟩) objs.length objs.length) ∧ blk w' g = some (.cells (boolCells L) 4 (0, 0)) ∧ L.length = objs.length ∧ (∀ j : Nat, L[j]?.getD false = true ↔ RchM objs mr j) ∧ w.heap.size ≤ g ∧ Fr [] w w' := by
  have HM := Lib.hid hM
  have HB := Lib.hid hb
  obtain ⟨oa, ocap, rfl, _⟩ := hM.o
  obtain ⟨ma, mcap, rfl, hmc, _⟩ := hM.m
  have hn := hb.n
  have hr := hb.r
  have RB := run_bools (w.alloc (.cells #[.slice oa objs.length ocap, .slice ma mr.length mcap] 87)) objs.length (by omega)
  clear hM hb
  go_enter Try.func95, Try.ntmps95
  go_wp2_with fail
  have R0 : Hid (RS w (((w.alloc (.cells #[.slice oa objs.length ocap, .slice ma mr.length mcap] 87)).alloc (.cells (boolCells (falses objs.length)) 4)).alloc (.cells #[] 3)) w.heap.size (w.heap.size + 1) (w.heap.size + 1 + 1) (.slice oa objs.length ocap) (.slice ma mr.length mcap) objs mr (falses objs.length) (.slice (some ⟨w.heap.size + 1 + 1, 0, none⟩) 0 0) []) := Lib.hid (by
    have hF : Fr [] w (((w.alloc (.cells #[.slice oa objs.length ocap, .slice ma mr.length mcap] 87)).alloc (.cells (boolCells (falses objs.length)) 4)).alloc (.cells #[] 3)) := (((Fr.refl _ _).alloc _).alloc _).alloc _
    refine ⟨?_, ?_, HM.out.keep hF, hF, ?_, by omega⟩
    · rw [blk_alloc, if_neg (by simp only [size_alloc]; omega), blk_alloc, if_neg (by simp only [size_alloc]; omega), blk_alloc, if_pos rfl]
    · rw [blk_alloc, if_neg (by simp only [size_alloc]; omega), blk_alloc, if_pos (by simp only [size_alloc])]
    · have := Qu.new ((w.alloc (.cells #[.slice oa objs.length ocap, .slice ma mr.length mcap] 87)).alloc (.cells (boolCells (falses objs.length)) 4)) (w.heap.size + 1 + 1) (by simp only [size_alloc]; omega)
      simpa only [size_alloc] using this)
  obtain ⟨i0, hi, hz0, hz1, hz2⟩ := info_parts infoI
  have HI := Lib.hid hi
  have Z0 := Lib.hid hz0
  have Z1 := Lib.hid hz1
  have Z2 := Lib.hid hz2
  clear hi hz0 hz1 hz2 RB
  generalize hq0 : w.heap.size = q0 at *
  have Q0 := Lib.hid hq0
  clear hq0
  generalize hg1 : q0 + 1 = g1 at *
  generalize hB : g1 + 1 = B at *
  clear hg1 hB
  go_loopw [4, 6, 19] (fun q _ x wr => ∃ k : Nat, k ≤ mr.length ∧ x = .int .i64 (k : Int) ∧ Hid (RS w wr q0 g1 B (.slice oa objs.length ocap) (.slice ma mr.length mcap) objs mr (falses objs.length) q ((mr.take k).filterMap pk))) (fun _ _ x _ => mr.length - (intOf x).toNat)
  case atStart => exact ⟨0, by omega, by go_num, by simpa using R0⟩
  case round =>
    obtain ⟨k, hk, rfl, RK⟩ := hrel
    clear R0
    by_cases hlt : k < mr.length
    · obtain ⟨f, hf⟩ : ∃ f, mr[k]? = some f := ⟨mr[k], by simp [hlt]⟩
      obtain ⟨mg, mcap', hmv, hmc', k0, k1⟩ := RK.out.mi.m.at hf
      simp only [Value.slice.injEq, true_and] at hmv
      obtain ⟨rfl, rfl⟩ := hmv
      have hst : Hid ((mr.take (k + 1)).filterMap pk = (mr.take k).filterMap pk ++ (pk f).toList) := Lib.hid (by
        rw [List.take_add_one, hf, Option.toList_some, List.filterMap_append, List.filterMap_cons, List.filterMap_nil]
        cases pk f <;> rfl)
      have hlen : ((mr.take k).filterMap pk).length ≤ 1000 := by
        have := List.length_filterMap_le pk (mr.take k)
        rw [List.length_take] at this; omega
      obtain ⟨fw, fk⟩ := f
      simp only at k0 k1
      have hBr : Hid (B ≤ wr.heap.size) := Lib.hid (by obtain ⟨g, a1, a2, a3⟩ := RK.out.qu.own; omega)
      clear hf
      by_cases hfk : 0 ≤ fk
      · have hpk : Hid ((pk ⟨fw, fk⟩).toList = [fk]) := Lib.hid (by simp [pk, hfk])
        generalize hll : (mr.take k).filterMap pk = l0 at *
        have PU := Lib.hid (fun w2 q' (hq : Qu w2 B q' (l0 ++ [fk])) (hF : Fr _ wr w2) => RS.push HM.out RK.out hq hF)
        go_wp2_with (at_builtin; refine wpList_append_qu rfl _ _ 88 rfl Try.underlying88 HI.out Z0.out Z1.out Z2.out B _ l0 rfl ((RK.out.keep (((Fr.refl [] _).alloc _).alloc _)).qu) (by have := hBr.out; simp only [size_alloc]; omega) _ _ fk rfl (cell_of (by rw [blk_alloc, if_pos (by simp only [size_alloc])]) rfl) (by omega) ?_; intro q' w2 hq' hF' _)
        have R2 := Lib.hid (PU.out w2 q' hq' ((((Fr.refl [] _).alloc _).alloc _ |>.mono (by simp)).trans hF' (fun x hx => .inl hx)))
        clear hq' hF' PU RK k0 k1
        go_wp2
        go_roundw
        case rel =>
          first
          | exact ⟨k + 1, by omega, by go_num, by rw [hst.out, hpk.out]; exact R2⟩
          | ((repeat apply Exists.intro); exact ⟨⟨k + 1, by omega, by go_num, by rw [hst.out, hpk.out]; exact R2⟩, rfl⟩)
        case measure => simp [intOf]; omega
      · have hpk : Hid ((pk ⟨fw, fk⟩).toList = []) := Lib.hid (by simp [pk, hfk])
        have R2 := Lib.hid (RK.out.keep ((Fr.refl [] _).alloc (.cells #[.int .u64 fw, .int .i64 fk] 139)))
        clear RK
        go_wp2
        go_roundw
        case rel => exact ⟨k + 1, by omega, by go_num, by rw [hst.out, hpk.out, List.append_nil]; exact R2⟩
        case measure => simp [intOf]; omega
    · have hkl : k = mr.length := by omega
      subst hkl
      have R1 := RK.out
      rw [List.take_length] at R1
      have R1 := Lib.hid R1
      have I1 := Lib.hid (RI2.start HB.out)
      have hm0 : 241 * nF (falses objs.length) + (mr.filterMap pk).length ≤ 241 * objs.length + mr.length := by
        have h1 := List.length_filterMap_le pk mr
        have h2 : nF (falses objs.length) ≤ objs.length := by
          have := List.countP_le_length (p := fun x => !x) (l := falses objs.length)
          simpa [nF, falses] using this
        omega
      generalize falses objs.length = L0 at *
      generalize mr.filterMap pk = l0 at *
      clear RK
      go_wp2_with fail
      go_loopg [4, 7, 8, 10] (241 * objs.length + mr.length) (fun g q _ _ _ wr => ∃ (L : List Bool) (l : List Int), Hid (RS w wr q0 g1 B (.slice oa objs.length ocap) (.slice ma mr.length mcap) objs mr L q l) ∧ Hid (RI2 objs mr L l) ∧ 241 * nF L + l.length ≤ g ∧ g ≤ 242000)
      case atStart => exact ⟨L0, l0, R1, I1, hm0, by omega⟩
      case round =>
        obtain ⟨wd, rfl⟩ : ∃ wd : World, wd = wr := ⟨_, rfl⟩
        obtain ⟨L, l, RL, IL, hms, hgk⟩ := hrel
        clear R1 I1 hm0
        obtain ⟨kb, km, kf, kx⟩ := RL.out.cells
        cases l with
        | nil =>
          obtain ⟨qg, qo, qcap, cur, hq, hqr⟩ := RL.out.qu
          subst hq
          have FIN := Lib.hid (And.intro RL.out.ot (And.intro IL.out.e (And.intro IL.out.done (And.intro RL.out.lo.2.2.2.2 RL.out.fr))))
          clear RL IL kb km kf kx hqr
          go_wp2
          go_ret
          obtain ⟨f1, f2, f3, f4, f5⟩ := FIN.out
          exact ⟨g1, L, rfl, f1, f2, f3, f4, f5⟩
        | cons y l =>
          obtain ⟨j, rfl, hjn, hjr⟩ := IL.out.a y (by simp)
          obtain ⟨qg, qo, qcap, cur, hq, hqr⟩ := RL.out.qu
          subst hq
          have kq := RL.out.qu.cell (i := 0) (x := (j : Int)) rfl rfl
          obtain ⟨x, hx⟩ : ∃ x, objs[j]? = some x := ⟨objs[j], by simp [hjn]⟩
          have hLl := IL.out.e
          obtain ⟨bj, hbj⟩ : ∃ bj, L[j]? = some bj := ⟨L[j], by simp [hLl, hjn]⟩
          have kj := kx j bj hbj
          have HBJ := Lib.hid hbj
          have HX := Lib.hid hx
          have hqq : Qu wd B (.slice (some ⟨qg, qo, none⟩) (l.length + 1) qcap) ((j : Int) :: l) := RL.out.qu
          have RBASE := Lib.hid (And.intro RL.out.bx (And.intro RL.out.ot (And.intro RL.out.mi (And.intro RL.out.fr RL.out.lo))))
          simp only [List.length_cons] at hms hqr ⊢
          have hqc := hqr.2.2.1
          have HLE := Lib.hid (show l.length ≤ 300000 by omega)
          have HQQ := Lib.hid hqq
          clear RL hqr kx hbj hx hLl hqq
          simp only [Nat.add_zero] at kq
          by_cases hc1 : qcap = 1
          · subst hc1
            obtain ⟨hl0, hq0⟩ := HQQ.out.pop0
            subst hl0
            have RP := Lib.hid (show RS w wd q0 g1 B (.slice oa objs.length ocap) (.slice ma mr.length mcap) objs mr L (.slice (some ⟨qg, qo, none⟩) 0 0) [] from ⟨RBASE.out.1, RBASE.out.2.1, RBASE.out.2.2.1, RBASE.out.2.2.2.1, hq0, RBASE.out.2.2.2.2⟩)
            simp only [List.length_nil] at hms hqc ⊢
            clear hq0 RBASE HQQ
            cases bj with
            | true =>
              have I2 := Lib.hid (IL.out.skip (by rw [Int.toNat_natCast, HBJ.out]; rfl))
              clear IL
              go_wp2
              go_roundg (gk - 1)
              case measure => omega
              case rel => exact ⟨L, [], RP, I2, by simp only [List.length_nil]; omega, by omega⟩
            | false =>
              have I2 := Lib.hid (IL.out.visit HB.out HX.out)
              have RM := Lib.hid (RP.out.mark HM.out j)
              have nf := nF_set HBJ.out
              obtain ⟨og, ocap', hov, ko0, ko1⟩ := RM.out.mi.at HX.out
              simp only [Value.slice.injEq, true_and] at hov
              obtain ⟨rfl, rfl⟩ := hov
              have hlo := RM.out.lo
              obtain ⟨xk, xfs, xv⟩ := x
              simp only at ko0 ko1
              obtain ⟨fa, fcap, hxv, hfc, _⟩ := RM.out.mi.f j _ HX.out
              simp only at hxv hfc
              subst hxv
              have hxb := HB.out.f _ (List.mem_of_getElem? HX.out)
              simp only at hxb
              have hcb := cntM_b xk xfs (fun f hf => (hxb.2 f hf).1.1)
              have hxl := hxb.1
              have HXB := Lib.hid hxb
              have NF := Lib.hid nf
              clear RP hxb nf
              go_wp2_with fail
              have R5 := Lib.hid (RM.out.keep ((Fr.refl [] _).alloc (.cells #[.int .i64 xk, .slice fa xfs.length fcap] 141)))
              have B5 : blk ((wd.setCell ⟨g1, j, none⟩ (.bool true)).alloc (.cells #[.int .i64 xk, .slice fa xfs.length fcap] 141)) wd.heap.size = some (.cells #[.int .i64 xk, .slice fa xfs.length fcap] 141 (0, 0)) := by
                rw [blk_alloc, if_pos (by simp only [size_set])]
              generalize (wd.setCell ⟨g1, j, none⟩ (.bool true)).alloc (.cells #[.int .i64 xk, .slice fa xfs.length fcap] 141) = w5 at *
              have kc0 := cell_of B5 (i := 0) rfl
              have kc1 := cell_of B5 (i := 1) rfl
              generalize wd.heap.size = ob at *
              have KC : Hid (∀ wz, Fr [] w5 wz → wz.cell? ⟨ob, 0, none⟩ = some (.int .i64 xk) ∧ wz.cell? ⟨ob, 1, none⟩ = some (.slice fa xfs.length fcap)) := Lib.hid (fun wz hF => ⟨cell_fr kc0 hF (by simp), cell_fr kc1 hF (by simp)⟩)
              have CC := Lib.hid (fun wz (hF : Fr [] w5 wz) => counted_m wz xk (.slice fa xfs.length fcap) xfs ((R5.out.mi.f j _ HX.out).keep hF) (by omega) (fun f hf => (HXB.out.2 f hf).1))
              obtain ⟨cn, hcn⟩ : ∃ cn : Nat, cntM xk xfs = cn := ⟨(cntM xk xfs).toNat, by omega⟩
              rw [hcn] at CC hcb
              have I2 : Hid (RI2 objs mr (L.set j true) ([] ++ (xfs.take cn).filterMap pk)) := Lib.hid (by have := I2.out; simp only [hcn, Int.toNat_natCast] at this; exact this)
              have hcl : cn ≤ xfs.length := by omega
              clear RM B5 ko0 ko1 kb km kf kj kq IL hcn hcb HBJ
              have hb0 : (0 : Int) ≤ (cn : Int) := by omega
              have hb1 : (cn : Int) ≤ (fcap : Int) := by omega
              go_region_held3 (fun W => W.cell? ⟨ob, 0, none⟩ = some (.int .i64 xk) ∧ W.cell? ⟨ob, 1, none⟩ = some (.slice fa xfs.length fcap)) (with_reducible first | assumption | exact KC.out _ (by assumption) | exact KC.out _ (Fr.refl _ _).drew | exact KC.out _ (Fr.refl _ _)) (first | (go_at_call 93; refine (CC.out _ (by repeat (first | exact Fr.refl _ _ | assumption | apply Fr.drew))).mono ?_; rintro e w6 ⟨rfl, F6⟩; have F7 : Fr [] w5 w6 := Fr.same (by repeat (first | exact Fr.refl _ _ | assumption | apply Fr.drew)) F6))
              all_goals (
                have R6 := Lib.hid (R5.out.keep F7)
                clear R5 F6 F7 KC CC kc0 kc1
                go_wp2_with fail
                go_loopw [4, 10, 58] (fun q _ x wr => ∃ k : Nat, k ≤ cn ∧ x = .int .i64 (k : Int) ∧ Hid (RS w wr q0 g1 B (.slice (some ⟨og, 0, none⟩) objs.length ocap) (.slice ma mr.length mcap) objs mr (L.set j true) q ([] ++ ((xfs.take cn).take k).filterMap pk))) (fun _ _ x _ => cn - (intOf x).toNat)
                case atStart => exact ⟨0, by omega, by go_num, by simpa using R6⟩
                case round =>
                  obtain ⟨k, hk, rfl, RK⟩ := hrel
                  clear R6
                  by_cases hlt : k < cn
                  · obtain ⟨f, hf⟩ : ∃ f, xfs[k]? = some f := ⟨xfs[k]'(by omega), by rw [List.getElem?_eq_getElem]⟩
                    obtain ⟨fg, fcap', hfv, _, k0, k1⟩ := (RK.out.mi.f j _ HX.out).at hf
                    simp only [Value.slice.injEq, true_and] at hfv
                    obtain ⟨rfl, rfl⟩ := hfv
                    have hft : (xfs.take cn)[k]? = some f := by rw [List.getElem?_take, if_pos hlt]; exact hf
                    have hst : Hid (((xfs.take cn).take (k + 1)).filterMap pk = ((xfs.take cn).take k).filterMap pk ++ (pk f).toList) := Lib.hid (by
                      rw [List.take_add_one, hft, Option.toList_some, List.filterMap_append, List.filterMap_cons, List.filterMap_nil]
                      cases pk f <;> rfl)
                    have hlen : ([] ++ ((xfs.take cn).take k).filterMap pk).length ≤ 500000 := by
                      have := List.length_filterMap_le pk ((xfs.take cn).take k)
                      rw [List.length_take, List.length_take] at this
                      rw [List.length_append]
                      have := HB.out.n
                      have hnf : nF L ≤ L.length := List.countP_le_length
                      have hle := HLE.out
                      simp only [List.length_nil]; omega
                    obtain ⟨fw, fk⟩ := f
                    simp only at k0 k1
                    have hBr : Hid (B ≤ wr.heap.size) := Lib.hid (by obtain ⟨g, a1, a2, a3⟩ := RK.out.qu.own; omega)
                    clear hf hft
                    by_cases hfk : 0 ≤ fk
                    · have hpk : Hid ((pk ⟨fw, fk⟩).toList = [fk]) := Lib.hid (by simp [pk, hfk])
                      generalize hll : [] ++ ((xfs.take cn).take k).filterMap pk = l0 at *
                      have HLL := Lib.hid hll
                      clear hll
                      have PU := Lib.hid (fun w2 q' (hq : Qu w2 B q' (l0 ++ [fk])) (hF : Fr _ wr w2) => RS.push HM.out RK.out hq hF)
                      go_wp2_with (at_builtin; refine wpList_append_qu rfl _ _ 88 rfl Try.underlying88 HI.out Z0.out Z1.out Z2.out B _ l0 rfl ((RK.out.keep (((Fr.refl [] _).alloc _).alloc _)).qu) (by have := hBr.out; simp only [size_alloc]; omega) _ _ fk rfl (cell_of (by rw [blk_alloc, if_pos (by simp only [size_alloc])]) rfl) (by omega) ?_; intro q' w2 hq' hF' _)
                      have R2 := Lib.hid (PU.out w2 q' hq' ((((Fr.refl [] _).alloc _).alloc _ |>.mono (by simp)).trans hF' (fun x hx => .inl hx)))
                      clear hq' hF' PU RK k0 k1
                      go_wp2
                      go_roundw
                      case rel =>
                        first
                        | exact ⟨k + 1, by omega, by go_num, by rw [hst.out, hpk.out, ← List.append_assoc, HLL.out]; exact R2⟩
                        | ((repeat apply Exists.intro); exact ⟨⟨k + 1, by omega, by go_num, by rw [hst.out, hpk.out, ← List.append_assoc, HLL.out]; exact R2⟩, rfl⟩)
                      case measure => simp [intOf]; omega
                    · have hpk : Hid ((pk ⟨fw, fk⟩).toList = []) := Lib.hid (by simp [pk, hfk])
                      have R2 := Lib.hid (RK.out.keep ((Fr.refl [] _).alloc (.cells #[.int .u64 fw, .int .i64 fk] 139)))
                      clear RK
                      go_wp2
                      go_roundw
                      case rel => exact ⟨k + 1, by omega, by go_num, by rw [hst.out, hpk.out, List.append_nil]; exact R2⟩
                      case measure => simp [intOf]; omega
                  · have hkc : k = cn := by omega
                    have RE := Lib.hid (show RS w wr q0 g1 B (.slice (some ⟨og, 0, none⟩) objs.length ocap) (.slice ma mr.length mcap) objs mr (L.set j true) _ ([] ++ (xfs.take cn).filterMap pk) by
                      have := RK.out
                      rw [List.take_of_length_le (by rw [List.length_take]; omega)] at this
                      exact this)
                    have hlf := List.length_filterMap_le pk (xfs.take cn)
                    rw [List.length_take] at hlf
                    have NFo := NF.out
                    have HJK := Lib.hid hlt
                    clear RK
                    go_wp2
                    go_roundg (241 * nF (L.set j true) + ([] ++ (xfs.take cn).filterMap pk).length)
                    case measure => simp only [List.length_append, List.length_nil]; omega
                    case rel => exact ⟨L.set j true, _, RE, I2, Nat.le_refl _, by simp only [List.length_append, List.length_nil]; omega⟩)
          · have RP := Lib.hid (show RS w wd q0 g1 B (.slice oa objs.length ocap) (.slice ma mr.length mcap) objs mr L (.slice (some ⟨qg, qo + 1, none⟩) l.length (qcap - 1)) l from ⟨RBASE.out.1, RBASE.out.2.1, RBASE.out.2.2.1, RBASE.out.2.2.2.1, HQQ.out.pop, RBASE.out.2.2.2.2⟩)
            have hc2 : 0 < qcap - 1 := by omega
            have hc3 : ¬ qcap - 1 = 0 := by omega
            clear RBASE HQQ
            cases bj with
            | true =>
              have I2 := Lib.hid (IL.out.skip (by rw [Int.toNat_natCast, HBJ.out]; rfl))
              clear IL
              go_wp2
              go_roundg (gk - 1)
              case measure => omega
              case rel => exact ⟨L, l, RP, I2, by omega, by omega⟩
            | false =>
              have I2 := Lib.hid (IL.out.visit HB.out HX.out)
              have RM := Lib.hid (RP.out.mark HM.out j)
              have nf := nF_set HBJ.out
              obtain ⟨og, ocap', hov, ko0, ko1⟩ := RM.out.mi.at HX.out
              simp only [Value.slice.injEq, true_and] at hov
              obtain ⟨rfl, rfl⟩ := hov
              have hlo := RM.out.lo
              obtain ⟨xk, xfs, xv⟩ := x
              simp only at ko0 ko1
              obtain ⟨fa, fcap, hxv, hfc, _⟩ := RM.out.mi.f j _ HX.out
              simp only at hxv hfc
              subst hxv
              have hxb := HB.out.f _ (List.mem_of_getElem? HX.out)
              simp only at hxb
              have hcb := cntM_b xk xfs (fun f hf => (hxb.2 f hf).1.1)
              have hxl := hxb.1
              have HXB := Lib.hid hxb
              have NF := Lib.hid nf
              clear RP hxb nf
              go_wp2_with fail
              have R5 := Lib.hid (RM.out.keep ((Fr.refl [] _).alloc (.cells #[.int .i64 xk, .slice fa xfs.length fcap] 141)))
              have B5 : blk ((wd.setCell ⟨g1, j, none⟩ (.bool true)).alloc (.cells #[.int .i64 xk, .slice fa xfs.length fcap] 141)) wd.heap.size = some (.cells #[.int .i64 xk, .slice fa xfs.length fcap] 141 (0, 0)) := by
                rw [blk_alloc, if_pos (by simp only [size_set])]
              generalize (wd.setCell ⟨g1, j, none⟩ (.bool true)).alloc (.cells #[.int .i64 xk, .slice fa xfs.length fcap] 141) = w5 at *
              have kc0 := cell_of B5 (i := 0) rfl
              have kc1 := cell_of B5 (i := 1) rfl
              generalize wd.heap.size = ob at *
              have KC : Hid (∀ wz, Fr [] w5 wz → wz.cell? ⟨ob, 0, none⟩ = some (.int .i64 xk) ∧ wz.cell? ⟨ob, 1, none⟩ = some (.slice fa xfs.length fcap)) := Lib.hid (fun wz hF => ⟨cell_fr kc0 hF (by simp), cell_fr kc1 hF (by simp)⟩)
              have CC := Lib.hid (fun wz (hF : Fr [] w5 wz) => counted_m wz xk (.slice fa xfs.length fcap) xfs ((R5.out.mi.f j _ HX.out).keep hF) (by omega) (fun f hf => (HXB.out.2 f hf).1))
              obtain ⟨cn, hcn⟩ : ∃ cn : Nat, cntM xk xfs = cn := ⟨(cntM xk xfs).toNat, by omega⟩
              rw [hcn] at CC hcb
              have I2 : Hid (RI2 objs mr (L.set j true) (l ++ (xfs.take cn).filterMap pk)) := Lib.hid (by have := I2.out; simp only [hcn, Int.toNat_natCast] at this; exact this)
              have hcl : cn ≤ xfs.length := by omega
              clear RM B5 ko0 ko1 kb km kf kj kq IL hcn hcb HBJ
              have hb0 : (0 : Int) ≤ (cn : Int) := by omega
              have hb1 : (cn : Int) ≤ (fcap : Int) := by omega
              go_region_held3 (fun W => W.cell? ⟨ob, 0, none⟩ = some (.int .i64 xk) ∧ W.cell? ⟨ob, 1, none⟩ = some (.slice fa xfs.length fcap)) (with_reducible first | assumption | exact KC.out _ (by assumption) | exact KC.out _ (Fr.refl _ _).drew | exact KC.out _ (Fr.refl _ _)) (first | (go_at_call 93; refine (CC.out _ (by repeat (first | exact Fr.refl _ _ | assumption | apply Fr.drew))).mono ?_; rintro e w6 ⟨rfl, F6⟩; have F7 : Fr [] w5 w6 := Fr.same (by repeat (first | exact Fr.refl _ _ | assumption | apply Fr.drew)) F6))
              all_goals (
                have R6 := Lib.hid (R5.out.keep F7)
                clear R5 F6 F7 KC CC kc0 kc1
                go_wp2_with fail
                go_loopw [4, 10, 58] (fun q _ x wr => ∃ k : Nat, k ≤ cn ∧ x = .int .i64 (k : Int) ∧ Hid (RS w wr q0 g1 B (.slice (some ⟨og, 0, none⟩) objs.length ocap) (.slice ma mr.length mcap) objs mr (L.set j true) q (l ++ ((xfs.take cn).take k).filterMap pk))) (fun _ _ x _ => cn - (intOf x).toNat)
                case atStart => exact ⟨0, by omega, by go_num, by simpa using R6⟩
                case round =>
                  obtain ⟨k, hk, rfl, RK⟩ := hrel
                  clear R6
                  by_cases hlt : k < cn
                  · obtain ⟨f, hf⟩ : ∃ f, xfs[k]? = some f := ⟨xfs[k]'(by omega), by rw [List.getElem?_eq_getElem]⟩
                    obtain ⟨fg, fcap', hfv, _, k0, k1⟩ := (RK.out.mi.f j _ HX.out).at hf
                    simp only [Value.slice.injEq, true_and] at hfv
                    obtain ⟨rfl, rfl⟩ := hfv
                    have hft : (xfs.take cn)[k]? = some f := by rw [List.getElem?_take, if_pos hlt]; exact hf
                    have hst : Hid (((xfs.take cn).take (k + 1)).filterMap pk = ((xfs.take cn).take k).filterMap pk ++ (pk f).toList) := Lib.hid (by
                      rw [List.take_add_one, hft, Option.toList_some, List.filterMap_append, List.filterMap_cons, List.filterMap_nil]
                      cases pk f <;> rfl)
                    have hlen : (l ++ ((xfs.take cn).take k).filterMap pk).length ≤ 500000 := by
                      have := List.length_filterMap_le pk ((xfs.take cn).take k)
                      rw [List.length_take, List.length_take] at this
                      rw [List.length_append]
                      have := HB.out.n
                      have hnf : nF L ≤ L.length := List.countP_le_length
                      have hle := HLE.out
                      omega
                    obtain ⟨fw, fk⟩ := f
                    simp only at k0 k1
                    have hBr : Hid (B ≤ wr.heap.size) := Lib.hid (by obtain ⟨g, a1, a2, a3⟩ := RK.out.qu.own; omega)
                    clear hf hft
                    by_cases hfk : 0 ≤ fk
                    · have hpk : Hid ((pk ⟨fw, fk⟩).toList = [fk]) := Lib.hid (by simp [pk, hfk])
                      generalize hll : l ++ ((xfs.take cn).take k).filterMap pk = l0 at *
                      have HLL := Lib.hid hll
                      clear hll
                      have PU := Lib.hid (fun w2 q' (hq : Qu w2 B q' (l0 ++ [fk])) (hF : Fr _ wr w2) => RS.push HM.out RK.out hq hF)
                      go_wp2_with (at_builtin; refine wpList_append_qu rfl _ _ 88 rfl Try.underlying88 HI.out Z0.out Z1.out Z2.out B _ l0 rfl ((RK.out.keep (((Fr.refl [] _).alloc _).alloc _)).qu) (by have := hBr.out; simp only [size_alloc]; omega) _ _ fk rfl (cell_of (by rw [blk_alloc, if_pos (by simp only [size_alloc])]) rfl) (by omega) ?_; intro q' w2 hq' hF' _)
                      have R2 := Lib.hid (PU.out w2 q' hq' ((((Fr.refl [] _).alloc _).alloc _ |>.mono (by simp)).trans hF' (fun x hx => .inl hx)))
                      clear hq' hF' PU RK k0 k1
                      go_wp2
                      go_roundw
                      case rel =>
                        first
                        | exact ⟨k + 1, by omega, by go_num, by rw [hst.out, hpk.out, ← List.append_assoc, HLL.out]; exact R2⟩
                        | ((repeat apply Exists.intro); exact ⟨⟨k + 1, by omega, by go_num, by rw [hst.out, hpk.out, ← List.append_assoc, HLL.out]; exact R2⟩, rfl⟩)
                      case measure => simp [intOf]; omega
                    · have hpk : Hid ((pk ⟨fw, fk⟩).toList = []) := Lib.hid (by simp [pk, hfk])
                      have R2 := Lib.hid (RK.out.keep ((Fr.refl [] _).alloc (.cells #[.int .u64 fw, .int .i64 fk] 139)))
                      clear RK
                      go_wp2
                      go_roundw
                      case rel => exact ⟨k + 1, by omega, by go_num, by rw [hst.out, hpk.out, List.append_nil]; exact R2⟩
                      case measure => simp [intOf]; omega
                  · have hkc : k = cn := by omega
                    have RE := Lib.hid (show RS w wr q0 g1 B (.slice (some ⟨og, 0, none⟩) objs.length ocap) (.slice ma mr.length mcap) objs mr (L.set j true) _ (l ++ (xfs.take cn).filterMap pk) by
                      have := RK.out
                      rw [List.take_of_length_le (by rw [List.length_take]; omega)] at this
                      exact this)
                    have hlf := List.length_filterMap_le pk (xfs.take cn)
                    rw [List.length_take] at hlf
                    have NFo := NF.out
                    have HJK := Lib.hid hlt
                    clear RK
                    go_wp2
                    go_roundg (241 * nF (L.set j true) + (l ++ (xfs.take cn).filterMap pk).length)
                    case measure => simp only [List.length_append, List.length_nil]; omega
                    case rel => exact ⟨L.set j true, _, RE, I2, Nat.le_refl _, by simp only [List.length_append, List.length_nil]; omega⟩)
end Go.Proofs.Ytjgndfhfiekomaa
