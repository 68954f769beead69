/- same: all that is reached is what it should be. -/
import Derived.Test.YtjgndfhfiekomaaYG
import Derived.BigQuiet
set_option linter.all false
namespace Go.Proofs.Ytjgndfhfiekomaa
open Go.ChangeShapes Go.WideShapes Go.RowKit
variable {w0 w : World} {c : Yk} {A : Ar} {S : Ys} {ex : List RV} {m : Nat} {G K : List Bool} {D : Nat → Option Ob}
set_option maxRecDepth 100000 in
set_option maxHeartbeats 32000000 in
theorem same_c (hY : YAt w0 w c A S ex) (hI : YI m A S G K D) :
    Calls Try.prog 41 #[.pointer (some ⟨c.y, 0, none⟩)] w fun e w' => e = .returned (.bool true) ∧ Fr [] w w' := by
  have HY := Lib.hid hY
  have HI := Lib.hid hI
  have hn := hI.mb.n
  obtain ⟨oa, ocap, hov, _⟩ := hY.oform
  obtain ⟨mg, mcap, hmv, hmc, _, hmk, _⟩ := hY.mrow
  obtain ⟨n, hnn⟩ : ∃ n, n = S.objs.length := ⟨_, rfl⟩
  rw [← hnn] at hov hn
  have HN := Lib.hid hnn
  have HOV := Lib.hid hov
  have HMV := Lib.hid hmv
  have KS : Hid (∀ wr, Fr [] w wr → wr.cell? ⟨c.y, 0, none⟩ = some (.pointer (some ⟨c.hb, 0, none⟩)) ∧ wr.cell? ⟨c.y, 1, none⟩ = some (.slice (some ⟨S.rb, 0, none⟩) 8 8) ∧ wr.cell? ⟨c.y, 2, none⟩ = some (.slice oa n ocap) ∧ wr.cell? ⟨c.y, 3, none⟩ = some (.slice (some ⟨mg, 0, none⟩) 8 mcap) ∧ wr.cell? ⟨c.y, 4, none⟩ = some S.pv) := Lib.hid (fun wr hF => by
    have h := hY.keep hF
    exact ⟨h.y0, h.y1, by rw [h.y2, hov], by rw [h.y3, hmv], h.y4⟩)
  have RW := run_words w n (by omega)
  have RB := run_bools (w.alloc (.cells (wordCells (zeros n)) 37)) n (by omega)
  obtain ⟨y0, y1, y2, y3, y4⟩ := KS.out w (Fr.refl _ _)
  have hyl : c.y < w.heap.size := lt_size hY.yc
  have hyl1 : c.y < w.heap.size + 1 := by omega
  have hyl2 : c.y < w.heap.size + 1 + 1 := by omega
  have hyn : c.y ≠ w.heap.size := by omega
  have hyn1 : c.y ≠ w.heap.size + 1 := by omega
  have hyn2 : c.y ≠ w.heap.size + 1 + 1 := by omega
  have hrl : S.rb < w.heap.size := (addr_none (hY.root (i := 0) (by omega)).1).2
  have NEQ : Hid ((c.y ≠ w.heap.size ∧ c.y ≠ w.heap.size + 1) ∧ (S.rb ≠ w.heap.size ∧ S.rb ≠ w.heap.size + 1) ∧ w.heap.size ≠ w.heap.size + 1 ∧ w.heap.size + 1 ≠ w.heap.size) := Lib.hid (by omega)
  clear hY hI hov hmv hnn hmk hrl
  go_enter Try.func41, Try.ntmps41
  go_wp2_with fail
  have M0 : Hid (SM w (((w.alloc (.cells (wordCells (zeros n)) 37)).alloc (.cells (boolCells (falses n)) 4)).alloc (.cells #[] 3)) w.heap.size (w.heap.size + 1) (w.heap.size + 1 + 1) (zeros n) (falses n) (.slice (some ⟨w.heap.size + 1 + 1, 0, none⟩) 0 0) []) := Lib.hid (by
    refine ⟨((Fr.refl _ _).alloc _).alloc _ |>.alloc _, ?_, ?_, ?_, by omega⟩
    · rw [blk_alloc, if_neg (by simp only [size_alloc]; omega), blk_alloc, if_neg (by simp only [size_alloc]; omega), blk_alloc, if_pos rfl]
    · rw [blk_alloc, if_neg (by simp only [size_alloc]; omega), blk_alloc, if_pos (by simp only [size_alloc])]
    · have := Qu.new ((w.alloc (.cells (wordCells (zeros n)) 37)).alloc (.cells (boolCells (falses n)) 4)) (w.heap.size + 1 + 1) (by simp only [size_alloc]; omega)
      simpa only [size_alloc] using this)
  have V0 := Lib.hid (SV.start D n)
  obtain ⟨i0, hi, hz0, hz1, hz2⟩ := info_parts infoI
  have II := Lib.hid hi
  have Z0 := Lib.hid hz0
  have Z1 := Lib.hid hz1
  have Z2 := Lib.hid hz2
  clear hi hz0 hz1 hz2 RB RW y0 y1 y2 y3 y4 hyl hyl1 hyl2 hyn hyn1 hyn2
  generalize hq0 : w.heap.size = ga at *
  clear hq0
  generalize hg1 : ga + 1 = gm at *
  generalize hB : gm + 1 = B at *
  clear hg1 hB
  obtain ⟨⟨n1, n2⟩, ⟨n3, n4⟩, n5, n6⟩ := NEQ.out
  go_loopw [5, 6, 7, 37] (fun q _ _ x wr => ∃ (k : Nat) (X : List Int) (L : List Bool) (l : List Int), k ≤ 8 ∧ x = .int .i64 (k : Int) ∧ Hid (SM w wr ga gm B X L q l) ∧ Hid (SV D n X L l)) (fun _ _ _ x _ => 8 - (intOf x).toNat)
  case atStart => exact ⟨0, _, _, _, by omega, by go_num, M0, V0⟩
  case round =>
    obtain ⟨k, X, L, l, hk, rfl, MK, VK⟩ := hrel
    clear M0 V0
    obtain ⟨y0, y1, y2, y3, y4⟩ := KS.out wr MK.out.fr
    obtain ⟨fx, fm, kx, km⟩ := MK.out.cells
    by_cases hlt : k < 8
    · obtain ⟨f, hf, hfw⟩ := HI.out.rt k hlt
      obtain ⟨kf0, kf1⟩ := (HY.out.keep MK.out.fr).mcell HMV.out hf
      have kr := ((HY.out.keep MK.out.fr).root hlt).1
      have hBr : Hid (B ≤ wr.heap.size) := Lib.hid (by obtain ⟨g, a1, a2, a3⟩ := MK.out.qu.own; omega)
      have hly : c.y < wr.heap.size := (addr_none y0).2
      have hlr : S.rb < wr.heap.size := (addr_none kr).2
      obtain ⟨fw, fk⟩ := f
      simp only at kf0 kf1
      rcases hfw with ⟨e1, e2, e3⟩ | ⟨j, o, e1, e2, e3⟩
      · simp only at e1 e2
        rw [e2] at kr
        subst e1
        clear e2 e3
        have M2 := Lib.hid (MK.out.keep ((Fr.refl [] _).alloc (.cells #[.int .u64 fw, .int .i64 (-1)] 139)))
        clear MK hf
        go_wp2_with fail
        go_region
        go_wp2
        go_roundw
        case rel => exact ⟨k + 1, X, L, l, by omega, by go_num, Lib.hid (M2.out.keep (Fr.refl _ _).drew), VK⟩
        case measure => simp [intOf]; omega
      · simp only at e1
        rw [e3] at kr
        subst e1
        have hjn := HI.out.bd j o e2
        rw [← HN.out] at hjn
        have hLl := VK.out.e
        obtain ⟨bj, hbj⟩ : ∃ bj, L[j]? = some bj := ⟨L[j]'(by omega), by rw [List.getElem?_eq_getElem]⟩
        obtain ⟨xj, hxj⟩ : ∃ xj, X[j]? = some xj := ⟨X[j]'(by omega), by rw [List.getElem?_eq_getElem]⟩
        have kb := km j bj hbj
        have ka := kx j xj hxj
        have hlm : gm < wr.heap.size := (addr_none kb).2
        have hla : ga < wr.heap.size := (addr_none ka).2
        have E2 := Lib.hid e2
        have QL : Hid (l.length ≤ 2000) := Lib.hid (by have := VK.out.m; omega)
        clear e3 hf kx km
        as_aux_lemma =>
          cases bj with
          | true =>
            have hxe := VK.out.same E2.out hbj
            rw [hxj] at hxe
            injection hxe with hxe
            subst hxe
            have M2 := Lib.hid (MK.out.keep ((Fr.refl [] _).alloc (.cells #[.int .u64 fw, .int .i64 (j : Int)] 139)))
            clear MK e2 hbj hxj
            go_wp2_with fail
            go_quiet (fail)
            go_wp2
            go_roundw
            case rel => exact ⟨k + 1, X, L, l, by omega, by go_num, Lib.hid (M2.out.keep ((Fr.refl _ _).drewN _)), VK⟩
            case measure => simp [intOf]; omega
          | false =>
            have V2 := Lib.hid (VK.out.meet E2.out hbj)
            have M2 := MK
            clear MK e2 hbj hxj VK
            go_wp2_with fail
            go_quiet (fail)
            go_wp2_with fail
            go_region
            go_wp2_with (at_builtin; refine wpList_append_qu rfl _ _ 88 rfl Try.underlying88 II.out Z0.out Z1.out Z2.out B u5 l rfl (by exact SM.qu (w := w) (ga := ga) (gm := gm) (X := X.set j (pw o.a)) (L := L.set j true) (by repeat (first | exact M2.out | refine SM.keep ?_ ((Fr.refl _ _).drewN _) | refine SM.keep ?_ ((Fr.refl _ _).drew) | refine SM.keep ?_ ((Fr.refl [] _).alloc _) | refine SM.setX ?_ _ _ | refine SM.mark ?_ _))) (by have := hBr.out; simp only [size_drew, size_drewN, size_set, size_alloc]; omega) _ _ (j : Int) rfl (cell_of (by (try simp only [blk_drew, blk_drewN]); rw [blk_alloc, if_pos (by simp only [size_alloc, size_set, size_drew, size_drewN])]) rfl) (by have := QL.out; omega) ?_; intro q' w2 hq' hF' hO')
            have R2 : Hid (SM w w2 ga gm B (X.set j (pw o.a)) (L.set j true) q' (l ++ [(j : Int)])) := Lib.hid (by refine SM.push (l := l) (q := u5) ?_ hq' hF'; exact (by repeat (first | exact M2.out | refine SM.keep ?_ ((Fr.refl _ _).drewN _) | refine SM.keep ?_ ((Fr.refl _ _).drew) | refine SM.keep ?_ ((Fr.refl [] _).alloc _) | refine SM.setX ?_ _ _ | refine SM.mark ?_ _)))
            clear hq' hF' hO' M2
            go_wp2
            go_roundw
            case rel =>
              first
              | exact ⟨k + 1, _, _, _, by omega, by go_num, R2, V2⟩
              | ((repeat apply Exists.intro); exact ⟨⟨k + 1, _, _, _, by omega, by go_num, R2, V2⟩, rfl⟩)
            case measure => simp [intOf]; omega
    · have HEK : Hid (∀ wr, Fr [] w wr → HeAt wr c.hb c.b c.wb c.lb A) := Lib.hid (fun wr hF => (HY.out.keep hF).he)
      have OKA := Lib.hid HI.out.hg.inv.ok
      have WDA := Lib.hid HI.out.hg.wd
      have hm0 := VK.out.m
      clear y0 y1 y2 y3 y4 fx fm kx km
      go_wp2_with fail
      go_loopg [5, 8, 9, 10, 11, 12, 13] (2 * n) (fun g q _ _ _ _ _ _ wr => ∃ (X : List Int) (L : List Bool) (l : List Int), Hid (SM w wr ga gm B X L q l) ∧ Hid (SV D n X L l) ∧ 2 * nF L + l.length ≤ g)
      case atStart => exact ⟨X, L, l, MK, VK, hm0⟩
      case round =>
        obtain ⟨wd, rfl⟩ : ∃ wd : World, wd = wr := ⟨_, rfl⟩
        clear MK VK hm0
        obtain ⟨X, L, l, MK, VK, hms⟩ := hrel
        cases l with
        | nil =>
          obtain ⟨qg, qo, qcap, cur, hq, hqr⟩ := MK.out.qu
          subst hq
          clear hqr
          as_aux_lemma =>
            have KX : Hid (∀ wr, Fr [] wd wr → (∀ (j : Nat) (x : Int), X[j]? = some x → wr.cell? ⟨ga, j, none⟩ = some (.int .u64 x)) ∧ ∀ (j : Nat) (x : Bool), L[j]? = some x → wr.cell? ⟨gm, j, none⟩ = some (.bool x)) := Lib.hid (fun wr hF => ⟨(MK.out.keep hF).cells.2.2.1, (MK.out.keep hF).cells.2.2.2⟩)
            have FD : Hid (Fr [] w wd) := Lib.hid MK.out.fr
            have DIFF : Hid (∀ (i k : Nat) (x y : Int), i ≠ k → L[i]? = some true → L[k]? = some true → X[i]? = some x → X[k]? = some y → x ≠ y) := Lib.hid (fun i k x y hik h1 h2 h3 h4 he => by
              obtain ⟨o, a1, a2⟩ := VK.out.b i h1
              obtain ⟨p, b1, b2⟩ := VK.out.b k h2
              rw [h3] at a2
              rw [h4] at b2
              injection a2 with a2
              injection b2 with b2
              exact hik (HI.out.hg.uniq a1 b1 (pw_inj (by rw [← a2, ← b2, he]))))
            have hle := VK.out.e
            clear MK VK hms
            go_wp2_with fail
            go_loopw [14, 253] (fun _ x wr => ∃ i : Nat, i ≤ n ∧ x = .int .i64 (i : Int) ∧ Hid (Fr [] wd wr)) (fun _ x _ => n - (intOf x).toNat)
            case atStart => exact ⟨0, by omega, by go_num, Lib.hid (Fr.refl _ _)⟩
            case round =>
              obtain ⟨i, hi, rfl, FI⟩ := hrel
              by_cases hlt2 : i < n
              · obtain ⟨bi, hbi⟩ : ∃ bi, L[i]? = some bi := ⟨L[i]'(by omega), by rw [List.getElem?_eq_getElem]⟩
                obtain ⟨xi, hxi⟩ : ∃ xi, X[i]? = some xi := ⟨X[i]'(by omega), by rw [List.getElem?_eq_getElem]⟩
                have HBI := Lib.hid hbi
                have HXI := Lib.hid hxi
                clear hbi hxi
                go_wp2_with fail
                go_loopw [15, 260] (fun _ x wr => ∃ k : Nat, k ≤ i ∧ x = .int .i64 (k : Int) ∧ Hid (Fr [] wd wr)) (fun _ x _ => i - (intOf x).toNat)
                case atStart => exact ⟨0, by omega, by go_num, FI⟩
                case round =>
                  obtain ⟨k, hk, rfl, FK⟩ := hrel
                  clear FI
                  by_cases hlt3 : k < i
                  · obtain ⟨bk, hbk⟩ : ∃ bk, L[k]? = some bk := ⟨L[k]'(by omega), by rw [List.getElem?_eq_getElem]⟩
                    obtain ⟨xk, hxk⟩ : ∃ xk, X[k]? = some xk := ⟨X[k]'(by omega), by rw [List.getElem?_eq_getElem]⟩
                    obtain ⟨kx, kl⟩ := KX.out _ FK.out
                    have l0 := kl i bi HBI.out
                    have l1 := kl k bk hbk
                    have x0 := kx i xi HXI.out
                    have x1 := kx k xk hxk
                    have HBK := Lib.hid hbk
                    have HXK := Lib.hid hxk
                    have FQ := fun q => Lib.hid ((FK.out.drewN q))
                    have hgn : gm ≠ ga := Ne.symm n5
                    clear kx kl hbk hxk
                    cases bi with
                    | false =>
                      clear x0 x1 l1
                      go_wp2_with fail
                      go_quiet (fail)
                      go_wp2
                      go_roundw
                      case rel => exact ⟨k + 1, by omega, by go_num, FQ _⟩
                      case measure => simp [intOf]; omega
                    | true =>
                      cases bk with
                      | false =>
                        clear x0 x1
                        go_wp2_with fail
                        go_quiet (fail)
                        go_wp2
                        go_roundw
                        case rel => exact ⟨k + 1, by omega, by go_num, FQ _⟩
                        case measure => simp [intOf]; omega
                      | true =>
                        have hne : ¬ xi = xk := DIFF.out i k xi xk (by omega) HBI.out HBK.out HXI.out HXK.out
                        have hnb : (xi == xk) = false := by simpa using hne
                        go_wp2_with fail
                        go_quiet (fail)
                        go_wp2
                        go_roundw
                        case rel => exact ⟨k + 1, by omega, by go_num, FQ _⟩
                        case measure => simp [intOf]; omega
                  · have hki : k = i := by omega
                    have HJK := Lib.hid hlt3
                    subst hki
                    go_wp2
                    go_roundw
                    case rel => exact ⟨k + 1, by omega, by go_num, FK⟩
                    case measure => simp [intOf]; omega
              · clear hi
                go_wp2
                go_ret
                exact ⟨rfl, FD.out.same FI.out⟩
        | cons y l =>
          obtain ⟨j, rfl, hLj⟩ := VK.out.a y (by simp)
          obtain ⟨o, hD, hXj⟩ := VK.out.b j hLj
          obtain ⟨qg, qo, qcap, cur, hq, hqr⟩ := MK.out.qu
          subst hq
          have kq := MK.out.qu.cell (i := 0) (x := (j : Int)) rfl rfl
          have hqc := hqr.2.2.1
          have hqg : qg < wd.heap.size := lt_size hqr.1
          have hqq : Qu wd B (.slice (some ⟨qg, qo, none⟩) (l.length + 1) qcap) ((j : Int) :: l) := MK.out.qu
          have RBASE := Lib.hid (And.intro MK.out.fr (And.intro MK.out.ax (And.intro MK.out.ot MK.out.lo)))
          obtain ⟨y0, y1, y2, y3, y4⟩ := KS.out wd MK.out.fr
          obtain ⟨fx, fm, kx, km⟩ := MK.out.cells
          have ka := kx j _ hXj
          obtain ⟨x, p, hx, hp, hob⟩ := HI.out.ob j o hD
          have hYd := HY.out.keep MK.out.fr
          obtain ⟨og, ocap', hov, ko0, ko1⟩ := hYd.min.at hx
          rw [HOV.out, ← HN.out] at hov
          simp only [Value.slice.injEq, true_and] at hov
          obtain ⟨rfl, rfl⟩ := hov
          obtain ⟨pg, pcap, hpv, _, _, kp, _⟩ := hYd.prow (by have := lt_some hp; omega)
          have kpj := kp j p hp
          rw [hpv, HI.out.np, ← HN.out] at y4
          obtain ⟨xk, xfs, xv⟩ := x
          obtain ⟨hxk, hxl, hpp, hobf, hobr⟩ := hob
          simp only at hxk hxl hobf hobr ko0 ko1
          obtain ⟨fa, fcap, hxv, hfc⟩ := hYd.fform hx
          simp only at hxv hfc
          subst hxv hxk
          have hat := HI.out.hg.hat hD
          have hpwb := HI.out.hg.pwb hD
          have hxb := HI.out.mb.f _ (List.mem_of_getElem? hx)
          simp only at hxb
          have hcnt := HI.out.cnt hD hx ⟨rfl, hxl, hpp, hobf, hobr⟩
          simp only at hcnt
          have hxl2 := hxb.1
          have HXL := Lib.hid hxl
          have HPB0 := Lib.hid hat
          have hjn := HI.out.bd j o hD
          rw [← HN.out] at hjn
          have OB := Lib.hid (And.intro hobf (And.intro hobr hcnt))
          have GT : Hid (∀ i : Nat, i < xfs.length → getF A m (pw o.a) i = (o.fs[i]?.getD 0, 0)) := Lib.hid (fun i hi => HI.out.hg.get hD i (by omega))
          have HX := Lib.hid hx
          have HXB := Lib.hid hxb
          have HLJ := Lib.hid hLj
          have HPW := Lib.hid hpwb
          have VP := Lib.hid VK.out.pop
          have VD := Lib.hid hD
          obtain ⟨pb, hpb⟩ : ∃ pb, pb = decide (0 < o.pins) := ⟨_, rfl⟩
          have hpd : decide ((0 : Int) < p) = pb := by rw [hpb, hpp]; simp
          have hlo : gm < wd.heap.size := lt_size MK.out.ot
          have hla : ga < wd.heap.size := lt_size MK.out.ax
          have hlb := MK.out.lo.1
          simp only [List.length_cons] at hms hqc ⊢
          simp only [Nat.add_zero] at kq
          have HQQ := Lib.hid hqq
          clear MK hqr hqq kx km fx fm hXj hLj hYd hx hp kp VK hxb hpp hpwb hobf hobr hcnt hD hxl hat hfc
          obtain ⟨v', hq2, hrun, hown⟩ := HQQ.out.pops
          have RP := Lib.hid (show SM w wd ga gm B X L v' l from ⟨RBASE.out.1, RBASE.out.2.1, RBASE.out.2.2.1, hq2, RBASE.out.2.2.2⟩)
          have PR := hrun wd
          have HOWN := Lib.hid hown
          clear RBASE HQQ hq2 hrun hown hqc
          go_wp2_with fail
          clear PR
          have R5 := Lib.hid (RP.out.keep ((Fr.refl [] _).alloc (.cells #[.int .i64 (o.kind : Int), .slice fa xfs.length fcap] 141)))
          have B5 : blk (wd.alloc (.cells #[.int .i64 (o.kind : Int), .slice fa xfs.length fcap] 141)) wd.heap.size = some (.cells #[.int .i64 (o.kind : Int), .slice fa xfs.length fcap] 141 (0, 0)) := by rw [blk_alloc, if_pos rfl]
          have FW5 : Fr [] wd (wd.alloc (.cells #[.int .i64 (o.kind : Int), .slice fa xfs.length fcap] 141)) := (Fr.refl _ _).alloc _
          generalize wd.alloc (.cells #[.int .i64 (o.kind : Int), .slice fa xfs.length fcap] 141) = w5 at *
          have ob0 := cell_of B5 (i := 0) rfl
          have ob1 := cell_of B5 (i := 1) rfl
          have hqn : qg ≠ wd.heap.size := by omega
          have hgo1 : wd.heap.size ≠ gm := by omega
          have hgo2 : wd.heap.size ≠ ga := by omega
          have hgn1 : gm ≠ wd.heap.size := by omega
          have hgn2 : ga ≠ wd.heap.size := by omega
          have KC : Hid (∀ wz, Fr [] w5 wz → wz.cell? ⟨c.y, 0, none⟩ = some (.pointer (some ⟨c.hb, 0, none⟩)) ∧ wz.cell? ⟨c.y, 4, none⟩ = some (.slice (some ⟨pg, 0, none⟩) n pcap) ∧ wz.cell? ⟨ga, j, none⟩ = some (.int .u64 (pw o.a)) ∧ wz.cell? ⟨wd.heap.size, 0, none⟩ = some (.int .i64 (o.kind : Int)) ∧ wz.cell? ⟨wd.heap.size, 1, none⟩ = some (.slice fa xfs.length fcap) ∧ wz.cell? ⟨pg, j, none⟩ = some (.int .i64 p)) := Lib.hid (fun wz hF => ⟨cell_fr (cell_fr y0 FW5 (by simp)) hF (by simp), cell_fr (cell_fr y4 FW5 (by simp)) hF (by simp), cell_fr (cell_fr ka FW5 (by simp)) hF (by simp), cell_fr ob0 hF (by simp), cell_fr ob1 hF (by simp), cell_fr (cell_fr kpj FW5 (by simp)) hF (by simp)⟩)
          generalize wd.heap.size = ob at *
          have CK : Hid (∀ wz, Fr [] w5 wz → Calls Try.prog 29 #[.pointer (some ⟨c.hb, 0, none⟩), .int .u64 (pw o.a)] wz fun e w' => e = .returned (.int .i64 (o.kind : Int)) ∧ Fr [] wz w') := Lib.hid (fun wz hF => by
            have := okind_c wz (HEK.out wz (R5.out.fr.same hF)) OKA.out WDA.out (pw o.a) HPW.out.1 HPW.out.2
            rw [HPB0.out] at this
            exact this)
          have CZ : Hid (∀ wz, Fr [] w5 wz → Calls Try.prog 30 #[.pointer (some ⟨c.hb, 0, none⟩), .int .u64 (pw o.a)] wz fun e w' => e = .returned (.int .i64 (xfs.length : Int)) ∧ Fr [] wz w') := Lib.hid (fun wz hF => by
            have := osize_c wz (HEK.out wz (R5.out.fr.same hF)) OKA.out WDA.out (pw o.a) HPW.out.1 HPW.out.2
            rw [HPB0.out, ← HXL.out] at this
            exact this)
          have CP : Hid (∀ wz, Fr [] w5 wz → Calls Try.prog 31 #[.pointer (some ⟨c.hb, 0, none⟩), .int .u64 (pw o.a)] wz fun e w' => e = .returned (.bool pb) ∧ Fr [] wz w') := Lib.hid (fun wz hF => by
            have := opinned_c wz (HEK.out wz (R5.out.fr.same hF)) OKA.out WDA.out (pw o.a) HPW.out.1 HPW.out.2
            rw [HPB0.out] at this
            rw [hpb]
            exact this)
          clear hpb ko0 ko1 kq ka kpj y0 y1 y2 y3 y4 ob0 ob1 FW5 RP
          go_region_held3 (fun W => W.cell? ⟨c.y, 0, none⟩ = some (.pointer (some ⟨c.hb, 0, none⟩)) ∧ W.cell? ⟨c.y, 4, none⟩ = some (.slice (some ⟨pg, 0, none⟩) n pcap) ∧ W.cell? ⟨ga, j, none⟩ = some (.int .u64 (pw o.a)) ∧ W.cell? ⟨ob, 0, none⟩ = some (.int .i64 (o.kind : Int)) ∧ W.cell? ⟨ob, 1, none⟩ = some (.slice fa xfs.length fcap) ∧ W.cell? ⟨pg, j, none⟩ = some (.int .i64 p)) (with_reducible first | assumption | exact KC.out _ (by assumption) | exact KC.out _ (Fr.refl _ _).drew | exact KC.out _ (Fr.refl _ _)) (first | (go_at_call 29; refine (CK.out _ (by repeat (first | exact Fr.refl _ _ | assumption | apply Fr.drew))).mono ?_; rintro e w6 ⟨rfl, F6⟩; have F7 : Fr [] w5 w6 := Fr.same (by repeat (first | exact Fr.refl _ _ | assumption | apply Fr.drew)) F6) | (go_at_call 30; refine (CZ.out _ (by repeat (first | exact Fr.refl _ _ | assumption | apply Fr.drew))).mono ?_; rintro e w6 ⟨rfl, F6⟩; have F7 : Fr [] w5 w6 := Fr.same (by repeat (first | exact Fr.refl _ _ | assumption | apply Fr.drew)) F6) | (go_at_call 31; refine (CP.out _ (by repeat (first | exact Fr.refl _ _ | assumption | apply Fr.drew))).mono ?_; rintro e w6 ⟨rfl, F6⟩; have F7 : Fr [] w5 w6 := Fr.same (by repeat (first | exact Fr.refl _ _ | assumption | apply Fr.drew)) F6))
          have R6 := Lib.hid (R5.out.keep F7)
          have B6 := Lib.hid (F7.at B5 (by simp))
          clear R5 F6 F7 KC CK CZ CP B5
          as_aux_lemma =>
            go_wp2_with fail
            go_loopw [5, 10, 11, 12, 13, 168] (fun q _ _ _ _ x wr => ∃ (k : Nat) (X : List Int) (L : List Bool) (l : List Int), k ≤ xfs.length ∧ x = .int .i64 (k : Int) ∧ Hid (SM w wr ga gm B X L q l) ∧ Hid (SV D n X L l) ∧ Hid (L[j]? = some true) ∧ Hid (2 * nF L + l.length < gk) ∧ Hid (blk wr ob = some (.cells #[.int .i64 (o.kind : Int), .slice fa xfs.length fcap] 141 (0, 0))) ∧ Hid (∀ z, q.ownBlock = some z → z ≠ ob)) (fun _ _ _ _ _ x _ => xfs.length - (intOf x).toNat)
            case atStart => exact ⟨0, X, L, l, by omega, by go_num, R6, VP, HLJ, Lib.hid (by first | omega | (simp only [List.length_nil]; omega)), B6, Lib.hid (fun z hz => by rw [HOWN.out] at hz; injection hz with hz; omega)⟩
            case round =>
              obtain ⟨wo, rfl⟩ : ∃ wo : World, wo = wr := ⟨_, rfl⟩
              clear R6 VP HLJ B6
              obtain ⟨k, X, L, l', hk, rfl, MK, VK, HLJ, HMS, BO, QO⟩ := hrel
              by_cases hlt : k < xfs.length
              · obtain ⟨f, hf⟩ : ∃ f, xfs[k]? = some f := ⟨xfs[k], by simp [hlt]⟩
                obtain ⟨y0, _, _, _, _⟩ := KS.out wo MK.out.fr
                obtain ⟨fx, fm, kx, km⟩ := MK.out.cells
                have ka := kx j _ (VK.out.same VD.out HLJ.out)
                obtain ⟨fg, fcap', hfv, _, kf0, kf1⟩ := ((HY.out.keep MK.out.fr).fds HX.out).at hf
                simp only [Value.slice.injEq, true_and] at hfv
                obtain ⟨rfl, rfl⟩ := hfv
                obtain ⟨fw, fk⟩ := f
                simp only at kf0 kf1
                have hfb := HXB.out.2 _ (List.mem_of_getElem? hf)
                simp only at hfb
                have GTK := Lib.hid (GT.out k hlt)
                have HF := Lib.hid hf
                have QL : Hid (l'.length ≤ 2000) := Lib.hid (by have := VK.out.m; omega)
                have hlm : gm < wo.heap.size := lt_size MK.out.ot
                have hla2 : ga < wo.heap.size := lt_size MK.out.ax
                have hlo2 : ob < wo.heap.size := lt_size BO.out
                have bo0 := cell_of BO.out (i := 0) rfl
                have bo1 := cell_of BO.out (i := 1) rfl
                clear kx km fx fm hf
                go_wp2_with fail
                have FW5 : Fr [] wo (wo.alloc (.cells #[.int .u64 fw, .int .i64 fk] 139)) := (Fr.refl _ _).alloc _
                have B5 : blk (wo.alloc (.cells #[.int .u64 fw, .int .i64 fk] 139)) wo.heap.size = some (.cells #[.int .u64 fw, .int .i64 fk] 139 (0, 0)) := by rw [blk_alloc, if_pos rfl]
                have R5 := Lib.hid (MK.out.keep FW5)
                have BO5 := Lib.hid (FW5.at BO.out (by simp))
                have hon : ob ≠ wo.heap.size := by omega
                have hgn3 : gm ≠ wo.heap.size := by omega
                have hgn4 : ga ≠ wo.heap.size := by omega
                generalize wo.alloc (.cells #[.int .u64 fw, .int .i64 fk] 139) = w5 at *
                have KC : Hid (∀ wz, Fr [] w5 wz → wz.cell? ⟨c.y, 0, none⟩ = some (.pointer (some ⟨c.hb, 0, none⟩)) ∧ wz.cell? ⟨ga, j, none⟩ = some (.int .u64 (pw o.a))) := Lib.hid (fun wz hF => ⟨cell_fr (cell_fr y0 FW5 (by simp)) hF (by simp), cell_fr (cell_fr ka FW5 (by simp)) hF (by simp)⟩)
                generalize wo.heap.size = fb at *
                have CG : Hid (∀ wz, Fr [] w5 wz → Calls Try.prog 17 #[.pointer (some ⟨c.hb, 0, none⟩), .int .u64 (pw o.a), .int .i64 (k : Int)] wz fun e w' => e = .returned (.tuple #[.int .u64 (o.fs[k]?.getD 0), .int .i64 0]) ∧ Fr [] wz w') := Lib.hid (fun wz hF => by
                  have := oget_c wz (HEK.out wz (R5.out.fr.same hF)) OKA.out WDA.out (pw o.a) (k : Int) HPW.out.1 HPW.out.2 (by omega)
                  rw [GTK.out] at this
                  exact this)
                clear y0 ka kf0 kf1 bo0 bo1 FW5 MK BO
                go_region_held3 (fun W => W.cell? ⟨c.y, 0, none⟩ = some (.pointer (some ⟨c.hb, 0, none⟩)) ∧ W.cell? ⟨ga, j, none⟩ = some (.int .u64 (pw o.a))) (with_reducible first | assumption | exact KC.out _ (by assumption) | exact KC.out _ (Fr.refl _ _).drew | exact KC.out _ (Fr.refl _ _)) (first | (go_at_call 17; refine (CG.out _ (by repeat (first | exact Fr.refl _ _ | assumption | apply Fr.drew))).mono ?_; rintro e w6 ⟨rfl, F6⟩; have F7 : Fr [] w5 w6 := Fr.same (by repeat (first | exact Fr.refl _ _ | assumption | apply Fr.drew)) F6))
                have R6 := Lib.hid (R5.out.keep F7)
                have B6 := Lib.hid (F7.at B5 (by simp))
                have BO6 := Lib.hid (F7.at BO5.out (by simp))
                have bo0 := cell_of BO6.out (i := 0) rfl
                have bo1 := cell_of BO6.out (i := 1) rfl
                have CC := Lib.hid (fun wz (hF : Fr [] w6 wz) => counted_m wz (o.kind : Int) (.slice (some ⟨fg, 0, none⟩) xfs.length fcap) xfs ((HY.out.keep (R6.out.fr.same hF)).fds HX.out) (by omega) (fun f hf => (HXB.out.2 f hf).1))
                rw [OB.out.2.2] at CC
                clear R5 F6 F7 KC CG B5 BO5
                go_wp2_with fail
                refine (CC.out _ (by repeat (first | exact Fr.refl _ _ | assumption | apply Fr.drew))).mono ?_
                rintro e w7 ⟨rfl, F8⟩
                have F9 : Fr [] w6 w7 := Fr.same (by repeat (first | exact Fr.refl _ _ | assumption | apply Fr.drew)) F8
                have M2 := Lib.hid (R6.out.keep F9)
                have B7 := Lib.hid (F9.at B6.out (by simp))
                have BO7 := Lib.hid (F9.at BO6.out (by simp))
                have bf0 := cell_of B7.out (i := 0) rfl
                have bf1 := cell_of B7.out (i := 1) rfl
                have bo0 := cell_of BO7.out (i := 0) rfl
                obtain ⟨fx, fm, kx, km⟩ := M2.out.cells
                clear R6 F8 F9 B6 BO6 CC bo1
                as_aux_lemma =>
                  by_cases hck : (cntO o : Int) ≤ (k : Int)
                  · by_cases hk16 : (o.kind : Int) < 16
                    · clear bf0 bf1 fx fm kx km
                      go_wp2
                      go_roundw
                      case rel => exact ⟨k + 1, X, L, l', by omega, by go_num, M2, VK, HLJ, HMS, BO7, QO⟩
                      case measure => simp [intOf]; omega
                    · obtain ⟨r1, r2⟩ := OB.out.2.1 (by omega) k _ HF.out
                      simp only at r1 r2
                      subst r1
                      have hr2 := Lib.hid r2
                      rw [r2]
                      clear fx fm kx km r2
                      go_wp2
                      go_roundw
                      case rel => exact ⟨k + 1, X, L, l', by omega, by go_num, M2, VK, HLJ, HMS, BO7, QO⟩
                      case measure => simp [intOf]; omega
                  · obtain ⟨f', hf', hfw⟩ := OB.out.1 k (by omega)
                    have hff := HF.out.symm.trans hf'
                    injection hff with hff
                    subst hff
                    rcases hfw with ⟨e1, e2, e3⟩ | ⟨j', o', e1, e2, e3⟩
                    · simp only at e1 e2
                      subst e1
                      rw [e2]
                      clear fx fm kx km hf' e2 e3
                      go_wp2
                      go_roundw
                      case rel => exact ⟨k + 1, X, L, l', by omega, by go_num, M2, VK, HLJ, HMS, BO7, QO⟩
                      case measure => simp [intOf]; omega
                    · simp only at e1
                      subst e1
                      rw [e3]
                      have hjn' := HI.out.bd j' o' e2
                      rw [← HN.out] at hjn'
                      have hLl := VK.out.e
                      obtain ⟨bj, hbj⟩ : ∃ bj, L[j']? = some bj := ⟨L[j']'(by omega), by rw [List.getElem?_eq_getElem]⟩
                      obtain ⟨xj, hxj⟩ : ∃ xj, X[j']? = some xj := ⟨X[j']'(by omega), by rw [List.getElem?_eq_getElem]⟩
                      have kb := km j' bj hbj
                      have ka' := kx j' xj hxj
                      have E2 := Lib.hid e2
                      have hpm := pw_tm o'.a
                      clear e3 kx km hf'
                      cases bj with
                      | true =>
                        have hxe := VK.out.same E2.out hbj
                        rw [hxj] at hxe
                        injection hxe with hxe
                        subst hxe
                        clear e2 hbj hxj
                        go_wp2
                        go_roundw
                        case rel => exact ⟨k + 1, X, L, l', by omega, by go_num, M2, VK, HLJ, HMS, BO7, QO⟩
                        case measure => simp [intOf]; omega
                      | false =>
                        have V2 := Lib.hid (VK.out.meet E2.out hbj)
                        have hBr : Hid (B ≤ w7.heap.size) := Lib.hid M2.out.qu.base
                        have HLJ2 : Hid ((L.set j' true)[j]? = some true) := Lib.hid (by
                          by_cases hjj : j' = j
                          · subst hjj; rw [List.getElem?_set_self (by omega)]
                          · rw [List.getElem?_set_ne hjj]; exact HLJ.out)
                        have HMS2 : Hid (2 * nF (L.set j' true) + (l' ++ [(j' : Int)]).length < gk) := Lib.hid (by
                          have h1 := nF_set hbj
                          have h2 := HMS.out
                          simp only [List.length_append, List.length_cons, List.length_nil]
                          omega)
                        have hob7 : ob < w7.heap.size := lt_size BO7.out
                        have HOB := Lib.hid (And.intro hob7 (And.intro hgo1 hgo2))
                        clear e2 hbj hxj bo0 hob7
                        go_wp2_with (at_builtin; refine wpList_append_qu rfl _ _ 88 rfl Try.underlying88 II.out Z0.out Z1.out Z2.out B u5 l' rfl (by exact SM.qu (w := w) (ga := ga) (gm := gm) (X := X.set j' (pw o'.a)) (L := L.set j' true) (by repeat (first | exact M2.out | refine SM.keep ?_ ((Fr.refl _ _).drewN _) | refine SM.keep ?_ ((Fr.refl _ _).drew) | refine SM.keep ?_ ((Fr.refl [] _).alloc _) | refine SM.setX ?_ _ _ | refine SM.mark ?_ _))) (by have := hBr.out; simp only [size_drew, size_drewN, size_set, size_alloc]; omega) _ _ (j' : Int) rfl (cell_of (by (try simp only [blk_drew, blk_drewN]); rw [blk_alloc, if_pos (by simp only [size_alloc, size_set, size_drew, size_drewN])]) rfl) (by have := QL.out; omega) ?_; intro q' w2 hq' hF' hO')
                        have R2 : Hid (SM w w2 ga gm B (X.set j' (pw o'.a)) (L.set j' true) q' (l' ++ [(j' : Int)])) := Lib.hid (by refine SM.push (l := l') (q := u5) ?_ hq' hF'; exact (by repeat (first | exact M2.out | refine SM.keep ?_ ((Fr.refl _ _).drewN _) | refine SM.keep ?_ ((Fr.refl _ _).drew) | refine SM.keep ?_ ((Fr.refl [] _).alloc _) | refine SM.setX ?_ _ _ | refine SM.mark ?_ _)))
                        have BO8 : Hid (blk w2 ob = some (.cells #[.int .i64 (o.kind : Int), .slice (some ⟨fg, 0, none⟩) xfs.length fcap] 141 (0, 0))) := Lib.hid (hF'.at (by (try simp only [blk_drew, blk_drewN]); rw [blk_alloc, if_neg (by simp only [size_set, size_drew, size_drewN]; have := HOB.out; omega)]; (try simp only [blk_drew, blk_drewN]); rw [blk_set, if_neg HOB.out.2.2, blk_set, if_neg HOB.out.2.1]; (try simp only [blk_drew, blk_drewN]); exact BO7.out) (fun hm => QO.out ob (by simpa using hm) rfl))
                        have QO8 : Hid (∀ z, q'.ownBlock = some z → z ≠ ob) := Lib.hid (fun z hz => by
                          rcases hO' with hO' | hO'
                          · rw [hO'] at hz; exact QO.out z hz
                          · have h1 := hO' z hz
                            simp only [size_alloc, size_set, size_drew, size_drewN] at h1
                            have := HOB.out
                            omega)
                        clear hq' hF' hO' M2
                        go_wp2
                        go_roundw
                        case rel =>
                          first
                          | exact ⟨k + 1, _, _, _, by omega, by go_num, R2, V2, HLJ2, HMS2, BO8, QO8⟩
                          | ((repeat apply Exists.intro); exact ⟨⟨k + 1, _, _, _, by omega, by go_num, R2, V2, HLJ2, HMS2, BO8, QO8⟩, rfl⟩)
                        case measure => simp [intOf]; omega
              · have hkl : k = xfs.length := by omega
                have HJK := Lib.hid hlt
                go_wp2
                go_roundg (2 * nF L + l'.length)
                case measure => exact HMS.out
                case rel => exact ⟨X, L, l', MK, VK, Nat.le_refl _⟩
end Go.Proofs.Ytjgndfhfiekomaa
