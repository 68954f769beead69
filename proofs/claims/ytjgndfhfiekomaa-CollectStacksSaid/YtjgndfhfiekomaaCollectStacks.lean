/- The law CollectStacks holds: the Go function returns true. No condition. -/
import Derived.Test.YtjgndfhfiekomaaColY
import Derived.Test.YtjgndfhfiekomaaStkA
import Derived.ProofKit
import Derived.ChangeOld
namespace Go.Proofs.Ytjgndfhfiekomaa.collectStacks
open Go.ChangeShapes Go.WideShapes Go.ChangeAt Go.RowKit
set_option linter.unusedVariables false
theorem small13_c (n : Int) (w : World) (h0 : -1000 ≤ n) (h1 : n ≤ 1000) :
    Calls Try.prog 38 #[.int .i64 n] w fun e w' => e = .returned (.tuple #[.int .u64 (mkW 0 n), .bool true]) ∧ Fr [] w w' := by
  go_enter Try.func38, Try.ntmps38
  go_wp2_with (go_at_call 64; refine (wmade_r _ _ _ (by omega) (by omega)).mono ?_; rintro e w' ⟨rfl, rfl⟩)
  refine bodyPost_ret (v := .tuple #[.int .u64 (mkW 0 n), .bool true]) (by simp [results, Try.results38, go_sem]) rfl ⟨rfl, ?_⟩
  repeat (first | exact Fr.refl _ _ | apply Fr.alloc | apply Fr.drew)
/-- One row of one word at its block. -/
def row1 (g : Nat) (x : Int) : Rw := ⟨g, 1, 0, 1, some ⟨g, 0, none⟩, [x]⟩
variable {w w' : World} {hb b wb lb : Nat}
theorem row1_in {g : Nat} {x u : Int} (h : blk w g = some (.cells #[.int .u64 u] 37 (0, 0))) : RowsIn w [row1 g x] [[u]] := by
  refine ⟨rfl, ?_⟩
  intro i r l hr hl
  match i with
  | 0 =>
    simp only [List.getElem?_cons_zero, Option.some.injEq] at hr hl
    subst hr hl
    refine ⟨rfl, .inr ⟨rfl, _, h, rfl, ?_⟩⟩
    intro j hj
    match j, hj with
    | 0, _ => rfl
  | i + 1 => simp at hr
theorem row1_arg {g g2 : Nat} {x : Int} (h : blk w g2 = some (.cells #[.slice (some ⟨g, 0, none⟩) 1 1] 26 (0, 0))) (hg : g < w.heap.size) (hne : g2 ≠ g) (h1 : g ∉ [hb, b, wb, lb]) (h2 : g2 ∉ [hb, b, wb, lb]) :
    RowsArg w hb b wb lb (.slice (some ⟨g2, 0, none⟩) 1 1) [row1 g x] := by
  refine ⟨⟨_, 1, rfl⟩, ?_, ?_, ?_, by simp, ?_⟩
  · intro i r hr
    match i with
    | 0 =>
      simp only [List.getElem?_cons_zero, Option.some.injEq] at hr
      subst hr
      exact ⟨g2, 0, 1, rfl, cell_of h rfl, h2, by simp [row1]; exact hne⟩
    | i + 1 => simp at hr
  · intro r hr
    simp only [List.mem_singleton] at hr
    subst hr
    exact ⟨hg, h1⟩
  · intro i j r s hij hr hs
    match i, j with
    | 0, 0 => exact absurd rfl hij
    | 0, j + 1 => simp at hs
    | i + 1, _ => simp at hr
  · intro r hr
    simp only [List.mem_singleton] at hr
    subst hr
    simp [row1]
set_option maxRecDepth 100000 in
theorem early (n u : Int) (w : World) (bn : -9223372036854775808 ≤ n ∧ n ≤ 9223372036854775807) (bu : -9223372036854775808 ≤ u ∧ u ≤ 9223372036854775807) (h : n < 2 ∨ 200 < n ∨ u < -5 ∨ 300 < u) :
    Calls Try.prog 5 #[.int .i64 n, .int .i64 u] w fun e w' => e = .returned (.bool true) ∧ Below w.heap.size w w' := by
  by_cases h1 : n < 2
  · clear h
    go_enter Try.func5, Try.ntmps5
    go_wp2_with (go_at_call 37; refine (collectAlive_c _).mono ?_; rintro e w' ⟨rfl, F1⟩)
    go_ret
    exact ⟨rfl, F1.below⟩
  by_cases h2 : 200 < n
  · clear h
    go_enter Try.func5, Try.ntmps5
    go_wp2_with (go_at_call 37; refine (collectAlive_c _).mono ?_; rintro e w' ⟨rfl, F1⟩)
    go_ret
    exact ⟨rfl, F1.below⟩
  by_cases h3 : u < -5
  · clear h
    go_enter Try.func5, Try.ntmps5
    go_wp2_with (go_at_call 37; refine (collectAlive_c _).mono ?_; rintro e w' ⟨rfl, F1⟩)
    go_ret
    exact ⟨rfl, F1.below⟩
  · have h4 : 300 < u := by omega
    clear h
    go_enter Try.func5, Try.ntmps5
    go_wp2_with (go_at_call 37; refine (collectAlive_c _).mono ?_; rintro e w' ⟨rfl, F1⟩)
    go_ret
    exact ⟨rfl, F1.below⟩
set_option maxHeartbeats 8000000 in
set_option maxRecDepth 100000 in
theorem main (n : Nat) (u : Int) (w : World) (n2 : 2 ≤ n) (n200 : n ≤ 200) (u0 : -5 ≤ u) (u1 : u ≤ 300) :
    Calls Try.prog 5 #[.int .i64 (n : Int), .int .i64 u] w fun e w' => e = .returned (.bool true) ∧ Below w.heap.size w w' := by
  obtain ⟨a0, hm, hS0⟩ := Stk.start n n2 n200
  have e1 := Lib.hid hm
  have S0 := Lib.hid hS0
  clear hm hS0
  go_enter Try.func5, Try.ntmps5
  go_wp2_with fail
  refine (collectAlive_c _).mono ?_
  rintro e w0 ⟨rfl, F0⟩
  go_wp2_with fail
  refine (onew_c _ _).mono ?_
  rintro e w1 ⟨hb, b, wb, lb, rfl, H1, F1, q0, q1, q2, q3⟩
  have H1 : Hid (HeAt w1 hb b wb lb (Ar.new 20)) := Lib.hid H1
  have hs0 := F0.size
  go_wp2_with fail
  refine (omake_c _ H1.out (Ar.new_ok 20 (by omega) (by omega)) 15 n).mono ?_
  rintro e w2 ⟨rfl, H2, F2⟩
  rw [e1.out]; simp only [wordVal]
  have H2 := Lib.hid H2
  have FW : Hid (Fr [] w w2) := Lib.hid ((F0.same F1).trans F2 (by simp; omega))
  have LT : Hid (hb < w2.heap.size ∧ b < w2.heap.size ∧ wb < w2.heap.size ∧ lb < w2.heap.size ∧ w.heap.size ≤ hb ∧ w.heap.size ≤ b ∧ w.heap.size ≤ wb ∧ w.heap.size ≤ lb) := Lib.hid ⟨lt_size H2.out.p, lt_size H2.out.ar.hb, lt_size H2.out.ar.hw, lt_size H2.out.ar.hl, by omega, by omega, by omega, by omega⟩
  generalize (makeF (Ar.new 20) 20 15 (n : Int)).1 = A0 at *
  clear F0 F1 F2 H1 q0 q1 q2 q3 hs0 e1
  go_wp2_with fail
  go_loopw [8, 9, 10] (fun x _ _ wr => ∃ (k : Nat) (A : Ar), k ≤ n - 2 ∧ x = .int .i64 ((k : Int) + 2) ∧ Hid (HeAt wr hb b wb lb A) ∧ Hid (Stk A n k a0) ∧ Hid (Fr [] w wr) ∧ Hid (w2.heap.size ≤ wr.heap.size)) (fun x _ _ _ => n - (intOf x).toNat)
  case atStart => exact ⟨0, A0, by omega, by go_num, H2, S0, FW, Lib.hid (Nat.le_refl _)⟩
  case round =>
    obtain ⟨k, A, hk, rfl, HA, SA, FA, ZA⟩ := hrel
    clear H2 S0 FW
    by_cases hlt : k + 2 < n
    · obtain ⟨x, x1, x2, x3, x4, x5, x6⟩ := SA.out.step hlt n200
      obtain ⟨G, D, fs, hg, _, _, d0, _⟩ := SA.out
      have OKA := Lib.hid hg.inv.ok
      have HP := Lib.hid (hg.pwb d0)
      have X1 := Lib.hid x1
      have X2 := Lib.hid x2
      have X3 := Lib.hid x3
      have X4 := Lib.hid x4
      have X5 := Lib.hid x5
      have X6 := Lib.hid x6
      clear x1 x2 x3 x4 x5 x6 hg d0
      go_wp2_with fail
      refine (omake_c _ HA.out OKA.out 0 1).mono ?_
      rintro e w3 ⟨rfl, H3, F3⟩
      rw [X1.out]; simp only [wordVal]
      have H3 := Lib.hid H3
      have CS := Lib.hid (oset_c w3 H3.out X4.out X3.out (pw a0) ((k + 2 : Nat) : Int) x HP.out.1 HP.out.2 (by omega))
      rw [X5.out] at CS
      simp only [Int.natCast_add, Int.cast_ofNat_Int] at CS
      have F3 := Lib.hid F3
      generalize (makeF A 20 0 1).1 = A3 at *
      clear X1 HA OKA SA X5
      go_wp2_with fail
      refine CS.out.mono ?_
      rintro e w4 ⟨rfl, H4, F4⟩
      have H4 : Hid (HeAt w4 hb b wb lb (setF A3 20 (pw a0) ((k + 2 : Nat) : Int) x).1) := Lib.hid H4
      have Z4 : Hid (w2.heap.size ≤ w4.heap.size) := Lib.hid (Nat.le_trans ZA.out (Nat.le_trans F3.out.size F4.size))
      have F5 : Hid (Fr [] w w4) := Lib.hid ((FA.out.trans F3.out (by have := LT.out; simp; omega)).trans F4 (by have := LT.out; simp; omega))
      clear CS F4 F3 FA H3 X3 X4 X2 ZA
      go_wp2
      go_roundw
      case rel => exact ⟨k + 1, _, by omega, by go_num, H4, X6, F5, Z4⟩
      case measure => simp [intOf]; omega
    · have hkn : k = n - 2 := by omega
      obtain ⟨G, D, hpw, awd, aok, hg, un, hbd, hcl, ⟨o0, d0, ho⟩, hlive⟩ := (show Stk A n (n - 2) a0 by rw [← hkn]; exact SA.out).end n2 n200 u0 u1
      have s0 : (setF A 20 (pw a0) 1 (mkW 0 u)).2 = (setF A 20 (pw a0) 1 (mkW 0 u)).2 := rfl
      have HP := Lib.hid hpw
      have AW := Lib.hid awd
      have AO := Lib.hid aok
      have HG' := Lib.hid hg
      have UN := Lib.hid un
      have BD := Lib.hid hbd
      have CLo := Lib.hid hcl
      have D0 := Lib.hid (show ∃ o, D 0 = some o ∧ pw a0 = pw o.a from ⟨o0, d0, ho⟩)
      have LV := Lib.hid hlive
      clear hpw awd aok hg un hbd hcl d0 ho hlive s0 SA
      go_wp2_with fail
      refine (small13_c u _ (by omega) (by omega)).mono ?_
      rintro e w3 ⟨rfl, F3⟩
      have H3 := Lib.hid (HA.out.keep F3)
      have F3' := Lib.hid (FA.out.same F3)
      have Z3 : Hid (w2.heap.size ≤ w3.heap.size) := Lib.hid (Nat.le_trans ZA.out F3.size)
      clear FA F3 HA ZA
      go_wp2_with fail
      refine (oset_c w3 H3.out AO.out AW.out (pw a0) 1 (mkW 0 u) HP.out.1 HP.out.2 (by omega)).mono ?_
      rintro e w4 ⟨rfl, H4, F4⟩
      have H4 := Lib.hid H4
      have F5 : Hid (Fr [] w w4) := Lib.hid (F3'.out.trans F4 (by have := LT.out; simp; omega))
      have Z4 : Hid (w2.heap.size ≤ w4.heap.size) := Lib.hid (Nat.le_trans Z3.out F4.size)
      generalize (setF A 20 (pw a0) 1 (mkW 0 u)).1 = A4 at *
      generalize (setF A 20 (pw a0) 1 (mkW 0 u)).2 = er at *
      clear F4 F3' H3 Z3 AW AO
      go_wp2_with fail
      have FA : Fr [] w4 ((w4.alloc (.cells #[.int .u64 (pw a0)] 37)).alloc (.cells #[.slice (some ⟨w4.heap.size, 0, none⟩) 1 1] 26)) := ((Fr.refl _ _).alloc _).alloc _
      have Bg : blk ((w4.alloc (.cells #[.int .u64 (pw a0)] 37)).alloc (.cells #[.slice (some ⟨w4.heap.size, 0, none⟩) 1 1] 26)) w4.heap.size = some (.cells #[.int .u64 (pw a0)] 37 (0, 0)) := by
        rw [blk_alloc, if_neg (by simp only [size_alloc]; omega), blk_alloc, if_pos rfl]
      have Bg2 : blk ((w4.alloc (.cells #[.int .u64 (pw a0)] 37)).alloc (.cells #[.slice (some ⟨w4.heap.size, 0, none⟩) 1 1] 26)) (w4.heap.size + 1) = some (.cells #[.slice (some ⟨w4.heap.size, 0, none⟩) 1 1] 26 (0, 0)) := by
        rw [blk_alloc, if_pos (by simp only [size_alloc])]
      have NG : Hid ((w4.heap.size ∉ [hb, b, wb, lb]) ∧ w4.heap.size + 1 ∉ [hb, b, wb, lb]) := Lib.hid (by
        obtain ⟨l1, l2, l3, l4, _⟩ := LT.out
        have := Z4.out
        simp only [List.mem_cons, List.not_mem_nil, or_false, not_or]
        omega)
      have ARG := row1_arg (x := pw a0) Bg2 (lt_size Bg) (by omega) NG.out.1 NG.out.2
      have R1 := Lib.hid (run_law (H4.out.keep FA) HG'.out UN.out BD.out (by omega) CLo.out _ _ _ ARG (row1_in Bg) (fun l hl x hx => by
        simp only [List.mem_singleton] at hl
        subst hl
        simp only [List.mem_singleton] at hx
        obtain ⟨o, h1, h2⟩ := D0.out
        exact .inr ⟨0, o, h1, by rw [hx, h2]⟩) (fun l hl x hx => by
        simp only [List.mem_singleton] at hl
        subst hl
        simp only [List.mem_singleton] at hx
        rw [hx]; exact HP.out) 0 0)
      have FWA : Hid (Fr [] w ((w4.alloc (.cells #[.int .u64 (pw a0)] 37)).alloc (.cells #[.slice (some ⟨w4.heap.size, 0, none⟩) 1 1] 26))) := Lib.hid ((F5.out.alloc _).alloc _)
      clear Bg Bg2 ARG FA H4 F5
      refine R1.out.mono ?_
      rintro e w6 ⟨cl, T, ls', G6, K6, C, ms, AF, _, rfl, H6, R6, F6⟩
      have hlv := LV.out _ _ _ _ _ _ _ AF
      have F7 : Hid (Fr [] w w6) := Lib.hid (FWA.out.trans F6 (fun x hx => by
        obtain ⟨l1, l2, l3, l4, l5, l6, l7, l8⟩ := LT.out
        simp only [List.mem_cons, List.not_mem_nil, or_false, List.map_cons, List.map_nil, row1] at hx
        have hz := Z4.out
        have hz2 := FWA.out.size
        have : w.heap.size ≤ w4.heap.size := by omega
        omega))
      have hb0 := hlv.1
      have LVE := Lib.hid hlv.2
      clear R1 AF H6 R6 F6 FWA hlv LV
      generalize hlg : T.live = lv at *
      clear hlg
      by_cases c1 : (n : Int) - 2 < u
      · by_cases c2 : (0 : Int) < (n : Int) - 2
        · go_wp2
          go_ret
          refine ⟨?_, Fr.below ?_⟩
          · have hh : (lv == 1 + ((n : Int) - 2)) = true := by
              obtain ⟨t1, t2, t3⟩ := LVE.out
              simp only [beq_iff_eq]
              exact t1 c1
            exact congrArg (fun x => Ending.returned (Value.bool x)) hh
          · repeat (first | exact F7.out | apply Fr.alloc | apply Fr.drew)
        · go_wp2
          go_ret
          refine ⟨?_, Fr.below ?_⟩
          · have hh : (lv == 1) = true := by
              obtain ⟨t1, t2, t3⟩ := LVE.out
              simp only [beq_iff_eq]
              have := t1 c1; omega
            exact congrArg (fun x => Ending.returned (Value.bool x)) hh
          · repeat (first | exact F7.out | apply Fr.alloc | apply Fr.drew)
      · by_cases c2 : 0 < u
        · go_wp2
          go_ret
          refine ⟨?_, Fr.below ?_⟩
          · have hh : (lv == 1 + u) = true := by
              obtain ⟨t1, t2, t3⟩ := LVE.out
              simp only [beq_iff_eq]
              exact t2 (by omega) c2
            exact congrArg (fun x => Ending.returned (Value.bool x)) hh
          · repeat (first | exact F7.out | apply Fr.alloc | apply Fr.drew)
        · go_wp2
          go_ret
          refine ⟨?_, Fr.below ?_⟩
          · have hh : (lv == 1) = true := by
              obtain ⟨t1, t2, t3⟩ := LVE.out
              simp only [beq_iff_eq]
              exact t3 (by omega)
            exact congrArg (fun x => Ending.returned (Value.bool x)) hh
          · repeat (first | exact F7.out | apply Fr.alloc | apply Fr.drew)
theorem walk (n u : Int) (w : World) (w0 : (Lit.int .i64 n).wf = true) (w1 : (Lit.int .i64 u).wf = true) :
    Calls Try.prog 5 #[.int .i64 n, .int .i64 u] w fun e w' => e = .returned (.bool true) ∧ Below w.heap.size w w' := by
  have bn := bounds_i64 w0
  have bu := bounds_i64 w1
  by_cases h : n < 2 ∨ 200 < n ∨ u < -5 ∨ 300 < u
  · exact early n u w bn bu h
  · have := main n.toNat u w (by omega) (by omega) (by omega) (by omega)
    rwa [show ((n.toNat : Nat) : Int) = n from by omega] at this
theorem own : ownKnob Try.prog.godebug = none := by kernel_rfl
theorem laidOut : laidOutB Try.prog = true := by kernel_rfl
set_option maxRecDepth 100000 in
theorem lifted (os : Os) (started : os.Started) (H : Type) (enc : TypeId × Value → H) :
    ReturnsInHanded {} Try.checked os 5 .any (Rows.collectStacksSpec.pre6 enc Try.prog Try.f5 Rows.collectStacksRow.domain false) (Rows.collectStacksSpec.post enc Try.prog Try.f5 false true false false) := by
  refine returnsInHanded_of_change (C := Try.checked) own started (by kernel_rfl) Try.func5
    (ChangeSpec.witness6 (enc := enc) (C := Try.checked) false ⟨#[], #[.int .i64 0, .int .i64 0], []⟩ 8 (by kernel_rfl) (by kernel_rfl) (by kernel_rfl) (by kernel_rfl)) ?_
  intro W base args ds gs before hval0 hW hcnd _
  have hval : ∀ (j : Nat) t v, Try.f5.params[j]? = some t → args[j]? = some v → Value.okWide Try.prog W .any base t v := hval0
  have hW' := hW
  obtain ⟨p, q, hA0, hV, rfl, hfz, hnd⟩ := hW
  have hA : DataW.TrodAll enc Try.prog W 0 (fun _ => true) true Try.f5.params.toList args.toList ds p := hA0
  rw [Try.params5] at hA hval
  obtain ⟨v0, vs0, d0, ds0, p0, q0, hargs, rfl, rfl, h0, r0⟩ := trodAll_cons hA
  obtain ⟨v1, vs1, d1, ds1, p1, q1, rfl, rfl, rfl, h1, r1⟩ := trodAll_cons r0
  obtain ⟨rfl, rfl, rfl⟩ := trodAll_nil r1
  obtain rfl : args = #[v0, v1] := by cases args; simp_all
  obtain ⟨rfl, rfl⟩ := trodVars_none hV
  obtain ⟨a0, rfl, rfl, rfl, w0⟩ := open_int Try.underlying3 (hval 0 3 v0 rfl rfl) h0
  obtain ⟨a1, rfl, rfl, rfl, w1⟩ := open_int Try.underlying3 (hval 1 3 v1 rfl rfl) h1
  clear hA0 hval0
  refine (walk a0 a1 W w0 w1).mono fun e W' ⟨he, bel⟩ => ?_
  subst he
  exact ⟨_, rfl, _, _, _, [], _, [], hW', trodAll_mk1 (shut_bool Try.underlying4 _), (trodAll_cons_mk (shut_int Try.underlying3 w0) (trodAll_cons_mk (shut_int Try.underlying3 w1) trodAll_mk0)), rfl, bel.frame _, fun h => by cases h⟩
theorem over : Rows.collectStacksRow.holds Try.pinned (OpenSpec.ofChange Rows.collectStacksSpec) :=
  OpenClaim.holds_of_wide 5 Try.f5 rfl rfl rfl rfl rfl rfl rfl ⟨rfl, rfl, rfl, rfl, rfl⟩ rfl rfl rfl rfl rfl (by kernel_rfl) Try.func5 (by kernel_rfl)
    (of_decide_eq_true (by kernel_rfl)) (by unfold Func.isWrapper; first | (rw [if_pos (by decide +kernel)]; kernel_rfl) | (rw [if_neg (by decide +kernel)]; exact ⟨rfl, rfl⟩))
    (fun os started H enc _ => lifted os started H enc)
/-- THE STATEMENT -/
theorem proved : Rows.CollectStacksSaid := over
#print axioms proved
end Go.Proofs.Ytjgndfhfiekomaa.collectStacks
