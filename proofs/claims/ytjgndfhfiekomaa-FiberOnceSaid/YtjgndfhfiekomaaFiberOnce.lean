/- The law FiberOnce holds: the Go function returns true for every argument, and changes nothing that was there. No condition. -/
import Derived.Test.YtjgndfhfiekomaaFonC
import Derived.ProofKit
import Derived.ChangeOld
namespace Go.Proofs.Ytjgndfhfiekomaa.fiberOnce
open Go.ChangeShapes Go.WideShapes Go.ChangeAt Go.RowKit Go.Proofs.Ytjgndfhfiekomaa
set_option linter.unusedVariables false
set_option maxRecDepth 100000 in
set_option maxHeartbeats 4000000 in
theorem walk (a : Option Addr) (len cap : Nat) (zs : List Int) (pc : Int) (first : Bool) (w : World) (hN : IsWords w a len cap zs) (hwm : (Lit.int .i64 pc).wf = true) :
    Calls Try.prog 9 #[.slice a len cap, .int .i64 pc, .bool first] w fun e w' => e = .returned (.bool true) ∧ Below w.heap.size w w' := by
  have hlen := hN.1
  have hmax : len ≤ 9223372036854775807 := by have := hN.2.2; unfold maxLen at this; omega
  by_cases hbig : 100 < len
  · have hI : (100 : Int) < (len : Int) := by omega
    clear hN hlen
    go_enter Try.func9, Try.ntmps9
    go_wp2_with (go_at_call 43; refine (fiberAlive_c _).mono ?_; rintro e w' ⟨rfl, F1⟩)
    go_ret
    exact ⟨rfl, F1.below⟩
  have hI : ¬ (100 : Int) < (len : Int) := by omega
  have hln : len ≤ 100 := by omega
  have HN := Lib.hid hN
  have HL := Lib.hid hlen
  obtain ⟨f0, e1, e2, e3, e4, M1, hp1, O1, Fb1⟩ := (Hp.start (m := 60) (by omega) (by omega)).fiber w64_45 w64_45
  have P1 := Lib.hid hp1
  have B1 := Lib.hid Fb1
  have CN : Hid (∀ (wb w1 : World) (c : Sk), c.m = 60 → Sp w1 w1 c (Ar.new 60) → wb.heap.size ≤ w1.heap.size → Ge wb.heap.size c → Calls Try.prog 46 #[.pointer (some ⟨c.sb, 0, none⟩), .bool true] w1 (NewSt 60 true (fibF (Ar.new 60) 60 45 45).1 f0 w1 wb.heap.size)) := Lib.hid (fun wb w1 c hm h hB hG => by
    have := knew_c h true wb.heap.size hB hG f0 (by rw [hm]; exact e1) e4
    rw [hm] at this; exact this)
  clear hN hlen hbig hwm e1 e2 e3 e4 hp1 O1 Fb1
  go_enter Try.func9, Try.ntmps9
  go_wp2_with fail
  refine (fiberAlive_c _).mono ?_
  rintro e wa ⟨rfl, Fa⟩
  have Fa := Lib.hid Fa
  go_wp2
  go_loopw [35] (fun x wr => ∃ k : Nat, k ≤ len ∧ x = .int .i64 k ∧ Hid (∀ i : Nat, i < k → zs[i]?.getD 0 % 8 ≠ 1) ∧ Hid (Fr [] w wr)) (fun x _ => len - (intOf x).toNat)
  case atStart => exact ⟨0, by omega, rfl, Lib.hid (fun i hi => by omega), Fa⟩
  case round =>
    obtain ⟨k, hk, rfl, J, F⟩ := hrel
    clear Fa
    by_cases hlt : k < len
    · have hr := HN.out.2.2.2.2
      rcases hr with hr | ⟨ib, io, rfl, _, _⟩
      · omega
      have d0 := HN.out.cell F.out k hlt
      have hw := Lib.hid (HN.out.ww k)
      by_cases hpl : zs[k]?.getD 0 % 8 = 1
      · have hb : (zs[k]?.getD 0 % 8 != 1) = false := by simpa using hpl
        generalize zs[k]?.getD 0 = z at *
        clear J hpl
        go_wp2_with fail
        refine (plain_c z hw.out _).mono ?_
        rintro e w' ⟨rfl, rfl⟩
        rw [hb]
        go_wp2
        go_ret
        exact ⟨rfl, F.out.below⟩
      · have hb : (zs[k]?.getD 0 % 8 != 1) = true := by simpa using hpl
        have J2 : Hid (∀ i : Nat, i < k + 1 → zs[i]?.getD 0 % 8 ≠ 1) := Lib.hid (fun i hi => by
          rcases Nat.lt_or_ge i k with h | h
          · exact J.out i h
          · rw [show i = k by omega]; exact hpl)
        generalize zs[k]?.getD 0 = z at *
        clear J hpl
        go_wp2_with fail
        refine (plain_c z hw.out _).mono ?_
        rintro e w' ⟨rfl, rfl⟩
        rw [hb]
        go_wp2
        go_roundw
        case rel => exact ⟨k + 1, by omega, by go_num, J2, F⟩
        case measure => simp [intOf]; omega
    · have hkl : k = len := by omega
      subst hkl
      have CV := Lib.hid (vnew_c 60 60 (by decide) (by omega) (by omega) wr)
      clear hlt
      go_wp2_with fail
      refine CV.out.mono ?_
      rintro e w1 ⟨c1, rfl, hm1, hS1, hF1, hG1⟩
      have CN1 := Lib.hid (CN.out wr w1 c1 hm1 hS1 hF1.size hG1)
      have F1 := Lib.hid hF1
      clear CV CN hm1 hS1 hF1 hG1
      go_wp2_with fail
      refine CN1.out.mono ?_
      rintro e w2 ⟨c, rfl, hm, _, h2, hgs, hfr⟩
      have F2 : Hid (Fr [] w w2) := Lib.hid (hfr w F.out.size (F.out.same F1.out))
      have FOK : Hid (∀ (r : Nat) (M : Mem) (top : Int) (W : World), Sx w2 W c r M top → Fr [] w W) := Lib.hid (fun r M top W h => F2.out.trans h.fr (fun x hx => .inr (Nat.le_trans F.out.size (hgs.own x hx))))
      have K1 : Hid (Sx w2 w2 c 59 M1 f0) := Lib.hid ⟨_, _, h2, by rw [hm]; exact P1.out⟩
      clear CN1 F1 hm hgs hfr h2 F P1
      go_wp2_with fail
      refine (sx_push0 K1.out B1.out 8 (w64_small (by omega)) 0 1 (by omega)).mono ?_
      rintro e w3 ⟨rfl, M2, S0, cp0, K2, T2, nS0, O2⟩
      have K2 := Lib.hid K2
      have T2 := Lib.hid T2
      clear B1 K1 nS0 O2
      go_wp2_with fail
      refine (sx_enter0 K2.out true 16 (w64_small (by omega)) none none 0 0).mono ?_
      rintro e w4 ⟨rfl, M3, H, f1, K3, Fb3, Hd3, nF, nH, O3⟩
      have K3 := Lib.hid K3
      have L3 : Hid (Low M3 f0 S0 H cp0) := Lib.hid ⟨T2.out.off O3 (by simp) (by simp), Hd3⟩
      have hff : Hid (f0 ≠ f1) := Lib.hid (by
        obtain ⟨o, ho, _⟩ := T2.out.fib.obj
        exact ne_of_new nF ho)
      have Fb3 := Lib.hid Fb3
      clear K2 T2 Hd3 nF nH O3
      go_wp2_with fail
      refine (sx_push0 K3.out Fb3.out 24 (w64_small (by omega)) 0 k (by omega)).mono ?_
      rintro e w5 ⟨rfl, M4, S1, cp1, K4, T4, nS1, O4⟩
      have hss : Hid (S0 ≠ S1) := Lib.hid (by
        obtain ⟨o, ho, _⟩ := L3.out.t.seg.obj
        exact ne_of_new nS1 ho)
      have L4 : Hid (Low M4 f0 S0 H cp0) := Lib.hid (by
        obtain ⟨q1, q2, q3⟩ := L3.out.fo
        obtain ⟨o, ho, _, hk⟩ := Fb3.out.obj
        exact L3.out.off O4 (by simpa using hff.out) (by simpa using kinds_ne q2 ⟨o, ho, hk⟩ (by omega)) (by simpa using kinds_ne q3 ⟨o, ho, hk⟩ (by omega)))
      have K4 := Lib.hid K4
      have T4 := Lib.hid T4
      clear K3 L3 Fb3 nS1 O4
      go_wp2_with fail
      refine (sx_setpc K4.out T4.out (pc.tmod 1000) (by have := Int.lt_tmod_of_pos pc (show (0 : Int) < 1000 by omega); omega) (by have := Int.tmod_lt_of_pos pc (show (0 : Int) < 1000 by omega); omega)).mono ?_
      rintro e w6 ⟨rfl, M5, K5, T5, O5⟩
      obtain ⟨P, hP⟩ : ∃ P, P = pc.tmod 1000 := ⟨_, rfl⟩
      rw [← hP] at T5
      have HP := Lib.hid hP
      have HX : Hid (f0 ≠ S1 ∧ S0 ≠ S1 ∧ H ≠ S1) := Lib.hid (by
        obtain ⟨q1, q2, q3⟩ := L4.out.fo
        obtain ⟨o, ho, _, hk⟩ := T4.out.seg.obj
        exact ⟨kinds_ne q1 ⟨o, ho, hk⟩ (by omega), hss.out, kinds_ne q3 ⟨o, ho, hk⟩ (by omega)⟩)
      have L5 : Hid (Low M5 f0 S0 H cp0) := Lib.hid (L4.out.off O5 (by simpa using HX.out.1) (by simpa using HX.out.2.1) (by simpa using HX.out.2.2))
      have T5 : Hid (Top M5 f1 S1 45 f0 H (-1) cp1 [⟨24, P, [], zs.take 0, k⟩]) := Lib.hid T5
      have K5 := Lib.hid K5
      clear K4 T4 L4 O5 hP
      go_wp2
      go_loopw [74] (fun x wq => ∃ (i : Nat) (M : Mem), i ≤ k ∧ x = .int .i64 i ∧ Hid (Sx w2 wq c 55 M f1) ∧ Hid (Low M f0 S0 H cp0) ∧ Hid (Top M f1 S1 45 f0 H (-1) cp1 [⟨24, P, [], zs.take i, k⟩])) (fun x _ => k - (intOf x).toNat)
      case atStart => exact ⟨0, M5, by omega, rfl, K5, L5, T5⟩
      case round =>
        obtain ⟨i, M, hi, rfl, K, L, T⟩ := hrel
        clear K5 L5 T5
        by_cases hlt : i < k
        · have hr := HN.out.2.2.2.2
          rcases hr with hr | ⟨ib, io, rfl, _, _⟩
          · omega
          have d0 := HN.out.cell (FOK.out _ _ _ _ K.out) i hlt
          have hzi : Hid (zs.take (i + 1) = zs.take i ++ [zs[i]?.getD 0]) := Lib.hid (by
            rw [List.take_add_one, List.getElem?_eq_getElem (by rw [HL.out]; exact hlt)]; rfl)
          have hw := Lib.hid (HN.out.ww i)
          obtain ⟨z, hz⟩ : ∃ z, z = zs[i]?.getD 0 := ⟨_, rfl⟩
          rw [← hz] at d0 hzi hw
          clear hz
          have CT := Lib.hid (sx_put K.out T.out z hw.out (by simp only [List.length_take]; have := HL.out; omega))
          go_wp2_with fail
          refine CT.out.mono ?_
          rintro e w7 ⟨rfl, M7, K7, T7, O7⟩
          have L7 : Hid (Low M7 f0 S0 H cp0) := Lib.hid (L.out.off O7 (by simpa using HX.out.1) (by simpa using HX.out.2.1) (by simpa using HX.out.2.2))
          have T7 : Hid (Top M7 f1 S1 45 f0 H (-1) cp1 [⟨24, P, [], zs.take (i + 1), k⟩]) := Lib.hid (by rw [hzi.out]; exact T7)
          have K7 := Lib.hid K7
          clear CT K T L O7 d0 hzi hw
          go_wp2
          go_roundw
          case rel => exact ⟨i + 1, M7, by omega, by go_num, K7, L7, T7⟩
          case measure => simp [intOf]; omega
        · have T8 : Hid (Top M f1 S1 45 f0 H (-1) cp1 [⟨24, P, [], zs, k⟩]) := Lib.hid (by
            have := T.out
            rwa [List.take_of_length_le (by rw [HL.out]; omega)] at this)
          have hik : i = k := by omega
          subst hik
          clear T hlt
          go_wp2_with fail
          have htg : Hid (f0 % 8 = 1) := Lib.hid (by obtain ⟨o, ho, _⟩ := L.out.t.fib.obj; exact K.out.tag ho)
          refine (sx_cap0 K.out T8.out.fib htg.out L.out.h).mono ?_
          rintro e w6 ⟨rr, rfl, M6, K6, R6, Fb6, nR, O6⟩
          have KP6 : Hid (Kept M6 rr f1 S1 H cp1 ⟨24, P, [], zs, i⟩) := Lib.hid ⟨R6, Fb6, T8.out.seg.off O6 (by simpa using Ne.symm T8.out.ne), T8.out.ok⟩
          have L6 : Hid (Low M6 f0 S0 H cp0) := Lib.hid (by
            obtain ⟨q1, q2, q3⟩ := L.out.fo
            obtain ⟨o, ho, _, hk⟩ := T8.out.fib.obj
            exact L.out.off O6 (by simpa using hff.out) (by simpa using kinds_ne q2 ⟨o, ho, hk⟩ (by omega)) (by simpa using kinds_ne q3 ⟨o, ho, hk⟩ (by omega)))
          have K6 := Lib.hid K6
          clear K T8 L R6 Fb6 nR O6
          go_wp2_with fail
          refine (sx_clone1 K6.out KP6.out.r KP6.out.t (by omega)).mono ?_
          rintro e w7 ⟨out, rfl, M7, g, s', K7, R7, T7, n1, n2, n3, O7⟩
          have BO : Hid (Both M7 0 f0 S0 H cp0 ⟨24, P, [], zs, i⟩ (rr, f1, S1, cp1) (out, g, s', max cp1 1)) := Lib.hid (by
            obtain ⟨⟨a1, b1, _⟩, ⟨a2, b2, _⟩, _⟩ := L6.out.fo
            obtain ⟨⟨a4, b4, _⟩, ⟨a5, b5, _⟩, a6, b6, _⟩ := KP6.out.fo
            refine ⟨L6.out.off O7 (by simp) (by simp) (by simp), ?_, ?_, ne_of_new n1 b4, ?_, ?_⟩
            · rw [if_pos rfl]; exact KP6.out.off O7 (by simp) (by simp) (by simp)
            · rw [if_pos (by omega)]; exact ⟨R7, T7⟩
            · simp only [List.nodup_cons, List.mem_cons, List.not_mem_nil, or_false, not_or]
              exact ⟨⟨hff.out, ne_of_new n2 b1⟩, ne_of_new n2 b5, by simp⟩
            · simp only [List.nodup_cons, List.mem_cons, List.not_mem_nil, or_false, not_or]
              exact ⟨⟨HX.out.2.1, ne_of_new n3 b2⟩, ne_of_new n3 b6, by simp⟩)
          have hro : (rr == out) = false := by have := BO.out.a; simpa using this
          have K7 := Lib.hid K7
          clear K6 KP6 L6 R7 T7 n1 n2 n3 O7 hff hss HX
          obtain ⟨x1, X2, y1, Y2, BX, h1, h2⟩ : ∃ (x1 : Int) (X2 : Int × Int × Nat) (y1 : Int) (Y2 : Int × Int × Nat), Hid (Both M7 0 f0 S0 H cp0 ⟨24, P, [], zs, i⟩ (x1, X2) (y1, Y2)) ∧ (first = false → x1 = rr ∧ y1 = out) ∧ (first = true → x1 = out ∧ y1 = rr) := by
            cases first
            · exact ⟨rr, _, out, _, BO, fun _ => ⟨rfl, rfl⟩, (fun h => by cases h)⟩
            · exact ⟨out, _, rr, _, Lib.hid BO.out.swap, (fun h => by cases h), fun _ => ⟨rfl, rfl⟩⟩
          clear BO
          have RG : Hid (∀ M2, Both M2 2 f0 S0 H cp0 ⟨24, P, [], zs, i⟩ (x1, X2) (y1, Y2) → Res M2 rr 1 45 45) := Lib.hid (fun M2 h => by
            have hx := h.x
            rw [if_neg (by omega)] at hx
            have hy := h.y
            rw [if_neg (by omega)] at hy
            cases first
            · rw [← (h1 rfl).1]; exact hx
            · rw [← (h2 rfl).2]; exact hy)
          cases first
          case false =>
            obtain ⟨rfl, rfl⟩ := h1 rfl
            clear h1 h2
            go_wp2_with fail
            go_loopw [118] (fun x wq => ∃ (j : Nat) (M : Mem), j ≤ 2 ∧ x = .int .i64 j ∧ Hid (Sx w2 wq c 51 M f0) ∧ Hid (Both M j f0 S0 H cp0 ⟨24, P, [], zs, i⟩ (x1, X2) (y1, Y2))) (fun x _ => 2 - (intOf x).toNat)
            case atStart => exact ⟨0, M7, by omega, rfl, Lib.hid (K7.out.keep ((Fr.refl _ _).alloc _)), BX⟩
            case round =>
              obtain ⟨j, M, hj, rfl, K, B⟩ := hrel
              clear K7 BX hro
              by_cases hlt : j < 2
              · obtain ⟨R, G, T, cq, hR, KP, d1, d2, d3, d4, d5, d6, d7, d8, d9, d10, d11, d12, NX⟩ := B.out.next hlt
                have ix : ∀ w, (Instr.index 102 (.agg #[.int .u64 x1, .int .u64 y1]) (.int .i64 (j : Int))).run Try.prog w = .ok (.int .u64 R) w := fun w => by rw [← hR]; exact idx_two x1 y1 j hlt w
                have LW := Lib.hid B.out.low
                have KP := Lib.hid KP
                have NX := Lib.hid NX
                have HT : Hid (T ∉ [G, R]) := Lib.hid (by simp [d5, d6])
                have HR : Hid (R ∉ [T, G]) := Lib.hid (by simp [Ne.symm d3, Ne.symm d6])
                clear hR B d1 d2 d3 d4 d5 d6 d7 d8 d9 d10 d11 d12
                have C1 := Lib.hid (sx_resume1 K.out KP.out.r KP.out.t.fib LW.out.t.fib (by simp [lk, szL]))
                go_wp2_with fail
                refine C1.out.mono ?_
                rintro e wa ⟨rfl, Ma, Ka, Ra, Fa, Oa⟩
                have Ta : Hid (Top Ma G T 45 f0 H (-1) cq [⟨24, P, [], zs, i⟩]) := Lib.hid ⟨Fa, KP.out.t.seg.off Oa HT.out, KP.out.t.ok⟩
                have Oa : Hid (Off [T, G, R] M Ma) := Lib.hid (Oa.mono (fun x hx => List.mem_cons_of_mem _ hx))
                have Ra := Lib.hid Ra
                have Ka := Lib.hid Ka
                clear C1 K KP Fa HT ix
                go_wp2_with fail
                refine (sx_resume_gone Ka.out Ra.out).mono ?_
                rintro e wb ⟨rfl, Kb⟩
                have Kb := Lib.hid Kb
                clear Ka
                go_wp2_with fail
                refine (sx_closure Kb.out Ta.out).mono ?_
                rintro e wc ⟨rfl, Kc⟩
                have CC : Calls Try.prog 55 #[.pointer (some ⟨c.kb, 0, none⟩)] wc fun e w' => e = .returned (.int .i64 (pc.tmod 1000)) ∧ Sx w2 w' c 51 Ma G := by
                  have := sx_pc Kc Ta.out
                  rw [← HP.out]; exact this
                have CC := Lib.hid CC
                clear Kb Kc
                go_wp2_with fail
                refine CC.out.mono ?_
                rintro e wd ⟨rfl, Kd⟩
                have CW : Calls Try.prog 56 #[.pointer (some ⟨c.kb, 0, none⟩)] wd fun e w' => e = .returned (.int .i64 (i : Int)) ∧ Sx w2 w' c 51 Ma G := by
                  have := sx_words Kd Ta.out
                  simp only [HL.out] at this
                  exact this
                have CW := Lib.hid CW
                clear CC Kd
                go_wp2_with fail
                refine CW.out.mono ?_
                rintro e we ⟨rfl, Ke⟩
                have Ke := Lib.hid Ke
                have Te : Hid (Top Ma G T 45 f0 H (-1) cq [⟨24, P, [], zs.take i, i⟩]) := Lib.hid (by
                  rw [List.take_of_length_le (by rw [HL.out]; omega)]; exact Ta.out)
                clear CW Ta
                go_wp2_with fail
                go_loopw [22] (fun x wq => ∃ (n : Nat) (M2 : Mem), n ≤ i ∧ x = .int .i64 ((n : Int) - 1) ∧ Hid (Sx w2 wq c 51 M2 G) ∧ Hid (Top M2 G T 45 f0 H (-1) cq [⟨24, P, [], zs.take n, i⟩]) ∧ Hid (Res M2 R 1 45 45) ∧ Hid (Off [T, G, R] M M2)) (fun x _ => (intOf x + 1).toNat)
                case atStart => exact ⟨i, Ma, by omega, rfl, Ke, Te, Ra, Oa⟩
                case round =>
                  obtain ⟨n, M2, hn, hx, K2, T2, R2, O2⟩ := hrel
                  clear Ke Te Ra Oa
                  cases n with
                  | succ n =>
                    obtain rfl := hx.trans (show Value.int .i64 (((n + 1 : Nat) : Int) - 1) = .int .i64 (n : Int) by congr 1; omega)
                    have hr := HN.out.2.2.2.2
                    rcases hr with hr | ⟨ib, io, rfl, _, _⟩
                    · omega
                    have d0 := HN.out.cell (FOK.out _ _ _ _ K2.out) n (by omega)
                    have hzi : Hid (zs.take (n + 1) = zs.take n ++ [zs[n]?.getD 0]) := Lib.hid (by
                      rw [List.take_add_one, List.getElem?_eq_getElem (by rw [HL.out]; omega)]; rfl)
                    have CE := Lib.hid (fun (W : World) (h : Fr [] w W) => HN.out.cell h n (by omega))
                    obtain ⟨z, hz⟩ : ∃ z, z = zs[n]?.getD 0 := ⟨_, rfl⟩
                    rw [← hz] at d0 hzi CE
                    clear hz
                    have CT : Hid (∀ W, Fr [] wr W → Calls Try.prog 57 #[.pointer (some ⟨c.kb, 0, none⟩)] W fun e w' => e = .returned (.int .u64 z) ∧ ∃ M', Sx w2 w' c 51 M' G ∧ Top M' G T 45 f0 H (-1) cq [⟨24, P, [], zs.take n, i⟩] ∧ Off [T] M2 M') := Lib.hid (fun W hW => by
                      have t := T2.out
                      rw [hzi.out] at t
                      exact sx_take (f := ⟨24, P, [], zs.take n, i⟩) (K2.out.keep hW) t)
                    have hI0 : (0 : Int) ≤ (n : Int) := by omega
                    have hI1 : (n : Int) < (i : Int) := by omega
                    have hI0b : decide ((0 : Int) ≤ (n : Int)) = true := by simp
                    have hI1b : decide ((n : Int) < (i : Int)) = true := by simpa using hI1
                    go_wp2_with fail
                    go_region_held3 (fun W => W.cell? ⟨ib, io + n, none⟩ = some (.int .u64 z)) (first | assumption | go_keep) (first | (go_at_call 57; refine Calls.mono (CT.out _ ?_) ?_; (· (repeat (first | exact Fr.refl _ _ | apply Fr.drew | apply Fr.alloc))); rintro e wt ⟨rfl, M3, K3, T3, O3⟩; have yk := CE.out _ (FOK.out _ _ _ _ K3)))
                    have K3 := Lib.hid K3
                    have T3 := Lib.hid T3
                    have R3 : Hid (Res M3 R 1 45 45) := Lib.hid (R2.out.off O3 (fun hm => HR.out (by simp at hm ⊢; exact .inl hm)))
                    have O4 : Hid (Off [T, G, R] M M3) := Lib.hid (O2.out.trans (O3.mono (fun x hx => by simp at hx ⊢; exact .inl hx)))
                    clear K2 T2 R2 O2 O3 CT CE hzi
                    go_wp2
                    go_roundw
                    case rel => exact ⟨n, M3, by omega, by go_num, K3, T3, R3, O4⟩
                    case measure => simp [intOf] <;> omega
                  | zero =>
                    obtain rfl := hx.trans (show Value.int .i64 (((0 : Nat) : Int) - 1) = .int .i64 (-1) by rfl)
                    go_wp2_with fail
                    refine (sx_pop K2.out T2.out (.inr (by omega))).mono ?_
                    rintro e wp ⟨rfl, M3, K3, T3, O3⟩
                    have R3 := R2.out.off O3 HR.out
                    have O4 : Off [T, G, R] M M3 := O2.out.trans (O3.mono (fun x hx => by
                      simp only [List.mem_cons, List.not_mem_nil, or_false] at hx ⊢
                      rcases hx with h | h
                      · exact .inl h
                      · exact .inr (.inl h)))
                    have B3 := Lib.hid (NX.out M3 O4 R3)
                    have K3 := Lib.hid K3
                    have T3 := Lib.hid T3
                    clear K2 T2 R2 O2 O3 R3 O4 NX
                    go_wp2_with fail
                    refine (sx_leave K3.out T3.out.fib htg.out B3.out.low.h).mono ?_
                    rintro e wl ⟨rfl, Kl⟩
                    have CL : Calls Try.prog 54 #[.pointer (some ⟨c.kb, 0, none⟩)] wl fun e w' => e = .returned (.int .u64 8) ∧ Sx w2 w' c 51 M3 f0 := sx_closure Kl B3.out.low.t
                    have CL := Lib.hid CL
                    clear K3 T3 Kl
                    go_wp2_with fail
                    refine CL.out.mono ?_
                    rintro e wm ⟨rfl, Km⟩
                    have Km := Lib.hid Km
                    clear CL
                    go_wp2
                    go_roundw
                    case rel => exact ⟨j + 1, M3, by omega, by go_num, Km, B3⟩
                    case measure => simp [intOf]; omega
              · have hj2 : j = 2 := by omega
                subst hj2
                have KL := Lib.hid B.out.low
                have RR := Lib.hid (RG.out M B.out)
                clear B RG hlt
                go_wp2_with fail
                refine (sx_clone_gone K.out RR.out).mono ?_
                rintro e wy ⟨rfl, Ky⟩
                have Ky := Lib.hid Ky
                clear K
                go_wp2_with fail
                refine (sx_fibers1 Ky.out KL.out.t.fib (by omega)).mono ?_
                rintro e wz ⟨rfl, Kz⟩
                have FZ := Lib.hid (FOK.out _ _ _ _ Kz)
                clear Ky Kz KL RR
                go_wp2
                go_ret
                exact ⟨rfl, FZ.out.below⟩
          case true =>
            obtain ⟨rfl, rfl⟩ := h2 rfl
            clear h1 h2
            go_wp2_with fail
            go_loopw [118] (fun x wq => ∃ (j : Nat) (M : Mem), j ≤ 2 ∧ x = .int .i64 j ∧ Hid (Sx w2 wq c 51 M f0) ∧ Hid (Both M j f0 S0 H cp0 ⟨24, P, [], zs, i⟩ (x1, X2) (y1, Y2))) (fun x _ => 2 - (intOf x).toNat)
            case atStart => exact ⟨0, M7, by omega, rfl, Lib.hid (K7.out.keep ((Fr.refl _ _).alloc _)), BX⟩
            case round =>
              obtain ⟨j, M, hj, rfl, K, B⟩ := hrel
              clear K7 BX hro
              by_cases hlt : j < 2
              · obtain ⟨R, G, T, cq, hR, KP, d1, d2, d3, d4, d5, d6, d7, d8, d9, d10, d11, d12, NX⟩ := B.out.next hlt
                have ix : ∀ w, (Instr.index 102 (.agg #[.int .u64 x1, .int .u64 y1]) (.int .i64 (j : Int))).run Try.prog w = .ok (.int .u64 R) w := fun w => by rw [← hR]; exact idx_two x1 y1 j hlt w
                have LW := Lib.hid B.out.low
                have KP := Lib.hid KP
                have NX := Lib.hid NX
                have HT : Hid (T ∉ [G, R]) := Lib.hid (by simp [d5, d6])
                have HR : Hid (R ∉ [T, G]) := Lib.hid (by simp [Ne.symm d3, Ne.symm d6])
                clear hR B d1 d2 d3 d4 d5 d6 d7 d8 d9 d10 d11 d12
                have C1 := Lib.hid (sx_resume1 K.out KP.out.r KP.out.t.fib LW.out.t.fib (by simp [lk, szL]))
                go_wp2_with fail
                refine C1.out.mono ?_
                rintro e wa ⟨rfl, Ma, Ka, Ra, Fa, Oa⟩
                have Ta : Hid (Top Ma G T 45 f0 H (-1) cq [⟨24, P, [], zs, i⟩]) := Lib.hid ⟨Fa, KP.out.t.seg.off Oa HT.out, KP.out.t.ok⟩
                have Oa : Hid (Off [T, G, R] M Ma) := Lib.hid (Oa.mono (fun x hx => List.mem_cons_of_mem _ hx))
                have Ra := Lib.hid Ra
                have Ka := Lib.hid Ka
                clear C1 K KP Fa HT ix
                go_wp2_with fail
                refine (sx_resume_gone Ka.out Ra.out).mono ?_
                rintro e wb ⟨rfl, Kb⟩
                have Kb := Lib.hid Kb
                clear Ka
                go_wp2_with fail
                refine (sx_closure Kb.out Ta.out).mono ?_
                rintro e wc ⟨rfl, Kc⟩
                have CC : Calls Try.prog 55 #[.pointer (some ⟨c.kb, 0, none⟩)] wc fun e w' => e = .returned (.int .i64 (pc.tmod 1000)) ∧ Sx w2 w' c 51 Ma G := by
                  have := sx_pc Kc Ta.out
                  rw [← HP.out]; exact this
                have CC := Lib.hid CC
                clear Kb Kc
                go_wp2_with fail
                refine CC.out.mono ?_
                rintro e wd ⟨rfl, Kd⟩
                have CW : Calls Try.prog 56 #[.pointer (some ⟨c.kb, 0, none⟩)] wd fun e w' => e = .returned (.int .i64 (i : Int)) ∧ Sx w2 w' c 51 Ma G := by
                  have := sx_words Kd Ta.out
                  simp only [HL.out] at this
                  exact this
                have CW := Lib.hid CW
                clear CC Kd
                go_wp2_with fail
                refine CW.out.mono ?_
                rintro e we ⟨rfl, Ke⟩
                have Ke := Lib.hid Ke
                have Te : Hid (Top Ma G T 45 f0 H (-1) cq [⟨24, P, [], zs.take i, i⟩]) := Lib.hid (by
                  rw [List.take_of_length_le (by rw [HL.out]; omega)]; exact Ta.out)
                clear CW Ta
                go_wp2_with fail
                go_loopw [22] (fun x wq => ∃ (n : Nat) (M2 : Mem), n ≤ i ∧ x = .int .i64 ((n : Int) - 1) ∧ Hid (Sx w2 wq c 51 M2 G) ∧ Hid (Top M2 G T 45 f0 H (-1) cq [⟨24, P, [], zs.take n, i⟩]) ∧ Hid (Res M2 R 1 45 45) ∧ Hid (Off [T, G, R] M M2)) (fun x _ => (intOf x + 1).toNat)
                case atStart => exact ⟨i, Ma, by omega, rfl, Ke, Te, Ra, Oa⟩
                case round =>
                  obtain ⟨n, M2, hn, hx, K2, T2, R2, O2⟩ := hrel
                  clear Ke Te Ra Oa
                  cases n with
                  | succ n =>
                    obtain rfl := hx.trans (show Value.int .i64 (((n + 1 : Nat) : Int) - 1) = .int .i64 (n : Int) by congr 1; omega)
                    have hr := HN.out.2.2.2.2
                    rcases hr with hr | ⟨ib, io, rfl, _, _⟩
                    · omega
                    have d0 := HN.out.cell (FOK.out _ _ _ _ K2.out) n (by omega)
                    have hzi : Hid (zs.take (n + 1) = zs.take n ++ [zs[n]?.getD 0]) := Lib.hid (by
                      rw [List.take_add_one, List.getElem?_eq_getElem (by rw [HL.out]; omega)]; rfl)
                    have CE := Lib.hid (fun (W : World) (h : Fr [] w W) => HN.out.cell h n (by omega))
                    obtain ⟨z, hz⟩ : ∃ z, z = zs[n]?.getD 0 := ⟨_, rfl⟩
                    rw [← hz] at d0 hzi CE
                    clear hz
                    have CT : Hid (∀ W, Fr [] wr W → Calls Try.prog 57 #[.pointer (some ⟨c.kb, 0, none⟩)] W fun e w' => e = .returned (.int .u64 z) ∧ ∃ M', Sx w2 w' c 51 M' G ∧ Top M' G T 45 f0 H (-1) cq [⟨24, P, [], zs.take n, i⟩] ∧ Off [T] M2 M') := Lib.hid (fun W hW => by
                      have t := T2.out
                      rw [hzi.out] at t
                      exact sx_take (f := ⟨24, P, [], zs.take n, i⟩) (K2.out.keep hW) t)
                    have hI0 : (0 : Int) ≤ (n : Int) := by omega
                    have hI1 : (n : Int) < (i : Int) := by omega
                    have hI0b : decide ((0 : Int) ≤ (n : Int)) = true := by simp
                    have hI1b : decide ((n : Int) < (i : Int)) = true := by simpa using hI1
                    go_wp2_with fail
                    go_region_held3 (fun W => W.cell? ⟨ib, io + n, none⟩ = some (.int .u64 z)) (first | assumption | go_keep) (first | (go_at_call 57; refine Calls.mono (CT.out _ ?_) ?_; (· (repeat (first | exact Fr.refl _ _ | apply Fr.drew | apply Fr.alloc))); rintro e wt ⟨rfl, M3, K3, T3, O3⟩; have yk := CE.out _ (FOK.out _ _ _ _ K3)))
                    have K3 := Lib.hid K3
                    have T3 := Lib.hid T3
                    have R3 : Hid (Res M3 R 1 45 45) := Lib.hid (R2.out.off O3 (fun hm => HR.out (by simp at hm ⊢; exact .inl hm)))
                    have O4 : Hid (Off [T, G, R] M M3) := Lib.hid (O2.out.trans (O3.mono (fun x hx => by simp at hx ⊢; exact .inl hx)))
                    clear K2 T2 R2 O2 O3 CT CE hzi
                    go_wp2
                    go_roundw
                    case rel => exact ⟨n, M3, by omega, by go_num, K3, T3, R3, O4⟩
                    case measure => simp [intOf] <;> omega
                  | zero =>
                    obtain rfl := hx.trans (show Value.int .i64 (((0 : Nat) : Int) - 1) = .int .i64 (-1) by rfl)
                    go_wp2_with fail
                    refine (sx_pop K2.out T2.out (.inr (by omega))).mono ?_
                    rintro e wp ⟨rfl, M3, K3, T3, O3⟩
                    have R3 := R2.out.off O3 HR.out
                    have O4 : Off [T, G, R] M M3 := O2.out.trans (O3.mono (fun x hx => by
                      simp only [List.mem_cons, List.not_mem_nil, or_false] at hx ⊢
                      rcases hx with h | h
                      · exact .inl h
                      · exact .inr (.inl h)))
                    have B3 := Lib.hid (NX.out M3 O4 R3)
                    have K3 := Lib.hid K3
                    have T3 := Lib.hid T3
                    clear K2 T2 R2 O2 O3 R3 O4 NX
                    go_wp2_with fail
                    refine (sx_leave K3.out T3.out.fib htg.out B3.out.low.h).mono ?_
                    rintro e wl ⟨rfl, Kl⟩
                    have CL : Calls Try.prog 54 #[.pointer (some ⟨c.kb, 0, none⟩)] wl fun e w' => e = .returned (.int .u64 8) ∧ Sx w2 w' c 51 M3 f0 := sx_closure Kl B3.out.low.t
                    have CL := Lib.hid CL
                    clear K3 T3 Kl
                    go_wp2_with fail
                    refine CL.out.mono ?_
                    rintro e wm ⟨rfl, Km⟩
                    have Km := Lib.hid Km
                    clear CL
                    go_wp2
                    go_roundw
                    case rel => exact ⟨j + 1, M3, by omega, by go_num, Km, B3⟩
                    case measure => simp [intOf]; omega
              · have hj2 : j = 2 := by omega
                subst hj2
                have KL := Lib.hid B.out.low
                have RR := Lib.hid (RG.out M B.out)
                clear B RG hlt
                go_wp2_with fail
                refine (sx_clone_gone K.out RR.out).mono ?_
                rintro e wy ⟨rfl, Ky⟩
                have Ky := Lib.hid Ky
                clear K
                go_wp2_with fail
                refine (sx_fibers1 Ky.out KL.out.t.fib (by omega)).mono ?_
                rintro e wz ⟨rfl, Kz⟩
                have FZ := Lib.hid (FOK.out _ _ _ _ Kz)
                clear Ky Kz KL RR
                go_wp2
                go_ret
                exact ⟨rfl, FZ.out.below⟩
theorem own : ownKnob Try.prog.godebug = none := by kernel_rfl
theorem laidOut : laidOutB Try.prog = true := by kernel_rfl
set_option maxRecDepth 100000 in
theorem lifted (os : Os) (started : os.Started) (H : Type) (enc : TypeId × Value → H) :
    ReturnsInHanded {} Try.checked os 9 .any (Rows.fiberOnceSpec.pre6 enc Try.prog Try.f9 Rows.fiberOnceRow.domain false) (Rows.fiberOnceSpec.post enc Try.prog Try.f9 false true false false) := by
  refine returnsInHanded_of_change (C := Try.checked) own started (by kernel_rfl) Try.func9
    (ChangeSpec.witness6 (enc := enc) (C := Try.checked) false ⟨#[], #[.slice none 0 0, .int .i64 0, .bool false], []⟩ 8 (by kernel_rfl) (by kernel_rfl) (by kernel_rfl) (by kernel_rfl)) ?_
  intro W base args ds gs before hval0 hW hcnd _
  have hval : ∀ (j : Nat) t v, Try.f9.params[j]? = some t → args[j]? = some v → Value.okWide Try.prog W .any base t v := hval0
  have hW' := hW
  obtain ⟨p, q, hA0, hV, rfl, hfz, hnd⟩ := hW
  have hA : DataW.TrodAll enc Try.prog W 0 (fun _ => true) true Try.f9.params.toList args.toList ds p := hA0
  rw [Try.params9] at hA hval
  obtain ⟨v0, vs0, d0, ds0, p0, q0, hargs, rfl, rfl, h0, r0⟩ := trodAll_cons hA
  obtain ⟨v1, vs1, d1, ds1, p1, q1, rfl, rfl, rfl, h1, r1⟩ := trodAll_cons r0
  obtain ⟨v2, vs2, d2, ds2, p2, q2, rfl, rfl, rfl, h2, r2⟩ := trodAll_cons r1
  obtain ⟨rfl, rfl, rfl⟩ := trodAll_nil r2
  obtain rfl : args = #[v0, v1, v2] := by cases args; simp_all
  obtain ⟨rfl, rfl⟩ := trodVars_none hV
  obtain ⟨a0, len0, cap0, rfl⟩ := okWide_slice Try.underlying26 (hval 0 26 v0 rfl rfl)
  have k0 := h0
  have lt0 : ∀ x ∈ p0, x.block < W.heap.size := by obtain ⟨m, hm⟩ := k0; exact DataW.trod_lt m _ _ _ hm
  obtain ⟨z0, w0⟩ := open_words h0
  obtain ⟨a1, rfl, rfl, rfl, w1⟩ := open_int Try.underlying3 (hval 1 3 v1 rfl rfl) h1
  obtain ⟨a2, rfl, rfl, rfl⟩ := open_bool Try.underlying4 (hval 2 4 v2 rfl rfl) h2
  clear hA0 hval0
  refine (walk a0 len0 cap0 z0 a1 a2 W w0 w1).mono fun e W' ⟨he, bel⟩ => ?_
  subst he
  exact ⟨_, rfl, _, _, _, [], _, [], hW', trodAll_mk1 (shut_bool Try.underlying4 _), (trodAll_cons_mk (Below.trod laidOut (by kernel_rfl) (of_decide_eq_true (by kernel_rfl)) k0 bel lt0) (trodAll_cons_mk (shut_int Try.underlying3 w1) (trodAll_cons_mk (shut_bool Try.underlying4 a2) trodAll_mk0))), rfl, bel.frame _, fun h => by cases h⟩
theorem over : Rows.fiberOnceRow.holds Try.pinned (OpenSpec.ofChange Rows.fiberOnceSpec) :=
  OpenClaim.holds_of_wide 9 Try.f9 rfl rfl rfl rfl rfl rfl rfl ⟨rfl, rfl, rfl, rfl, rfl⟩ rfl rfl rfl rfl rfl (by kernel_rfl) Try.func9 (by kernel_rfl)
    (of_decide_eq_true (by kernel_rfl)) (by unfold Func.isWrapper; first | (rw [if_pos (by decide +kernel)]; kernel_rfl) | (rw [if_neg (by decide +kernel)]; exact ⟨rfl, rfl⟩))
    (fun os started H enc _ => lifted os started H enc)
/-- THE STATEMENT -/
theorem proved : Rows.FiberOnceSaid := over
#print axioms proved
end Go.Proofs.Ytjgndfhfiekomaa.fiberOnce
