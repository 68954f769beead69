/- The texts and numbers of numbers: a part of the walk. No condition. -/
import Derived.Test.YtcjkgnafpkkjmaaGreatDoorQk25
set_option linter.all false
namespace Go.Proofs.YtcjkgnafpkkjmaaGreatDoor
section
open Go.ChangeShapes Go.WideShapes Go.RowKit Go.Shelf
def Slow (l : List UInt8) : Prop := ∃ (P : World → Nat → Prop) (b : Nat) (ovf : Bool), b < 18446744073709551616 ∧
  (∀ (w : World) (k : Nat), blk w k = some (.cells Tryz.zeroCells174 174 (0, 0)) → Calls Tryz.prog 180 #[.pointer (some ⟨k, 0, none⟩), .string (ba l)] w fun e w' => e = .returned (.bool true) ∧ P w' k ∧ Fr [k] w w') ∧
  (∀ (w : World) (k : Nat), LdX w → P w k → Calls Tryz.prog 181 #[.pointer (some ⟨k, 0, none⟩), .pointer (some ⟨6, 0, none⟩)] w fun e w' => e = .returned (.tuple #[.int .u64 (b : Int), .bool ovf]) ∧ Fr [k] w w')
set_option maxRecDepth 100000 in
set_option maxHeartbeats 4000000 in
theorem atof64_c (l : List UInt8) (a m x y : Nat) (hS : Rdf.Shp (Rdf.bt l) l.length a m x y) (hl : l.length ≤ 800) (hSlow : Slow l) : ∃ (r : Nat) (er : Value), r < 18446744073709551616 ∧ RErr er ∧ ∀ w : World, LdX w → Calls Tryz.prog 134 #[.string (ba l)] w fun e w' => e = .returned (.tuple #[.float .f64 r, .int .i64 (l.length : Int), er]) ∧ Fr [] w w' := by
  obtain ⟨mt, p, neg, tr, hmt, hp1, hp2, CR⟩ := rdf_c l a m x y hS hl
  have CS := fun w => special_g l a m x y hS hl w
  obtain ⟨sg, hsg, hsge⟩ := wrap_some ((if neg then 1 else 0) * 9223372036854775808)
  have CB : ∀ w, Calls Tryz.prog 182 #[.bool neg] w fun e w' => e = .returned (.int .u64 (if neg then 1 else 0)) ∧ w = w' := fun w => by cases neg <;> first | exact bool2u_t w | exact bool2u_f w
  obtain ⟨sv, hsv⟩ : ∃ sv : Int, sv = if neg then 1 else 0 := ⟨_, rfl⟩
  rw [← hsv] at hsge
  have CB : ∀ w, Calls Tryz.prog 182 #[.bool neg] w fun e w' => e = .returned (.int .u64 sv) ∧ w = w' := fun w => by rw [hsv]; exact CB w
  have HX1 := fun (w : World) (h : LdX w) => h.opt
  have hsz := ba_size l
  by_cases h0 : mt = 0
  · obtain ⟨r, hr, hre⟩ := or_some (sg : Int) 0
    refine ⟨r, .nilIface, hr, .inl rfl, fun w HX => ?_⟩
    have hfr := isfrom_run r
    subst h0
    have ho := HX1 w HX
    have CB2 := Lib.hid CB
    have CS2 := Lib.hid (CS w)
    have CR2 := Lib.hid CR
    clear hmt hsg hr hsv
    go_enter Tryz.func134, Tryz.ntmps134
    go_wp2_with fail
    refine CS2.out.mono ?_
    rintro e w' ⟨rfl, rfl⟩
    go_wp2_with fail
    refine (CR2.out _).mono ?_
    rintro e w2 ⟨rfl, F2⟩
    have F2 := Lib.hid F2
    have ho2 := cell_keep F2.out ho
    have HX2 := Lib.hid (HX.fr F2.out)
    clear ho
    go_wp2_with fail
    refine (CB2.out _).mono ?_
    rintro e w' ⟨rfl, rfl⟩
    go_wp2_with fail
    go_ret3
    exact ⟨rfl, F2.out⟩
  · have g0 : ((mt : Int) == 0) = false := by rw [beq_eq_false_iff_ne]; omega
    by_cases h310 : 310 < p
    · obtain ⟨r, hr, hre⟩ := or_some (sg : Int) 9218868437227405312
      refine ⟨r, .iface 127 (.int .i64 1), hr, .inr rfl, fun w HX => ?_⟩
      have hfr := isfrom_run r
      have ho := HX1 w HX
      have CB2 := Lib.hid CB
      have CS2 := Lib.hid (CS w)
      have CR2 := Lib.hid CR
      clear hmt hsg hr h0 hsv
      go_enter Tryz.func134, Tryz.ntmps134
      go_wp2_with fail
      refine CS2.out.mono ?_
      rintro e w' ⟨rfl, rfl⟩
      go_wp2_with fail
      refine (CR2.out _).mono ?_
      rintro e w2 ⟨rfl, F2⟩
      have F2 := Lib.hid F2
      have ho2 := cell_keep F2.out ho
      have HX2 := Lib.hid (HX.fr F2.out)
      clear ho
      go_wp2_with fail
      refine (CB2.out _).mono ?_
      rintro e w' ⟨rfl, rfl⟩
      go_wp2_with fail
      go_ret3
      exact ⟨rfl, F2.out⟩
    · by_cases h345 : p < -345
      · obtain ⟨r, hr, hre⟩ := or_some (sg : Int) 0
        refine ⟨r, .nilIface, hr, .inl rfl, fun w HX => ?_⟩
        have hfr := isfrom_run r
        have ho := HX1 w HX
        have CB2 := Lib.hid CB
        have CS2 := Lib.hid (CS w)
        have CR2 := Lib.hid CR
        clear hmt hsg hr h0 hsv
        go_enter Tryz.func134, Tryz.ntmps134
        go_wp2_with fail
        refine CS2.out.mono ?_
        rintro e w' ⟨rfl, rfl⟩
        go_wp2_with fail
        refine (CR2.out _).mono ?_
        rintro e w2 ⟨rfl, F2⟩
        have F2 := Lib.hid F2
        have ho2 := cell_keep F2.out ho
        have HX2 := Lib.hid (HX.fr F2.out)
        clear ho
        go_wp2_with fail
        refine (CB2.out _).mono ?_
        rintro e w' ⟨rfl, rfl⟩
        go_wp2_with fail
        go_ret3
        exact ⟨rfl, F2.out⟩
      · obtain ⟨f, er, hf, her, CF⟩ := pf64_c mt p sg (by omega) (by omega) (by omega) (by omega)
        obtain ⟨f0, ok, hf0, CE⟩ := ex64_c mt p neg (by omega) (by omega) (by omega)
        cases tr
        · cases ok
          · refine ⟨f, er, hf, her, fun w HX => ?_⟩
            have CE2 := Lib.hid CE
            have CF2 := Lib.hid CF
            have ho := HX1 w HX
            have CB2 := Lib.hid CB
            have CS2 := Lib.hid (CS w)
            have CR2 := Lib.hid CR
            clear hmt hsg h0 hsv
            go_enter Tryz.func134, Tryz.ntmps134
            go_wp2_with fail
            refine CS2.out.mono ?_
            rintro e w' ⟨rfl, rfl⟩
            go_wp2_with fail
            refine (CR2.out _).mono ?_
            rintro e w2 ⟨rfl, F2⟩
            have F2 := Lib.hid F2
            have ho2 := cell_keep F2.out ho
            have HX2 := Lib.hid (HX.fr F2.out)
            clear ho
            go_wp2_with fail
            refine (CB2.out _).mono ?_
            rintro e w' ⟨rfl, rfl⟩
            go_wp2_with fail
            refine (CE2.out _ HX2.out).mono ?_
            rintro e w' ⟨rfl, rfl⟩
            go_wp2_with fail
            refine (CF2.out _ HX2.out.t).mono ?_
            rintro e w3 ⟨rfl, F3⟩
            have F3 := Lib.hid (F2.out.same F3)
            go_wp2_with fail
            go_ret3
            exact ⟨rfl, F3.out⟩
          · refine ⟨f0, .nilIface, hf0, .inl rfl, fun w HX => ?_⟩
            have CE2 := Lib.hid CE
            have ho := HX1 w HX
            have CB2 := Lib.hid CB
            have CS2 := Lib.hid (CS w)
            have CR2 := Lib.hid CR
            clear hmt hsg h0 hsv
            go_enter Tryz.func134, Tryz.ntmps134
            go_wp2_with fail
            refine CS2.out.mono ?_
            rintro e w' ⟨rfl, rfl⟩
            go_wp2_with fail
            refine (CR2.out _).mono ?_
            rintro e w2 ⟨rfl, F2⟩
            have F2 := Lib.hid F2
            have ho2 := cell_keep F2.out ho
            have HX2 := Lib.hid (HX.fr F2.out)
            clear ho
            go_wp2_with fail
            refine (CB2.out _).mono ?_
            rintro e w' ⟨rfl, rfl⟩
            go_wp2_with fail
            refine (CE2.out _ HX2.out).mono ?_
            rintro e w' ⟨rfl, rfl⟩
            go_wp2_with fail
            go_ret3
            exact ⟨rfl, F2.out⟩
        · obtain ⟨f1, er1, hf1, _, CF1⟩ := pf64_c (mt + 1) p sg (by omega) (by omega) (by omega) (by omega)
          have hm1 : IntKind.u64.wrap ((mt : Int) + 1) = ((mt + 1 : Nat) : Int) := by rw [IntKind.wrap_u64]; omega
          obtain ⟨m1, hm1e⟩ : ∃ m1, m1 = mt + 1 := ⟨_, rfl⟩
          rw [← hm1e] at hm1 CF1
          obtain ⟨eq, heq⟩ : ∃ eq : Bool, (FloatKind.f64.format.order f f1 == some .eq) = eq := ⟨_, rfl⟩
          cases eq
          · obtain ⟨PP, b, ovf, hb, CSet, CFl⟩ := hSlow
            refine ⟨b, if ovf then .iface 127 (.int .i64 1) else .nilIface, hb, by cases ovf <;> first | exact .inl rfl | exact .inr rfl, fun w HX => ?_⟩
            have CF2 := Lib.hid CF
            have CF3 := Lib.hid CF1
            have hfr := isfrom_run b
            have ho := HX1 w HX
            have CB2 := Lib.hid CB
            have CS2 := Lib.hid (CS w)
            have CR2 := Lib.hid CR
            clear hmt hsg h0 hsv hm1e
            go_enter Tryz.func134, Tryz.ntmps134
            go_wp2_with fail
            refine CS2.out.mono ?_
            rintro e w' ⟨rfl, rfl⟩
            go_wp2_with fail
            refine (CR2.out _).mono ?_
            rintro e w2 ⟨rfl, F2⟩
            have F2 := Lib.hid F2
            have ho2 := cell_keep F2.out ho
            have HX2 := Lib.hid (HX.fr F2.out)
            clear ho
            go_wp2_with fail
            refine (CB2.out _).mono ?_
            rintro e w' ⟨rfl, rfl⟩
            go_wp2_with fail
            refine (CF2.out _ HX2.out.t).mono ?_
            rintro e w3 ⟨rfl, F3⟩
            have HX3 := Lib.hid (HX2.out.fr F3)
            have F3 := Lib.hid (F2.out.same F3)
            go_wp2_with fail
            refine (CF3.out _ HX3.out.t).mono ?_
            rintro e w4 ⟨rfl, F4⟩
            have HX4 := Lib.hid (HX3.out.fr F4)
            have F4 := Lib.hid (F3.out.same F4)
            obtain ⟨W5, hW5⟩ : ∃ W5, W5 = w4.alloc (.cells Tryz.zeroCells174 174) := ⟨_, rfl⟩
            obtain ⟨k, hk⟩ : ∃ k, k = w4.heap.size := ⟨_, rfl⟩
            have F5 : Hid (Fr [] w W5) := Lib.hid (by rw [hW5]; exact F4.out.alloc _)
            have HX5 : Hid (LdX W5) := Lib.hid (HX4.out.fr (by rw [hW5]; exact (Fr.refl _ _).alloc _))
            have HB : Hid (blk W5 k = some (.cells Tryz.zeroCells174 174 (0, 0))) := Lib.hid (by rw [hW5, hk, blk_alloc, if_pos rfl])
            have HK : Hid (w.heap.size ≤ k) := Lib.hid (by rw [hk]; exact F4.out.size)
            have XE : (ba l).extract 0 l.length = ba l := by have := ba_left l []; rw [List.append_nil] at this; exact this
            have CST := Lib.hid (CSet W5 k HB.out)
            have HG : Hid (6 < W5.heap.size) := Lib.hid (addr_none HX5.out.info.1).2
            have HGW : Hid (6 < w.heap.size) := Lib.hid (addr_none HX.info.1).2
            go_upto_region 29 with fail
            rw [← hW5, ← hk]
            clear hW5 hk
            go_wp2_with fail
            refine CST.out.mono ?_
            rintro e w6 ⟨rfl, P6, F6⟩
            have HX6 : Hid (LdX w6) := Lib.hid (by
              have hw : ∀ b : Nat, b < w.heap.size → b ∉ [k] := fun b hb hm => by
                have := List.mem_singleton.1 hm
                have := HK.out
                omega
              exact HX.fr (F5.out.trans F6 (fun y hy => .inr (by rw [List.mem_singleton.1 hy]; exact HK.out))))
            have F6 := Lib.hid (F5.out.trans F6 (fun y hy => .inr (by rw [List.mem_singleton.1 hy]; exact HK.out)))
            have CFF := Lib.hid (CFl w6 k HX6.out P6)
            clear P6
            go_wp2_with fail
            refine CFF.out.mono ?_
            rintro e w7 ⟨rfl, F7⟩
            have F7 := Lib.hid (F6.out.trans F7 (fun y hy => .inr (by rw [List.mem_singleton.1 hy]; exact HK.out)))
            cases ovf
            · go_wp2_with fail
              go_ret3
              exact ⟨rfl, F7.out⟩
            · go_wp2_with fail
              go_ret3
              exact ⟨rfl, F7.out⟩
          · refine ⟨f, er, hf, her, fun w HX => ?_⟩
            have CF2 := Lib.hid CF
            have CF3 := Lib.hid CF1
            have ho := HX1 w HX
            have CB2 := Lib.hid CB
            have CS2 := Lib.hid (CS w)
            have CR2 := Lib.hid CR
            clear hmt hsg h0 hsv hm1e
            go_enter Tryz.func134, Tryz.ntmps134
            go_wp2_with fail
            refine CS2.out.mono ?_
            rintro e w' ⟨rfl, rfl⟩
            go_wp2_with fail
            refine (CR2.out _).mono ?_
            rintro e w2 ⟨rfl, F2⟩
            have F2 := Lib.hid F2
            have ho2 := cell_keep F2.out ho
            have HX2 := Lib.hid (HX.fr F2.out)
            clear ho
            go_wp2_with fail
            refine (CB2.out _).mono ?_
            rintro e w' ⟨rfl, rfl⟩
            go_wp2_with fail
            refine (CF2.out _ HX2.out.t).mono ?_
            rintro e w3 ⟨rfl, F3⟩
            have HX3 := Lib.hid (HX2.out.fr F3)
            have F3 := Lib.hid (F2.out.same F3)
            go_wp2_with fail
            refine (CF3.out _ HX3.out.t).mono ?_
            rintro e w4 ⟨rfl, F4⟩
            have F4 := Lib.hid (F3.out.same F4)
            go_wp2_with fail
            go_ret3
            exact ⟨rfl, F4.out⟩
theorem digs_at (l : List UInt8) : ∀ i, i < Rgt.digs l → Rgt.isD (l[i]?.getD 0) = true := by
  intro i hi
  have hle := Rgt.digs_le l
  refine Rgt.digs_take l _ ?_
  rw [List.getElem?_eq_getElem (by omega)]
  exact List.mem_take_iff_getElem.2 ⟨i, by omega, rfl⟩
theorem digs_end (l : List UInt8) (h : Rgt.digs l < l.length) : Rgt.isD (l[Rgt.digs l]?.getD 0) = false := by
  rcases Rgt.digs_drop l with hd | ⟨c, r, hd, hc⟩
  · have := congrArg List.length hd
    simp at this; omega
  · have : l[Rgt.digs l]? = some c := by
      have h2 := congrArg (·[0]?) hd
      simpa using h2
    rw [this]; exact hc
set_option maxRecDepth 100000 in
theorem digits_g (l : List UInt8) (hl : l.length ≤ 1000) (w : World) : Calls Tryz.prog 61 #[.string (ba l)] w fun e w' => e = .returned (.int .i64 (Rgt.digs l : Int)) ∧ w = w' := by
  have hsz := ba_size l
  have DA := Lib.hid (digs_at l)
  have DE := Lib.hid (digs_end l)
  have DL := Rgt.digs_le l
  obtain ⟨n, hn⟩ : ∃ n, n = Rgt.digs l := ⟨_, rfl⟩
  rw [← hn] at DA DE DL ⊢
  clear hn
  go_enter Tryz.func61, Tryz.ntmps61
  go_wp2_with fail
  go_loopw [3] (fun s3 wr => ∃ i : Nat, i ≤ n ∧ s3 = .int .i64 (i : Int) ∧ w = wr) (fun a _ => n - (RowKit.intOf a).toNat)
  case atStart => exact ⟨0, Nat.zero_le _, rfl, rfl⟩
  case round =>
    obtain ⟨i, hi, rfl, rfl⟩ := hrel
    by_cases hlt : i < n
    · have hil : i < l.length := by omega
      have SI : ∀ W : World, (Instr.index 9 (.string (ba l)) (.int .i64 (i : Int))).run Tryz.prog W = .ok (.int .u8 ((l[i]?.getD 0).toNat : Int)) W := fun W => run_str_at l i hil W
      have HD := DA.out i hlt
      generalize l[i]?.getD 0 = c at SI HD
      unfold Rgt.isD at HD
      simp only [Bool.and_eq_true, decide_eq_true_eq] at HD
      generalize c.toNat = cn at SI HD
      have g1 : (48 : Int) ≤ (cn : Int) := by omega
      have g2 : (cn : Int) ≤ 57 := by omega
      clear HD
      go_wp2_with fail
      go_roundw
      case rel => exact ⟨i + 1, by omega, by go_num, trivial⟩
      case measure => simp [RowKit.intOf]; omega
    · have hin : i = n := by omega
      subst hin
      clear hi hlt
      by_cases hil : i < l.length
      · have SI : ∀ W : World, (Instr.index 9 (.string (ba l)) (.int .i64 (i : Int))).run Tryz.prog W = .ok (.int .u8 ((l[i]?.getD 0).toNat : Int)) W := fun W => run_str_at l i hil W
        have HD := DE.out hil
        generalize l[i]?.getD 0 = c at SI HD
        unfold Rgt.isD at HD
        generalize c.toNat = cn at SI HD
        by_cases g : 48 ≤ cn
        · have g1 : (48 : Int) ≤ (cn : Int) := by omega
          have g2 : ¬ (cn : Int) ≤ 57 := by
            rw [decide_eq_true g, Bool.true_and] at HD
            have := of_decide_eq_false HD
            omega
          clear HD
          go_wp2_with fail
          go_ret
          exact ⟨rfl, rfl⟩
        · have g1 : ¬ (48 : Int) ≤ (cn : Int) := by omega
          clear HD
          go_wp2_with fail
          go_ret
          exact ⟨rfl, rfl⟩
      · have hil2 : i = l.length := by omega
        go_wp2_with fail
        go_ret
        exact ⟨rfl, rfl⟩
theorem unsigned_g (l : List UInt8) (hl : l.length ≤ 1000) (w : World) : Calls Tryz.prog 60 #[.string (ba l)] w fun e w' => e = .returned (.string (ba (Rgt.unsg l))) ∧ w = w' := by
  cases l with
  | nil =>
    have hsz : (ba []).size = 0 := rfl
    show Calls _ _ _ w fun e w' => e = .returned (.string (ba [])) ∧ w = w'
    generalize ba [] = s at *
    go_enter Tryz.func60, Tryz.ntmps60
    go_wp2
    go_ret
    exact ⟨rfl, rfl⟩
  | cons c r =>
    have hsz : (ba (c :: r)).size = r.length + 1 := by rw [ba_size]; simp
    have hr : r.length ≤ 1000 := by simp at hl; omega
    have SI : ∀ W : World, (Instr.index 9 (.string (ba (c :: r))) (.int .i64 0)).run Tryz.prog W = .ok (.int .u8 (c.toNat : Int)) W := fun W => run_str_at (c :: r) 0 (by simp) W
    have XT := ba_tail c r
    by_cases h : c.toNat = 43 ∨ c.toNat = 45
    · rw [show Rgt.unsg (c :: r) = r by rw [Rgt.unsg, if_pos h]]
      generalize ba (c :: r) = s at *
      generalize c.toNat = cn at *
      rcases h with h | h
      · subst h
        go_enter Tryz.func60, Tryz.ntmps60
        go_wp2
        go_ret
        exact ⟨rfl, rfl⟩
      · subst h
        go_enter Tryz.func60, Tryz.ntmps60
        go_wp2
        go_ret
        exact ⟨rfl, rfl⟩
    · rw [show Rgt.unsg (c :: r) = c :: r by rw [Rgt.unsg, if_neg h]]
      generalize ba (c :: r) = s at *
      generalize c.toNat = cn at *
      have g1 : ((cn : Int) == 43) = false := by rw [beq_eq_false_iff_ne]; omega
      have g2 : ((cn : Int) == 45) = false := by rw [beq_eq_false_iff_ne]; omega
      clear h
      go_enter Tryz.func60, Tryz.ntmps60
      go_wp2
      go_ret
      exact ⟨rfl, rfl⟩
theorem form_g (c : UInt8) (w : World) : Calls Tryz.prog 64 #[.int .u8 (c.toNat : Int)] w fun e w' => e = .returned (.int .u8 (Rgt.formN c : Int)) ∧ w = w' := by
  have key : ∀ (n m : Nat), m = (if (decide (48 ≤ n) && decide (n ≤ 57)) = true then 100 else if n = 43 ∨ n = 45 then 115 else if n = 46 then 112 else if n = 69 ∨ n = 101 then 101 else 120) → Calls Tryz.prog 64 #[.int .u8 (n : Int)] w fun e w' => e = .returned (.int .u8 (m : Int)) ∧ w = w' := by
    intro n m hm
    by_cases h1 : 48 ≤ n
    · have g1 : (48 : Int) ≤ (n : Int) := by omega
      by_cases h2 : n ≤ 57
      · have g2 : (n : Int) ≤ 57 := by omega
        rw [if_pos (by simp [h1, h2])] at hm
        subst hm
        go_enter Tryz.func64, Tryz.ntmps64
        go_wp2
        go_ret
        exact ⟨rfl, rfl⟩
      · have g2 : ¬ (n : Int) ≤ 57 := by omega
        rw [if_neg (by simp [h2]), if_neg (by omega), if_neg (by omega)] at hm
        have g3 : ((n : Int) == 43) = false := by rw [beq_eq_false_iff_ne]; omega
        have g4 : ((n : Int) == 45) = false := by rw [beq_eq_false_iff_ne]; omega
        have g5 : ((n : Int) == 46) = false := by rw [beq_eq_false_iff_ne]; omega
        by_cases h3 : n = 69
        · subst h3
          subst hm
          go_enter Tryz.func64, Tryz.ntmps64
          go_wp2
          go_ret
          exact ⟨rfl, rfl⟩
        · have g6 : ((n : Int) == 69) = false := by rw [beq_eq_false_iff_ne]; omega
          by_cases h4 : n = 101
          · subst h4
            subst hm
            go_enter Tryz.func64, Tryz.ntmps64
            go_wp2
            go_ret
            exact ⟨rfl, rfl⟩
          · have g7 : ((n : Int) == 101) = false := by rw [beq_eq_false_iff_ne]; omega
            rw [if_neg (by omega)] at hm
            subst hm
            go_enter Tryz.func64, Tryz.ntmps64
            go_wp2
            go_ret
            exact ⟨rfl, rfl⟩
    · have g1 : ¬ (48 : Int) ≤ (n : Int) := by omega
      rw [if_neg (by simp [h1])] at hm
      by_cases h2 : n = 43
      · subst h2
        subst hm
        go_enter Tryz.func64, Tryz.ntmps64
        go_wp2
        go_ret
        exact ⟨rfl, rfl⟩
      · have g2 : ((n : Int) == 43) = false := by rw [beq_eq_false_iff_ne]; omega
        by_cases h3 : n = 45
        · subst h3
          subst hm
          go_enter Tryz.func64, Tryz.ntmps64
          go_wp2
          go_ret
          exact ⟨rfl, rfl⟩
        · have g3 : ((n : Int) == 45) = false := by rw [beq_eq_false_iff_ne]; omega
          rw [if_neg (by omega)] at hm
          by_cases h4 : n = 46
          · subst h4
            subst hm
            go_enter Tryz.func64, Tryz.ntmps64
            go_wp2
            go_ret
            exact ⟨rfl, rfl⟩
          · have g4 : ((n : Int) == 46) = false := by rw [beq_eq_false_iff_ne]; omega
            have g5 : ((n : Int) == 69) = false := by rw [beq_eq_false_iff_ne]; omega
            have g6 : ((n : Int) == 101) = false := by rw [beq_eq_false_iff_ne]; omega
            rw [if_neg h4, if_neg (by omega)] at hm
            subst hm
            go_enter Tryz.func64, Tryz.ntmps64
            go_wp2
            go_ret
            exact ⟨rfl, rfl⟩
  exact key c.toNat (Rgt.formN c) rfl
theorem ba_drop (l : List UInt8) (n : Nat) : (ba l).extract n l.length = ba (l.drop n) := by
  apply ByteArray.ext; simp [ba]
  rw [List.take_of_length_le (by simp)]
def expT (u : List UInt8) : Bool := decide (1 ≤ Rgt.digs (Rgt.unsg u)) && decide (Rgt.digs (Rgt.unsg u) ≤ 4) && decide (Rgt.digs (Rgt.unsg u) = (Rgt.unsg u).length)
theorem expR_cons (e : UInt8) (u : List UInt8) : Rgt.expR (e :: u) = if e.toNat = 101 ∨ e.toNat = 69 then expT u else false := rfl
theorem unsg_len (l : List UInt8) : (Rgt.unsg l).length ≤ l.length := by
  cases l with
  | nil => exact Nat.le_refl _
  | cons c r =>
    by_cases h : c.toNat = 43 ∨ c.toNat = 45
    · rw [Rgt.unsg, if_pos h]; simp
    · rw [Rgt.unsg, if_neg h]; exact Nat.le_refl _
set_option maxRecDepth 100000 in
set_option maxHeartbeats 2000000 in
theorem flright_g (l : List UInt8) (hl : l.length ≤ 800) (w : World) : Calls Tryz.prog 23 #[.string (ba l)] w fun e w' => e = .returned (.bool (Rgt.floRight l)) ∧ Fr [] w w' := by
  have CU := Lib.hid (fun w1 => unsigned_g l (by omega) w1)
  have FR := Rgt.floRight_front l
  have UL := unsg_len l
  obtain ⟨a, ha⟩ : ∃ a, a = Rgt.unsg l := ⟨_, rfl⟩
  rw [← ha] at CU FR UL
  have CD := Lib.hid (fun w1 => digits_g a (by omega) w1)
  have DL := Rgt.digs_le a
  have X1 := ba_drop a (Rgt.digs a)
  have hsz := ba_size a
  obtain ⟨n, hn⟩ : ∃ n, n = Rgt.digs a := ⟨_, rfl⟩
  rw [← hn] at CD DL X1 FR
  have TL : (a.drop n).length = a.length - n := List.length_drop ..
  obtain ⟨t, ht⟩ : ∃ t, t = a.drop n := ⟨_, rfl⟩
  rw [← ht] at X1 FR TL
  have hA : a.length ≤ 800 := by omega
  generalize ba a = A at *
  generalize a.length = al at *
  generalize Rgt.floRight l = R at *
  generalize ba l = S at *
  clear ha hn ht UL hl
  have F1 : Hid (Fr [] w w.drew) := Lib.hid (Fr.refl _ _).drew
  cases t with
  | nil =>
    have FI : Hid (R = false) := Lib.hid FR
    have sT : (ba []).size = 0 := rfl
    generalize ba [] = T at *
    clear FR TL
    go_enter Tryz.func23, Tryz.ntmps23
    go_wp2_with fail
    refine (CU.out _).mono ?_
    rintro e' w' ⟨rfl, rfl⟩
    go_wp2_with fail
    refine (CD.out _).mono ?_
    rintro e' w' ⟨rfl, rfl⟩
    go_wp2_with fail
    go_region
    all_goals
      by_cases n0 : n = 0
      · subst n0
        go_wp2_with fail
        go_ret
        rw [FI.out]
        exact ⟨rfl, F1.out⟩
      · have g0 : ((n : Int) == 0) = false := by rw [beq_eq_false_iff_ne]; omega
        clear n0
        go_wp2_with fail
        go_ret
        rw [FI.out]
        exact ⟨rfl, F1.out⟩
  | cons c r =>
    rw [Rgt.frontR_cons] at FR
    have sT : (ba (c :: r)).size = r.length + 1 := by rw [ba_size]; simp
    have rb8 : r.length ≤ 800 := by simp at TL; omega
    have IC : ∀ W : World, (Instr.index 9 (.string (ba (c :: r))) (.int .i64 0)).run Tryz.prog W = .ok (.int .u8 (c.toNat : Int)) W := fun W => run_str_at (c :: r) 0 (by simp) W
    have XR := ba_tail c r
    by_cases hc : c.toNat = 46
    · rw [if_pos hc] at FR
      rw [hc] at IC
      have CD3 := Lib.hid (fun w1 => digits_g r (by omega) w1)
      have DL3 := Rgt.digs_le r
      have X3 : (ba (c :: r)).extract (Rgt.digs r + 1) (r.length + 1) = ba (r.drop (Rgt.digs r)) := by
        have := ba_drop (c :: r) (Rgt.digs r + 1)
        rw [List.drop_succ_cons, List.length_cons] at this
        exact this
      have TL3 : (r.drop (Rgt.digs r)).length = r.length - Rgt.digs r := List.length_drop ..
      obtain ⟨k, hk⟩ : ∃ k, k = Rgt.digs r := ⟨_, rfl⟩
      rw [← hk] at CD3 DL3 X3 FR TL3
      obtain ⟨t2, ht2⟩ : ∃ t2, t2 = r.drop k := ⟨_, rfl⟩
      rw [← ht2] at X3 FR TL3
      generalize ba (c :: r) = T at *
      generalize hRR : ba r = RR at *
      have hRs : RR.size = r.length := by rw [← hRR]; rfl
      generalize r.length = rl at *
      clear hk ht2 TL hc hRR
      go_enter Tryz.func23, Tryz.ntmps23
      go_wp2_with fail
      refine (CU.out _).mono ?_
      rintro e' w' ⟨rfl, rfl⟩
      go_wp2_with fail
      refine (CD.out _).mono ?_
      rintro e' w' ⟨rfl, rfl⟩
      go_wp2_with fail
      go_region
      all_goals
       go_wp2_with fail
       refine (CD3.out _).mono ?_
       rintro e' w' ⟨rfl, rfl⟩
       by_cases nk : n + k = 0
       · rw [if_pos nk] at FR
         have FI := Lib.hid FR
         obtain rfl : n = 0 := by omega
         obtain rfl : k = 0 := by omega
         clear FR
         go_wp2_with fail
         go_ret
         rw [FI.out]
         exact ⟨rfl, F1.out⟩
       · rw [if_neg nk] at FR
         have g0 : ((n : Int) + (k : Int) == 0) = false := by rw [beq_eq_false_iff_ne]; omega
         cases t2 with
         | nil =>
           have FI : Hid (R = true) := Lib.hid FR
           have sT2 : (ba []).size = 0 := rfl
           generalize ba [] = T2 at *
           clear FR nk
           go_wp2_with fail
           go_ret
           rw [FI.out]
           exact ⟨rfl, F1.out⟩
         | cons e u =>
           have FIN : R = Rgt.expR (e :: u) := FR
           have sT2 : (ba (e :: u)).size = u.length + 1 := by rw [ba_size]; simp
           have ub : u.length ≤ 800 := by simp at TL3; omega
           have IE : ∀ W : World, (Instr.index 9 (.string (ba (e :: u))) (.int .i64 0)).run Tryz.prog W = .ok (.int .u8 (e.toNat : Int)) W := fun W => run_str_at (e :: u) 0 (by simp) W
           have XU := ba_tail e u
           clear FR nk TL3
           generalize ba (e :: u) = T2 at *
           have CU2 := Lib.hid (fun w1 => unsigned_g u (by omega) w1)
           have CD2 := Lib.hid (fun w1 => digits_g (Rgt.unsg u) (by have := unsg_len u; omega) w1)
           have hv : (ba (Rgt.unsg u)).size = (Rgt.unsg u).length := rfl
           obtain ⟨VL, hVL⟩ : ∃ VL, VL = (Rgt.unsg u).length := ⟨_, rfl⟩
           have VLb : VL ≤ 1000 := by have := unsg_len u; omega
           obtain ⟨m, hm⟩ : ∃ m, m = Rgt.digs (Rgt.unsg u) := ⟨_, rfl⟩
           have ET : Hid (expT u = (decide (1 ≤ m) && decide (m ≤ 4) && decide (m = VL))) := Lib.hid (by unfold expT; rw [hm, hVL])
           rw [← hm] at CD2
           rw [← hVL] at hv
           generalize ba (Rgt.unsg u) = V at *
           generalize ba u = U at *
           obtain ⟨cn, hcn⟩ : ∃ cn, cn = e.toNat := ⟨_, rfl⟩
           rw [← hcn] at IE
           rw [expR_cons, ← hcn] at FIN
           clear hm hVL hcn
           by_cases h101 : cn = 101
           · rw [if_pos (.inl h101), ET.out] at FIN
             have FI := Lib.hid FIN
             subst h101
             clear FIN
             go_wp2_with fail
             refine (CU2.out _).mono ?_
             rintro e' w' ⟨rfl, rfl⟩
             go_wp2_with fail
             refine (CD2.out _).mono ?_
             rintro e' w' ⟨rfl, rfl⟩
             by_cases k1 : 1 ≤ m
             · by_cases k2 : m ≤ 4
               · by_cases k3 : m = VL
                 · have g3 : ((m : Int) == (VL : Int)) = true := by rw [k3]; simp
                   rw [decide_eq_true k1, decide_eq_true k2, decide_eq_true k3] at FI
                   clear k3
                   go_wp2_with fail
                   go_ret
                   rw [FI.out]
                   exact ⟨rfl, F1.out⟩
                 · have g3 : ((m : Int) == (VL : Int)) = false := by rw [beq_eq_false_iff_ne]; omega
                   rw [decide_eq_true k1, decide_eq_true k2, decide_eq_false k3] at FI
                   clear k3
                   go_wp2_with fail
                   go_ret
                   rw [FI.out]
                   exact ⟨rfl, F1.out⟩
               · have g3 : ¬ (m : Int) ≤ 4 := by omega
                 rw [decide_eq_true k1, decide_eq_false k2] at FI
                 go_wp2_with fail
                 go_ret
                 rw [FI.out]
                 exact ⟨rfl, F1.out⟩
             · have g3 : ¬ (1 : Int) ≤ (m : Int) := by omega
               rw [decide_eq_false k1] at FI
               go_wp2_with fail
               go_ret
               rw [FI.out]
               exact ⟨rfl, F1.out⟩
           · by_cases h69 : cn = 69
             · rw [if_pos (.inr h69), ET.out] at FIN
               have FI := Lib.hid FIN
               subst h69
               clear FIN
               go_wp2_with fail
               refine (CU2.out _).mono ?_
               rintro e' w' ⟨rfl, rfl⟩
               go_wp2_with fail
               refine (CD2.out _).mono ?_
               rintro e' w' ⟨rfl, rfl⟩
               by_cases k1 : 1 ≤ m
               · by_cases k2 : m ≤ 4
                 · by_cases k3 : m = VL
                   · have g3 : ((m : Int) == (VL : Int)) = true := by rw [k3]; simp
                     rw [decide_eq_true k1, decide_eq_true k2, decide_eq_true k3] at FI
                     clear k3
                     go_wp2_with fail
                     go_ret
                     rw [FI.out]
                     exact ⟨rfl, F1.out⟩
                   · have g3 : ((m : Int) == (VL : Int)) = false := by rw [beq_eq_false_iff_ne]; omega
                     rw [decide_eq_true k1, decide_eq_true k2, decide_eq_false k3] at FI
                     clear k3
                     go_wp2_with fail
                     go_ret
                     rw [FI.out]
                     exact ⟨rfl, F1.out⟩
                 · have g3 : ¬ (m : Int) ≤ 4 := by omega
                   rw [decide_eq_true k1, decide_eq_false k2] at FI
                   go_wp2_with fail
                   go_ret
                   rw [FI.out]
                   exact ⟨rfl, F1.out⟩
               · have g3 : ¬ (1 : Int) ≤ (m : Int) := by omega
                 rw [decide_eq_false k1] at FI
                 go_wp2_with fail
                 go_ret
                 rw [FI.out]
                 exact ⟨rfl, F1.out⟩
             · have g1 : ((cn : Int) != 101) = true := by rw [bne_iff_ne]; omega
               have g2 : ((cn : Int) != 69) = true := by rw [bne_iff_ne]; omega
               rw [if_neg (by omega)] at FIN
               have FI := Lib.hid FIN
               clear FIN h101 h69
               go_wp2_with fail
               go_ret
               rw [FI.out]
               exact ⟨rfl, F1.out⟩
    · rw [if_neg hc] at FR
      have g4 : ((c.toNat : Int) == 46) = false := by rw [beq_eq_false_iff_ne]; omega
      by_cases n0 : n = 0
      · rw [if_pos n0] at FR
        have FI := Lib.hid FR
        subst n0
        generalize ba (c :: r) = T at *
        generalize c.toNat = cn at *
        generalize r.length = rl at *
        clear FR TL hc
        go_enter Tryz.func23, Tryz.ntmps23
        go_wp2_with fail
        refine (CU.out _).mono ?_
        rintro e' w' ⟨rfl, rfl⟩
        go_wp2_with fail
        refine (CD.out _).mono ?_
        rintro e' w' ⟨rfl, rfl⟩
        go_wp2_with fail
        go_region
        all_goals
          go_wp2_with fail
          go_ret
          rw [FI.out]
          exact ⟨rfl, F1.out⟩
      · rw [if_neg n0] at FR
        have FIN : R = Rgt.expR (c :: r) := FR
        have g0 : ((n : Int) == 0) = false := by rw [beq_eq_false_iff_ne]; omega
        have IE := IC
        have XU := XR
        have ub : r.length ≤ 800 := rb8
        generalize ba (c :: r) = T at *
        clear FR TL hc n0 XR IC
        have HE := Lib.hid IE
        have HG := Lib.hid g4
        go_enter Tryz.func23, Tryz.ntmps23
        go_wp2_with fail
        refine (CU.out _).mono ?_
        rintro e' w' ⟨rfl, rfl⟩
        go_wp2_with fail
        refine (CD.out _).mono ?_
        rintro e' w' ⟨rfl, rfl⟩
        go_wp2_with fail
        go_region
        all_goals
         have CU2 := Lib.hid (fun w1 => unsigned_g r (by omega) w1)
         have CD2 := Lib.hid (fun w1 => digits_g (Rgt.unsg r) (by have := unsg_len r; omega) w1)
         have hv : (ba (Rgt.unsg r)).size = (Rgt.unsg r).length := rfl
         obtain ⟨VL, hVL⟩ : ∃ VL, VL = (Rgt.unsg r).length := ⟨_, rfl⟩
         have VLb : VL ≤ 1000 := by have := unsg_len r; omega
         obtain ⟨m, hm⟩ : ∃ m, m = Rgt.digs (Rgt.unsg r) := ⟨_, rfl⟩
         have ET : Hid (expT r = (decide (1 ≤ m) && decide (m ≤ 4) && decide (m = VL))) := Lib.hid (by unfold expT; rw [hm, hVL])
         rw [← hm] at CD2
         rw [← hVL] at hv
         generalize ba (Rgt.unsg r) = V at *
         generalize ba r = U at *
         obtain ⟨cn, hcn⟩ : ∃ cn, cn = c.toNat := ⟨_, rfl⟩
         rw [← hcn] at IE
         rw [expR_cons, ← hcn] at FIN
         clear hm hVL hcn
         by_cases h101 : cn = 101
         · rw [if_pos (.inl h101), ET.out] at FIN
           have FI := Lib.hid FIN
           subst h101
           clear FIN
           go_wp2_with fail
           refine (CU2.out _).mono ?_
           rintro e' w' ⟨rfl, rfl⟩
           go_wp2_with fail
           refine (CD2.out _).mono ?_
           rintro e' w' ⟨rfl, rfl⟩
           by_cases k1 : 1 ≤ m
           · by_cases k2 : m ≤ 4
             · by_cases k3 : m = VL
               · have g3 : ((m : Int) == (VL : Int)) = true := by rw [k3]; simp
                 rw [decide_eq_true k1, decide_eq_true k2, decide_eq_true k3] at FI
                 clear k3
                 go_wp2_with fail
                 go_ret
                 rw [FI.out]
                 exact ⟨rfl, F1.out⟩
               · have g3 : ((m : Int) == (VL : Int)) = false := by rw [beq_eq_false_iff_ne]; omega
                 rw [decide_eq_true k1, decide_eq_true k2, decide_eq_false k3] at FI
                 clear k3
                 go_wp2_with fail
                 go_ret
                 rw [FI.out]
                 exact ⟨rfl, F1.out⟩
             · have g3 : ¬ (m : Int) ≤ 4 := by omega
               rw [decide_eq_true k1, decide_eq_false k2] at FI
               go_wp2_with fail
               go_ret
               rw [FI.out]
               exact ⟨rfl, F1.out⟩
           · have g3 : ¬ (1 : Int) ≤ (m : Int) := by omega
             rw [decide_eq_false k1] at FI
             go_wp2_with fail
             go_ret
             rw [FI.out]
             exact ⟨rfl, F1.out⟩
         · by_cases h69 : cn = 69
           · rw [if_pos (.inr h69), ET.out] at FIN
             have FI := Lib.hid FIN
             subst h69
             clear FIN
             go_wp2_with fail
             refine (CU2.out _).mono ?_
             rintro e' w' ⟨rfl, rfl⟩
             go_wp2_with fail
             refine (CD2.out _).mono ?_
             rintro e' w' ⟨rfl, rfl⟩
             by_cases k1 : 1 ≤ m
             · by_cases k2 : m ≤ 4
               · by_cases k3 : m = VL
                 · have g3 : ((m : Int) == (VL : Int)) = true := by rw [k3]; simp
                   rw [decide_eq_true k1, decide_eq_true k2, decide_eq_true k3] at FI
                   clear k3
                   go_wp2_with fail
                   go_ret
                   rw [FI.out]
                   exact ⟨rfl, F1.out⟩
                 · have g3 : ((m : Int) == (VL : Int)) = false := by rw [beq_eq_false_iff_ne]; omega
                   rw [decide_eq_true k1, decide_eq_true k2, decide_eq_false k3] at FI
                   clear k3
                   go_wp2_with fail
                   go_ret
                   rw [FI.out]
                   exact ⟨rfl, F1.out⟩
               · have g3 : ¬ (m : Int) ≤ 4 := by omega
                 rw [decide_eq_true k1, decide_eq_false k2] at FI
                 go_wp2_with fail
                 go_ret
                 rw [FI.out]
                 exact ⟨rfl, F1.out⟩
             · have g3 : ¬ (1 : Int) ≤ (m : Int) := by omega
               rw [decide_eq_false k1] at FI
               go_wp2_with fail
               go_ret
               rw [FI.out]
               exact ⟨rfl, F1.out⟩
           · have g1 : ((cn : Int) != 101) = true := by rw [bne_iff_ne]; omega
             have g2 : ((cn : Int) != 69) = true := by rw [bne_iff_ne]; omega
             rw [if_neg (by omega)] at FIN
             have FI := Lib.hid FIN
             clear FIN h101 h69
             go_wp2_with fail
             go_ret
             rw [FI.out]
             exact ⟨rfl, F1.out⟩
end
end Go.Proofs.YtcjkgnafpkkjmaaGreatDoor
