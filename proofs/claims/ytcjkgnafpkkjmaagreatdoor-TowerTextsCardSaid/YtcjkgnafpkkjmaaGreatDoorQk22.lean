/- The texts and numbers of numbers: a part of the walk. No condition. -/
import Derived.Test.YtcjkgnafpkkjmaaGreatDoorQk21
import Derived.Lib.LaidPrint
set_option linter.all false
namespace Go.Proofs.YtcjkgnafpkkjmaaGreatDoor
section
open Go.ChangeShapes Go.WideShapes Go.RowKit Go.Shelf
theorem txt_named (b : Nat) (t : ByteArray) (hne : t.toList.isEmpty = false) (w : World) (CN : Calls Tryz.prog 26 #[.float .f64 b] w fun e w' => e = .returned (.string t) ∧ w = w') : Calls Tryz.prog 9 #[.float .f64 b] w fun e w' => e = .returned (.string t) ∧ w = w' := by
  have CN := Lib.hid CN
  go_enter Tryz.func9, Tryz.ntmps9
  go_wp2_with fail
  refine CN.out.mono ?_
  rintro e w' ⟨rfl, rfl⟩
  go_wp2_with fail
  go_ret
  exact ⟨rfl, rfl⟩
theorem txt_nan_all (b : Nat) (hn : isNan b = true) (w : World) : Calls Tryz.prog 9 #[.float .f64 b] w fun e w' => e = .returned (.string ⟨#[43, 110, 97, 110, 46, 48]⟩) ∧ w = w' := by
  refine txt_named b _ (by kernel_rfl) w ?_
  have hb1 := neq_nan b
  rw [hn] at hb1
  go_enter Tryz.func26, Tryz.ntmps26
  go_wp2_with fail
  go_ret
  exact ⟨rfl, rfl⟩
theorem txt_pinf (w : World) : Calls Tryz.prog 9 #[.float .f64 9218868437227405312] w fun e w' => e = .returned (.string ⟨#[43, 105, 110, 102, 46, 48]⟩) ∧ w = w' := by
  refine txt_named 9218868437227405312 _ (by kernel_rfl) w ?_
  have C1 := Lib.hid (fun w => by have := isinf1_c 9218868437227405312 w; rw [show (isInf 9218868437227405312 && !fsg 9218868437227405312) = true by decide] at this; exact this)
  have hb1 : (FloatKind.f64.format.order 9218868437227405312 9218868437227405312 != some .eq) = false := by decide
  go_enter Tryz.func26, Tryz.ntmps26
  go_wp2_with fail
  refine (C1.out _).mono ?_
  rintro e w' ⟨rfl, rfl⟩
  go_wp2_with fail
  go_ret
  exact ⟨rfl, rfl⟩
theorem txt_minf (w : World) : Calls Tryz.prog 9 #[.float .f64 18442240474082181120] w fun e w' => e = .returned (.string ⟨#[45, 105, 110, 102, 46, 48]⟩) ∧ w = w' := by
  refine txt_named 18442240474082181120 _ (by kernel_rfl) w ?_
  have C1 := Lib.hid (fun w => by have := isinf1_c 18442240474082181120 w; rw [show (isInf 18442240474082181120 && !fsg 18442240474082181120) = false by decide] at this; exact this)
  have C2 := Lib.hid (fun w => by have := isinfm_c 18442240474082181120 (by decide) w; rw [show (isInf 18442240474082181120 && fsg 18442240474082181120) = true by decide] at this; exact this)
  have hb1 : (FloatKind.f64.format.order 18442240474082181120 18442240474082181120 != some .eq) = false := by decide
  go_enter Tryz.func26, Tryz.ntmps26
  go_wp2_with fail
  refine (C1.out _).mono ?_
  rintro e w' ⟨rfl, rfl⟩
  go_wp2_with fail
  refine (C2.out _).mono ?_
  rintro e w' ⟨rfl, rfl⟩
  go_wp2_with fail
  go_ret
  exact ⟨rfl, rfl⟩
theorem rtxt_nan (b : Nat) (hb : b < 18446744073709551616) (hn : isNan b = true) (w : World) : Calls Tryz.prog 10 #[.float .f64 b] w fun e w' => e = .returned (.string ⟨#[43, 110, 97, 110, 46, 48]⟩) ∧ w = w' := by
  have CB : Hid (Calls Tryz.prog 33 #[.float .f64 b] w fun e w' => e = .returned (.int .u64 9221120237041090561) ∧ w = w') := Lib.hid (by
    have := r3bits_c b hb w
    rw [show bitsC b = 9221120237041090561 by unfold bitsC; rw [hn]; rfl] at this
    exact this)
  clear hn hb
  go_enter Tryz.func10, Tryz.ntmps10
  go_wp2_with fail
  refine CB.out.mono ?_
  rintro e w' ⟨rfl, rfl⟩
  go_wp2_with fail
  go_ret
  exact ⟨rfl, rfl⟩
theorem rtxt_pinf (w : World) : Calls Tryz.prog 10 #[.float .f64 9218868437227405312] w fun e w' => e = .returned (.string ⟨#[43, 105, 110, 102, 46, 48]⟩) ∧ w = w' := by
  have CB : Hid (Calls Tryz.prog 33 #[.float .f64 9218868437227405312] w fun e w' => e = .returned (.int .u64 9218868437227405312) ∧ w = w') := Lib.hid (by
    have := r3bits_c 9218868437227405312 (by decide) w
    rw [show bitsC 9218868437227405312 = 9218868437227405312 by decide] at this
    exact this)
  go_enter Tryz.func10, Tryz.ntmps10
  go_wp2_with fail
  refine CB.out.mono ?_
  rintro e w' ⟨rfl, rfl⟩
  go_wp2_with fail
  go_ret
  exact ⟨rfl, rfl⟩
theorem rtxt_minf (w : World) : Calls Tryz.prog 10 #[.float .f64 18442240474082181120] w fun e w' => e = .returned (.string ⟨#[45, 105, 110, 102, 46, 48]⟩) ∧ w = w' := by
  have CB : Hid (Calls Tryz.prog 33 #[.float .f64 18442240474082181120] w fun e w' => e = .returned (.int .u64 18442240474082181120) ∧ w = w') := Lib.hid (by
    have := r3bits_c 18442240474082181120 (by decide) w
    rw [show bitsC 18442240474082181120 = 18442240474082181120 by decide] at this
    exact this)
  go_enter Tryz.func10, Tryz.ntmps10
  go_wp2_with fail
  refine CB.out.mono ?_
  rintro e w' ⟨rfl, rfl⟩
  go_wp2_with fail
  go_ret
  exact ⟨rfl, rfl⟩
theorem text_c (b : Nat) (hb : b < 18446744073709551616) : ∃ T : ByteArray,
    (∀ w : World, LdT w → Calls Tryz.prog 9 #[.float .f64 b] w fun e w' => e = .returned (.string T) ∧ Fr [] w w') ∧
    (∀ w : World, LdT w → Calls Tryz.prog 10 #[.float .f64 b] w fun e w' => e = .returned (.string T) ∧ Fr [] w w') := by
  have up : ∀ {f : Nat} {T : ByteArray}, (∀ w : World, Calls Tryz.prog f #[.float .f64 b] w fun e w' => e = .returned (.string T) ∧ w = w') → ∀ w : World, LdT w → Calls Tryz.prog f #[.float .f64 b] w fun e w' => e = .returned (.string T) ∧ Fr [] w w' :=
    fun h w _ => (h w).mono (by rintro e w' ⟨rfl, rfl⟩; exact ⟨rfl, Fr.refl _ _⟩)
  by_cases hfin : b / 4503599627370496 % 2048 ≠ 2047
  · by_cases hnz : b % 9223372036854775808 ≠ 0
    · obtain ⟨neg, ds, dp, hd, hl, h1, h2, HE, HF⟩ := fmtEF_c b hb hfin hnz
      refine ⟨_, fun w HL => ftxt_c b hb hfin ((Fmt.efgF neg ds dp).map Fmt.b8) (by rw [List.length_map]; exact efgF_len neg ds dp hl h1 h2) w _ rfl (fun _ => HF w HL) neg ds dp hd hl h1 h2 (fun _ => HE w HL) HL, fun w HL => rtxt_c b hb hfin ((Fmt.efgF neg ds dp).map Fmt.b8) (by rw [List.length_map]; exact efgF_len neg ds dp hl h1 h2) w _ rfl (fun _ => HF w HL) neg ds dp hd hl h1 h2 (fun _ => HE w HL) HL⟩
    · obtain ⟨L, hL, HF⟩ := fmtF_c b hb hfin
      have hv : fNum b = true := by
        have : b % 9223372036854775808 = 0 := by omega
        unfold fNum; rw [this]; decide
      refine ⟨_, fun w HL => ftxt_c b hb hfin L hL w true hv.symm (fun _ => HF w HL) false [] 0 (by intro d hd; simp at hd) (by decide) (by decide) (by decide) (fun h => by cases h) HL, fun w HL => rtxt_c b hb hfin L hL w true hv.symm (fun _ => HF w HL) false [] 0 (by intro d hd; simp at hd) (by decide) (by decide) (by decide) (fun h => by cases h) HL⟩
  · by_cases hn : isNan b = true
    · exact ⟨_, up (txt_nan_all b hn), up (rtxt_nan b hb hn)⟩
    · have hm : b % 4503599627370496 = 0 := by
        have h0 : isNan b = false := by
          cases h : isNan b
          · rfl
          · exact absurd h hn
        unfold isNan at h0
        have := of_decide_eq_false h0
        omega
      by_cases hs : b < 9223372036854775808
      · obtain rfl : b = 9218868437227405312 := by omega
        exact ⟨_, up txt_pinf, up rtxt_pinf⟩
      · obtain rfl : b = 18442240474082181120 := by omega
        exact ⟨_, up txt_minf, up rtxt_minf⟩
theorem isfrom_run (b : Nat) (w : World) : (callFunc 183 #[.int .u64 (b : Int)]).run Tryz.prog w = .ok (.value (.float .f64 b)) w := by
  rw [run_callFunc_extern Tryz.func183 (by kernel_rfl) (by kernel_rfl) (by kernel_rfl) (e := Extern.MathFloatBits.float64frombits) (by kernel_rfl)]
  rfl
theorem wrap_some (z : Int) : ∃ n : Nat, n < 18446744073709551616 ∧ IntKind.u64.wrap z = (n : Int) := by
  refine ⟨(IntKind.u64.wrap z).toNat, ?_, ?_⟩
  · rw [IntKind.wrap_u64]; omega
  · rw [IntKind.wrap_u64]; omega
theorem and_some (x y : Int) : ∃ n : Nat, n < 18446744073709551616 ∧ bits BinOp.and IntKind.u64 x y = (n : Int) := wrap_some _
theorem or_some (x y : Int) : ∃ n : Nat, n < 18446744073709551616 ∧ bits BinOp.or IntKind.u64 x y = (n : Int) := wrap_some _
theorem andnot_some (x y : Int) : ∃ n : Nat, n < 18446744073709551616 ∧ bits BinOp.andNot IntKind.u64 x y = (n : Int) := wrap_some _
def RErr (er : Value) : Prop := er = .nilIface ∨ er = .iface 127 (.int .i64 1)
theorem pack64_c (m : Nat) (e : Int) (hm : m < 18446744073709551616) (he1 : -5000 ≤ e) (he2 : e ≤ 5000) : ∃ (r : Nat) (er : Value), r < 18446744073709551616 ∧ RErr er ∧ ∀ w : World, Calls Tryz.prog 222 #[.int .u64 (m : Int), .int .i64 e] w fun x w' => x = .returned (.tuple #[.float .f64 r, er]) ∧ w = w' := by
  obtain ⟨a, ha, hae⟩ := and_some (m : Int) 4503599627370496
  by_cases h0 : a = 0
  · subst h0
    refine ⟨m, .nilIface, hm, .inl rfl, fun w => ?_⟩
    have hf := isfrom_run m
    go_enter Tryz.func222, Tryz.ntmps222
    go_wp2
    go_ret2
    exact ⟨rfl, rfl⟩
  · have g0 : ((a : Int) == 0) = false := by rw [beq_eq_false_iff_ne]; omega
    by_cases h1 : 972 ≤ e
    · obtain ⟨b, hb, hbe⟩ := and_some (m : Int) 9223372036854775808
      obtain ⟨c, hc, hce⟩ := or_some (b : Int) 9218868437227405312
      refine ⟨c, .iface 127 (.int .i64 1), hc, .inr rfl, fun w => ?_⟩
      have hf := isfrom_run c
      clear h0 ha hb hc hm
      go_enter Tryz.func222, Tryz.ntmps222
      go_wp2
      go_ret2
      exact ⟨rfl, rfl⟩
    · obtain ⟨b, hb, hbe⟩ := andnot_some (m : Int) 4503599627370496
      obtain ⟨c, hc, hce⟩ := wrap_some (1075 + e)
      obtain ⟨d, hd, hde⟩ := wrap_some ((c : Int) * 4503599627370496)
      obtain ⟨f, hf0, hfe⟩ := or_some (b : Int) (d : Int)
      refine ⟨f, .nilIface, hf0, .inl rfl, fun w => ?_⟩
      have hf := isfrom_run f
      clear h0 ha hb hc hd hf0 hm
      go_enter Tryz.func222, Tryz.ntmps222
      go_wp2
      go_ret2
      exact ⟨rfl, rfl⟩
theorem unmin_c (w : World) : Calls Tryz.prog 198 #[.int .u64 9007199254740992] w fun x w' => x = .returned (.int .u64 36028797018963966) ∧ w = w' := by
  go_enter Tryz.func198, Tryz.ntmps198
  go_wp2
  go_ret
  exact ⟨rfl, rfl⟩
theorem roundg_c (u : Nat) (hu : u < 18446744073709551616) : ∃ q : Nat, q < 18446744073709551616 ∧ ∀ w : World, Calls Tryz.prog 196 #[.int .u64 (u : Int)] w fun e w' => e = .returned (.int .u64 (q : Int)) ∧ w = w' := by
  obtain ⟨t, ht, hte⟩ := wrap_some ((u : Int) + 1)
  obtain ⟨y, hy⟩ : ∃ y, y = u / 4 := ⟨_, rfl⟩
  obtain ⟨z, hz⟩ : ∃ z, z = y % 2 := ⟨_, rfl⟩
  have e0 : (u : Int) / 4 = (y : Int) := by omega
  have e3 := and1_64 y (by omega)
  rw [← hz] at e3
  obtain ⟨t2, ht2, hte2⟩ := wrap_some ((t : Int) + (z : Int))
  have e4 : (t2 : Int) / 4 = ((t2 / 4 : Nat) : Int) := by omega
  refine ⟨t2 / 4, by omega, fun w => ?_⟩
  obtain ⟨q, hq⟩ : ∃ q, q = t2 / 4 := ⟨_, rfl⟩
  rw [← hq] at e4 ⊢
  have e5 : IntKind.u64.wrap (q : Int) = (q : Int) := fw_u64 _ (by omega) (by omega)
  clear hy hz ht ht2 hq
  go_enter Tryz.func196, Tryz.ntmps196
  go_wp2
  go_ret
  exact ⟨rfl, rfl⟩
set_option maxRecDepth 100000 in
set_option maxHeartbeats 2000000 in
theorem pf64_c (d : Nat) (p : Int) (sg : Nat) (hd1 : 1 ≤ d) (hd2 : d < 18446744073709551616) (hp1 : -345 ≤ p) (hp2 : p ≤ 310) : ∃ (r : Nat) (er : Value), r < 18446744073709551616 ∧ RErr er ∧ ∀ w : World, LdT w → Calls Tryz.prog 185 #[.int .u64 (d : Int), .int .i64 p, .int .u64 (sg : Int)] w fun x w' => x = .returned (.tuple #[.float .f64 r, er]) ∧ Fr [] w w' := by
  obtain ⟨i, hi⟩ : ∃ i : Nat, p + 348 = (i : Int) := ⟨(p + 348).toNat, by omega⟩
  obtain ⟨⟨ph, pl⟩, hrow⟩ := pow10_some i (by omega)
  obtain ⟨hph, hpl⟩ := pow10_bound i _ hrow
  simp only at hph hpl
  obtain ⟨bl, hbl⟩ : ∃ bl, bl = Lib.bitLen d := ⟨_, rfl⟩
  have CL := Lib.hid (fun w1 => by have := Tryz.bits_Len64 (d : Int) w1 (by omega) (by omega); rw [Int.toNat_natCast, ← hbl] at this; exact this)
  have hbl1 : 1 ≤ bl := by rw [hbl]; exact bitLen_pos d (by omega) hd2
  have hbl2 : bl ≤ 64 := by rw [hbl]; exact Lib.bitLen_le d 64 (by decide) hd2
  obtain ⟨lp, hlp⟩ : ∃ lp, lp = p * 108853 / 32768 := ⟨_, rfl⟩
  have hlpb : -1200 ≤ lp ∧ lp ≤ 1200 := by omega
  obtain ⟨E, hE⟩ : ∃ E : Int, min (1074 : Int) (53 - (bl : Int) - lp) = E := ⟨_, rfl⟩
  have hEb : -1300 ≤ E ∧ E ≤ 1074 := by omega
  obtain ⟨k, hk⟩ : ∃ k : Nat, (64 : Int) - (bl : Int) = (k : Int) := ⟨64 - bl, by omega⟩
  obtain ⟨s, hs⟩ : ∃ s : Nat, -(E - (k : Int) + lp + 3) = (s : Int) := ⟨(-(E - (k : Int) + lp + 3)).toNat, by omega⟩
  have hs8 : 8 ≤ s := by omega
  have hs5 : s ≤ 5000 := by omega
  by_cases h64 : 64 ≤ s
  · obtain ⟨r, hr, hre⟩ := or_some (sg : Int) 0
    refine ⟨r, .nilIface, hr, .inl rfl, fun w HL => ?_⟩
    have hf := isfrom_run r
    have hg := HL.big
    obtain ⟨W1, hW1⟩ : ∃ W1, W1 = w.alloc (.cells #[.int .u64 0, .int .u64 0, .int .i64 0] 220) := ⟨_, rfl⟩
    obtain ⟨g, hgk⟩ : ∃ g, g = w.heap.size := ⟨_, rfl⟩
    have F1 : Hid (Fr [] w W1) := Lib.hid (by rw [hW1]; exact (Fr.refl _ _).alloc _)
    have HB : Hid (blk W1 g = some (.cells #[.int .u64 0, .int .u64 0, .int .i64 0] 220 (0, 0))) := Lib.hid (by rw [hW1, hgk, blk_alloc, if_pos rfl])
    have HP := Lib.hid (prescale_c W1 g i ph pl s (E - (k : Int)) p lp _ _ _ (HL.fr F1.out) HB.out (by rw [hgk]; exact hg) hi (by omega) hrow hs (by omega) (by omega) (by omega) (by omega))
    have HK : Hid (w.heap.size ≤ g) := Lib.hid (by rw [hgk]; exact Nat.le_refl _)
    have CL2 := Lib.hid (fun w1 => log2p_c p lp w1 hlp.symm (by omega) (by omega))
    clear HB HL hg hrow hi hs hlp hbl hr
    go_enter Tryz.func185, Tryz.ntmps185
    go_wp2_with fail
    refine (CL.out _).mono ?_
    rintro x w' ⟨rfl, rfl⟩
    go_wp2_with fail
    refine (CL2.out _).mono ?_
    rintro x w' ⟨rfl, rfl⟩
    go_upto_region 5 with fail
    rw [← hW1, ← hgk]
    clear hW1 hgk
    go_wp2_with fail
    refine HP.out.mono ?_
    rintro x w2 ⟨rfl, S2, F2⟩
    have F2 := Lib.hid (F1.out.trans F2 (fun x hx => .inr (by rw [List.mem_singleton.1 hx]; exact HK.out)))
    have c2 := cell_of S2 (i := 2) rfl
    have gl := lt_size S2
    have S2 := Lib.hid S2
    go_wp2_with fail
    go_ret2
    exact ⟨rfl, F2.out⟩
  · obtain ⟨x, hx, hxe⟩ := wrap_some ((d : Int) * 2 ^ k)
    obtain ⟨u, hu⟩ : ∃ u, u = usN x ph pl s := ⟨_, rfl⟩
    have hub := usN_lt x ph pl s hx hph (by omega)
    rw [← hu] at hub
    obtain ⟨S, hS⟩ : ∃ S : Nat, S = if 36028797018963966 ≤ u then 1 else 0 := ⟨_, rfl⟩
    have hS1 : S ≤ 1 := by rw [hS]; split <;> omega
    obtain ⟨v, hv⟩ : ∃ v, v = u / 2 ^ S := ⟨_, rfl⟩
    have hvi : (u : Int) / 2 ^ S = (v : Int) := by rw [hv]; push_cast; rfl
    obtain ⟨t, ht, hte⟩ := and_some (u : Int) 1
    obtain ⟨y, hy, hye⟩ := or_some (v : Int) (t : Int)
    obtain ⟨q, hq, CR⟩ := roundg_c y hy
    obtain ⟨m, hm, hme⟩ := or_some (sg : Int) (q : Int)
    obtain ⟨r, er, hr, her, CP⟩ := pack64_c m (-(E - (S : Int))) hm (by omega) (by omega)
    refine ⟨r, er, hr, her, fun w HL => ?_⟩
    have hg := HL.big
    obtain ⟨W1, hW1⟩ : ∃ W1, W1 = w.alloc (.cells #[.int .u64 0, .int .u64 0, .int .i64 0] 220) := ⟨_, rfl⟩
    obtain ⟨g, hgk⟩ : ∃ g, g = w.heap.size := ⟨_, rfl⟩
    have F1 : Hid (Fr [] w W1) := Lib.hid (by rw [hW1]; exact (Fr.refl _ _).alloc _)
    have HB : Hid (blk W1 g = some (.cells #[.int .u64 0, .int .u64 0, .int .i64 0] 220 (0, 0))) := Lib.hid (by rw [hW1, hgk, blk_alloc, if_pos rfl])
    have HP := Lib.hid (prescale_c W1 g i ph pl s (E - (k : Int)) p lp _ _ _ (HL.fr F1.out) HB.out (by rw [hgk]; exact hg) hi (by omega) hrow hs (by omega) (by omega) (by omega) (by omega))
    have HK : Hid (w.heap.size ≤ g) := Lib.hid (by rw [hgk]; exact Nat.le_refl _)
    have CL2 := Lib.hid (fun w1 => log2p_c p lp w1 hlp.symm (by omega) (by omega))
    have HU := Lib.hid hu
    have HS := Lib.hid hS
    have CR := Lib.hid CR
    have CP := Lib.hid CP
    clear HB HL hg hrow hi hs hlp hbl hr hu hS hv ht hy hq hm her
    go_enter Tryz.func185, Tryz.ntmps185
    go_wp2_with fail
    refine (CL.out _).mono ?_
    rintro x w' ⟨rfl, rfl⟩
    go_wp2_with fail
    refine (CL2.out _).mono ?_
    rintro x w' ⟨rfl, rfl⟩
    go_upto_region 5 with fail
    rw [← hW1, ← hgk]
    clear hW1 hgk
    go_wp2_with fail
    refine HP.out.mono ?_
    rintro x w2 ⟨rfl, S2, F2⟩
    have F2 := Lib.hid (F1.out.trans F2 (fun x hx => .inr (by rw [List.mem_singleton.1 hx]; exact HK.out)))
    have c2 := cell_of S2 (i := 2) rfl
    have gl := lt_size S2
    have S2 := Lib.hid S2
    go_wp2_with fail
    refine (uscaleg_c w2 g x ph pl s S2.out (by omega) (by omega) hx hph hpl).mono ?_
    rintro x w3 ⟨rfl, F3⟩
    have F3 := Lib.hid (F2.out.same F3)
    rw [← HU.out]
    clear c2 gl S2 F2
    go_wp2_with fail
    refine (unmin_c _).mono ?_
    rintro x w' ⟨rfl, rfl⟩
    have CB := Lib.hid (fun b w1 => Tryz.internal_strconv_bool2_int b w1)
    by_cases hbig : 36028797018963966 ≤ u
    · have hS2 : S = 1 := by rw [HS.out, if_pos hbig]
      have g1 : decide ((36028797018963966 : Int) ≤ (u : Int)) = true := decide_eq_true (by omega)
      subst hS2
      have hv1 : (u : Int) / 2 = (v : Int) := by simpa using hvi
      have CP := Lib.hid (fun w1 => (by have := CP.out w1; rw [show (E - ((1 : Nat) : Int)) = E - 1 from rfl] at this; exact this))
      clear hvi
      go_wp2_with fail
      refine (CB.out true _).mono ?_
      rintro x w' ⟨rfl, rfl⟩
      go_wp2_with fail
      refine (CR.out _).mono ?_
      rintro x w' ⟨rfl, rfl⟩
      go_wp2_with fail
      refine (CP.out _).mono ?_
      rintro x w' ⟨rfl, rfl⟩
      go_wp2_with fail
      go_ret2
      exact ⟨rfl, F3.out⟩
    · have hS2 : S = 0 := by rw [HS.out, if_neg hbig]
      have g1 : decide ((36028797018963966 : Int) ≤ (u : Int)) = false := decide_eq_false (by omega)
      subst hS2
      have hv1 : u = v := by have : (u : Int) = (v : Int) := by simpa using hvi
                             omega
      have CP := Lib.hid (fun w1 => (by have := CP.out w1; rw [show (E - ((0 : Nat) : Int)) = E by simp] at this; exact this))
      subst hv1
      clear hvi
      go_wp2_with fail
      refine (CB.out false _).mono ?_
      rintro x w' ⟨rfl, rfl⟩
      go_wp2_with fail
      refine (CR.out _).mono ?_
      rintro x w' ⟨rfl, rfl⟩
      go_wp2_with fail
      refine (CP.out _).mono ?_
      rintro x w' ⟨rfl, rfl⟩
      go_wp2_with fail
      go_ret2
      exact ⟨rfl, F3.out⟩
end
section
open Go.ChangeShapes Go.WideShapes Go.RowKit
def tensN : List Nat := [4607182418800017408, 4621819117588971520, 4636737291354636288, 4652007308841189376, 4666723172467343360, 4681608360884174848, 4696837146684686336, 4711630319722168320, 4726483295884279808, 4741671816366391296, 4756540486875873280, 4771362005757984768, 4786511204640096256, 4801453603149578240, 4816244402031689728, 4831355200913801216, 4846369599423283200, 4861130398305394688, 4876203697187506176, 4891288408196988160, 4906019910204099648, 4921056587992461136, 4936209963552724370]
theorem spot_none {W : World} {a : Addr} {v : Value} (h : W.cell? a = some v) : a.spot = none := (addr_none h).1
theorem float_of {fuel : Nat} {v : Value} {b : Nat} {q : List MemPlace} {W : World} {H : Type} {enc : TypeId × Value → H} {base : Nat} {spare : Nat → Bool} {held : Bool} (h : DataW.trod enc Tryz.prog W base spare held fuel 24 [v] = some (.lit (.float .f64 b), q)) : v = .float .f64 b := by
  obtain ⟨b', e0, e1, _⟩ := trod_float Tryz.underlying24 h
  have e2 := congrArg Prod.fst e1
  simp only [List.cons.injEq, and_true] at e0
  rw [e0]
  have : b = b' := by simpa using e2
  rw [this]
theorem tens_all {W : World} (h : Lib.VarReads Tryz.prog W "internal/strconv.float64pow10" Rows.laid_internal_strconv_float64pow10) : ∃ b o c, 23 ≤ c ∧ W.cell? ⟨10, 0, none⟩ = some (.slice (some ⟨b, o, none⟩) 23 c) ∧ ∀ i x, tensN[i]? = some x → W.cell? ⟨b, o + i, none⟩ = some (.float .f64 x) := by
  obtain ⟨g, t, cs, fuel, p, hg, hty, hvar, hd⟩ := h
  obtain rfl := Option.some.inj ((show Tryz.prog.globalNamed "internal/strconv.float64pow10" = some 10 by kernel_rfl).symm.trans hg)
  obtain rfl := Option.some.inj ((show (Tryz.prog.globals[10]?).map (·.type) = some 245 by kernel_rfl).symm.trans hty)
  have hrow : (Rows.laid_internal_strconv_float64pow10 : DataW Unit) = .slice (tensN.map fun n => .lit (.float .f64 n)) [] := rfl
  rw [hrow] at hd
  obtain ⟨a, cap, hcs, hcap, hel⟩ := open_row Tryz.underlying245 (by kernel_rfl) hd
  have hlen : (tensN.map fun n => (DataW.lit (.float .f64 n) : DataW Unit)).length = 23 := rfl
  rw [hlen] at hcs hcap
  have cell : ∀ i x, tensN[i]? = some x → W.cell? (a.add i) = some (.float .f64 x) := by
    intro i x hx
    obtain ⟨v, n, q, hv, hq⟩ := hel i (.lit (.float .f64 x)) (by rw [List.getElem?_map, hx]; rfl)
    rw [hv, float_of hq]
  have hs : a.spot = none := by
    have := spot_none (cell 0 4607182418800017408 rfl)
    simpa [Addr.add] using this
  refine ⟨a.block, a.off, cap, hcap, ?_, fun i x hx => ?_⟩
  · rw [World.var?_cell hg hvar, ← Array.getElem?_toList, hcs]
    exact congrArg (fun x => some (Value.slice (some x) 23 cap)) (show a = ⟨a.block, a.off, none⟩ by obtain ⟨b1, o1, s1⟩ := a; cases hs; rfl)
  · rw [← add_cell hs (cell i x hx)]
def powtabN : List Nat := [1, 3, 6, 9, 13, 16, 19, 23, 26]
theorem powtab_of {W : World} (h : Lib.VarReads Tryz.prog W "internal/strconv.powtab" Rows.laid_internal_strconv_powtab) : Lib.TabSlice 9 .i64 powtabN W :=
  Lib.tabSlice_of_reads (by kernel_rfl : Tryz.prog.globalNamed "internal/strconv.powtab" = some 9) (by kernel_rfl : (Tryz.prog.globals[9]?).map (·.type) = some 244) Tryz.underlying244 Tryz.underlying3 (by kernel_rfl) (by decide) h
theorem info_of {W : World} (h : Lib.VarReads Tryz.prog W "internal/strconv.float64info" Rows.laid_internal_strconv_float64info) : W.cell? ⟨6, 0, none⟩ = some (.int .u64 52) ∧ W.cell? ⟨6, 1, none⟩ = some (.int .u64 11) ∧ W.cell? ⟨6, 2, none⟩ = some (.int .i64 (-1023)) := by
  refine ⟨bits_of h, ?_⟩
  obtain ⟨g, t, cs, fuel, p, hg, hty, hvar, hd⟩ := h
  obtain rfl := Option.some.inj ((show Tryz.prog.globalNamed "internal/strconv.float64info" = some 6 by kernel_rfl).symm.trans hg)
  obtain rfl := Option.some.inj ((show (Tryz.prog.globals[6]?).map (·.type) = some 200 by kernel_rfl).symm.trans hty)
  obtain ⟨xs, n, _, e1, _, hlen, hgf⟩ := DataW.trod_struct Tryz.underlying200 hd
  have g1 : DataW.trod (fun _ => ()) Tryz.prog W 0 (fun _ => true) false n 90 ((cs.toList.drop 1).take ((Tryz.prog).cellsOf 90)) = xs[1]? := hgf 1 _ rfl
  have g2 : DataW.trod (fun _ => ()) Tryz.prog W 0 (fun _ => true) false n 3 ((cs.toList.drop 2).take ((Tryz.prog).cellsOf 3)) = xs[2]? := hgf 2 _ rfl
  obtain ⟨y1, hy1⟩ : ∃ y, xs[1]? = some y := ⟨xs[1]'(by rw [hlen]; decide), List.getElem?_eq_getElem _⟩
  obtain ⟨y2, hy2⟩ : ∃ y, xs[2]? = some y := ⟨xs[2]'(by rw [hlen]; decide), List.getElem?_eq_getElem _⟩
  rw [hy1, show (Tryz.prog).cellsOf 90 = 1 by kernel_rfl] at g1
  rw [hy2, show (Tryz.prog).cellsOf 3 = 1 by kernel_rfl] at g2
  obtain ⟨z1, e2, e3, _⟩ := DataW.trod_int Tryz.underlying90 g1
  obtain ⟨z2, f2, f3, _⟩ := DataW.trod_int Tryz.underlying3 g2
  have em : xs.map (·.1) = [.lit (.int .u64 52), .lit (.int .u64 11), .lit (.int .i64 (-1023))] := by
    have := congrArg Prod.fst e1
    unfold Rows.laid_internal_strconv_float64info at this
    simp only [DataW.agg.injEq] at this
    exact this.symm
  have e4 := congrArg (·[1]?) em
  have f4 := congrArg (·[2]?) em
  simp only [List.getElem?_map, hy1, hy2, Option.map_some, e3, f3] at e4 f4
  have e5 : z1 = 11 := by simpa using e4
  have f5 : z2 = -1023 := by simpa using f4
  rw [World.var?_cell hg hvar, World.var?_cell hg hvar, ← Array.getElem?_toList, ← Array.getElem?_toList]
  have h1 := congrArg (·[0]?) e2
  have h2 := congrArg (·[0]?) f2
  simp [List.getElem?_take, List.getElem?_drop] at h1 h2
  rw [e5] at h1
  rw [f5] at h2
  exact ⟨by simpa using h1, by simpa using h2⟩
theorem two_of {cs : List Value} (h : cs.length = 2) : ∃ a b, cs = [a, b] := by
  match cs, h with
  | [a, b], _ => exact ⟨a, b, rfl⟩
theorem cheat_struct {W : World} {fuel : Nat} {cs : List Value} {q : List MemPlace} {d : Nat} {s : List UInt8} {H : Type} {enc : TypeId × Value → H} {base : Nat} {spare : Nat → Bool} {held : Bool} (h : DataW.trod enc Tryz.prog W base spare held fuel 252 cs = some (.agg [.lit (.int .i64 (d : Int)), .lit (.string s)], q)) : cs = [.int .i64 (d : Int), .string ⟨s.toArray⟩] := by
  obtain ⟨xs, n, _, e1, hlc, hlen, hgf⟩ := DataW.trod_struct Tryz.underlying252 h
  have g0 : DataW.trod enc Tryz.prog W base spare held n 3 ((cs.drop 0).take ((Tryz.prog).cellsOf 3)) = xs[0]? := hgf 0 _ rfl
  have g1 : DataW.trod enc Tryz.prog W base spare held n 9 ((cs.drop 1).take ((Tryz.prog).cellsOf 9)) = xs[1]? := hgf 1 _ rfl
  obtain ⟨y0, hy0⟩ : ∃ y, xs[0]? = some y := ⟨xs[0]'(by rw [hlen]; decide), List.getElem?_eq_getElem _⟩
  obtain ⟨y1, hy1⟩ : ∃ y, xs[1]? = some y := ⟨xs[1]'(by rw [hlen]; decide), List.getElem?_eq_getElem _⟩
  rw [hy0, show (Tryz.prog).cellsOf 3 = 1 by kernel_rfl] at g0
  rw [hy1, show (Tryz.prog).cellsOf 9 = 1 by kernel_rfl] at g1
  obtain ⟨z, e2, e3, _⟩ := DataW.trod_int Tryz.underlying3 g0
  obtain ⟨t, f2, f3, _⟩ := DataW.trod_string Tryz.underlying9 g1
  have em : xs.map (·.1) = [.lit (.int .i64 (d : Int)), .lit (.string s)] := by
    have := congrArg Prod.fst e1
    simp only [DataW.agg.injEq] at this
    exact this.symm
  have e4 := congrArg (·[0]?) em
  have f4 := congrArg (·[1]?) em
  simp only [List.getElem?_map, hy0, hy1, Option.map_some, e3, f3] at e4 f4
  have e5 : z = (d : Int) := by simpa using e4
  have f5 : t.data.toList = s := by simpa using f4
  have hcl : cs.length = 2 := by rw [hlc]; kernel_rfl
  obtain ⟨a, b, hab⟩ := two_of hcl
  rw [hab] at e2 f2 ⊢
  have h1 : a = .int .i64 z := by simpa using e2
  have h2 : b = .string t := by simpa using f2
  have ht : t = ⟨s.toArray⟩ := by rw [← f5]
  rw [h1, h2, e5, ht]
theorem add_none (b o i : Nat) : (Addr.mk b o none).add i = ⟨b, o + i, none⟩ := by unfold Addr.add; split <;> simp_all
theorem cheats_gen {W : World} (rows : List (Nat × List UInt8)) (hl61 : rows.length = 61) (h : Lib.VarReads Tryz.prog W "internal/strconv.leftcheats" (.slice (rows.map fun x => .agg [.lit (.int .i64 x.1), .lit (.string x.2)]) [])) : ∃ b o c, 61 ≤ c ∧ W.cell? ⟨12, 0, none⟩ = some (.slice (some ⟨b, o, none⟩) 61 c) ∧ ∀ i x, rows[i]? = some x → W.cell? ⟨b, o + i * 2, none⟩ = some (.int .i64 (x.1 : Int)) ∧ W.cell? ⟨b, o + i * 2 + 1, none⟩ = some (.string ⟨x.2.toArray⟩) := by
  obtain ⟨g, t, cs, fuel, p, hg, hty, hvar, hd⟩ := h
  obtain rfl := Option.some.inj ((show Tryz.prog.globalNamed "internal/strconv.leftcheats" = some 12 by kernel_rfl).symm.trans hg)
  obtain rfl := Option.some.inj ((show (Tryz.prog.globals[12]?).map (·.type) = some 253 by kernel_rfl).symm.trans hty)
  rcases DataW.trod_slice Tryz.underlying253 hd with ⟨_, hx⟩ | ⟨a, len, cap, el, rs, m, rfl, hcs, hx, _, hlc, _, hel, helem, hsp, _⟩
  · cases hx
  have e0 := congrArg Prod.fst hx
  simp only [DataW.slice.injEq] at e0
  obtain ⟨eE, eR⟩ := e0
  have hlen : len = 61 := by
    have := congrArg List.length eE
    simp [hl61] at this
    omega
  have c2 : (Tryz.prog).cellsOf 252 = 2 := by kernel_rfl
  have hcell : ∀ i x, rows[i]? = some x → W.cell? (a.add (i * 2)) = some (.int .i64 (x.1 : Int)) ∧ W.cell? ((a.add (i * 2)).add 1) = some (.string ⟨x.2.toArray⟩) := by
    intro i x hx2
    have hi : i < len := by rw [hlen, ← hl61]; exact (List.getElem?_eq_some_iff.1 hx2).1
    have h1 := helem i hi
    rw [c2] at h1
    obtain ⟨b, hb⟩ : ∃ b, el[i]? = some b := ⟨el[i]'(by omega), List.getElem?_eq_getElem (by omega)⟩
    rw [hb] at h1
    obtain ⟨ce, hce, hte⟩ := Option.bind_eq_some_iff.1 h1
    have hb1 : b.1 = .agg [.lit (.int .i64 (x.1 : Int)), .lit (.string x.2)] := by
      have := congrArg (·[i]?) eE
      simp only [List.getElem?_map, hb, hx2, Option.map_some, Option.some.injEq] at this
      exact this.symm
    have hte2 : DataW.trod (fun _ => ()) Tryz.prog W 0 (fun _ => true) false m 252 ce = some (.agg [.lit (.int .i64 (x.1 : Int)), .lit (.string x.2)], b.2) := by
      rw [← hb1]; exact hte
    have hce2 := cheat_struct hte2
    obtain ⟨_, _, hcc⟩ := World.cells?_some hce
    have h0 := hcc 0 (by omega)
    have h3 := hcc 1 (by omega)
    rw [hce2] at h0 h3
    have e1 : (a.add (i * 2)).add 0 = a.add (i * 2) := by simp [Addr.add]
    rw [e1] at h0
    exact ⟨h0, h3⟩
  have hs : a.spot = none := by
    obtain ⟨x0, hx0⟩ : ∃ x, rows[0]? = some x := ⟨_, List.getElem?_eq_getElem (by rw [hl61]; decide)⟩
    have := spot_none (hcell 0 x0 hx0).1
    simpa [Addr.add] using this
  refine ⟨a.block, a.off, cap, by omega, ?_, fun i x hx2 => ?_⟩
  · rw [World.var?_cell hg hvar, ← Array.getElem?_toList, hcs, hlen]
    exact congrArg (fun x => some (Value.slice (some x) 61 cap)) (show a = ⟨a.block, a.off, none⟩ by obtain ⟨b1, o1, s1⟩ := a; cases hs; rfl)
  · obtain ⟨h1, h2⟩ := hcell i x hx2
    obtain ⟨b1, o1, s1⟩ := a
    cases hs
    rw [add_none] at h1 h2
    rw [add_none] at h2
    exact ⟨h1, h2⟩
theorem cheats_of {W : World} (h : Lib.VarReads Tryz.prog W "internal/strconv.leftcheats" Pinned.leftcheats) : ∃ b o c, 61 ≤ c ∧ W.cell? ⟨12, 0, none⟩ = some (.slice (some ⟨b, o, none⟩) 61 c) ∧ ∀ i x, Pinned.cheatRows[i]? = some x → W.cell? ⟨b, o + i * 2, none⟩ = some (.int .i64 (x.1 : Int)) ∧ W.cell? ⟨b, o + i * 2 + 1, none⟩ = some (.string ⟨x.2.toArray⟩) :=
  cheats_gen Pinned.cheatRows (by kernel_rfl) h
end
section
open Go.ChangeShapes Go.WideShapes Go.RowKit Go.Shelf
theorem iface_of {P : Program} {W : World} {H : Type} {enc : TypeId × Value → H} {base : Nat} {spare : Nat → Bool} {held : Bool} {fuel : Nat} {t : TypeId} {ms : Array (String × TypeId)} {cs : List Value} {x : DataW H × List MemPlace} (ht : P.underlying t = some (.interface ms)) (h : DataW.trod enc P W base spare held fuel t cs = some x) : cs = [.nilIface] ∨ ∃ te pe, cs = [.iface te pe] := by
  cases fuel with
  | zero => simp [DataW.trod] at h
  | succ n =>
    unfold DataW.trod at h
    rw [ht] at h
    split at h <;> simp_all
structure LdX (W : World) : Prop where
  t : LdT W
  opt : W.cell? ⟨3, 0, none⟩ = some (.bool true)
  info : W.cell? ⟨6, 0, none⟩ = some (.int .u64 52) ∧ W.cell? ⟨6, 1, none⟩ = some (.int .u64 11) ∧ W.cell? ⟨6, 2, none⟩ = some (.int .i64 (-1023))
  tens : ∃ b o c, 23 ≤ c ∧ W.cell? ⟨10, 0, none⟩ = some (.slice (some ⟨b, o, none⟩) 23 c) ∧ ∀ i x, tensN[i]? = some x → W.cell? ⟨b, o + i, none⟩ = some (.float .f64 x)
  pow : ∃ b o c, W.cell? ⟨9, 0, none⟩ = some (.slice (some ⟨b, o, none⟩) 9 c) ∧ ∀ j, j < 9 → W.cell? ⟨b, o + j, none⟩ = some (.int .i64 ((powtabN.getD j 0 : Nat) : Int))
  cheat : ∃ b o c, 61 ≤ c ∧ W.cell? ⟨12, 0, none⟩ = some (.slice (some ⟨b, o, none⟩) 61 c) ∧ ∀ i x, Pinned.cheatRows[i]? = some x → W.cell? ⟨b, o + i * 2, none⟩ = some (.int .i64 (x.1 : Int)) ∧ W.cell? ⟨b, o + i * 2 + 1, none⟩ = some (.string ⟨x.2.toArray⟩)
  err : ∃ ev, W.cell? ⟨2, 0, none⟩ = some ev ∧ (ev = .nilIface ∨ ∃ te pe, ev = .iface te pe)
theorem LdX.fr {w w' : World} (h : LdX w) (hF : Fr [] w w') : LdX w' := by
  obtain ⟨b1, o1, c1, h1, h2, h3⟩ := h.tens
  obtain ⟨b2, o2, c2, g2, g3⟩ := h.pow
  obtain ⟨b3, o3, c3, k1, k2, k3⟩ := h.cheat
  obtain ⟨ev, e1, e2⟩ := h.err
  exact ⟨h.t.fr hF, cell_keep hF h.opt, ⟨cell_keep hF h.info.1, cell_keep hF h.info.2.1, cell_keep hF h.info.2.2⟩,
    ⟨b1, o1, c1, h1, cell_keep hF h2, fun i x hx => cell_keep hF (h3 i x hx)⟩, ⟨b2, o2, c2, cell_keep hF g2, fun j hj => cell_keep hF (g3 j hj)⟩,
    ⟨b3, o3, c3, k1, cell_keep hF k2, fun i x hx => ⟨cell_keep hF (k3 i x hx).1, cell_keep hF (k3 i x hx).2⟩⟩, ⟨ev, cell_keep hF e1, e2⟩⟩
theorem err_of {W : World} (h : Lib.VarReads Tryz.prog W "strconv.ErrRange" Rows.laid_strconv_ErrRange) : ∃ ev, W.cell? ⟨2, 0, none⟩ = some ev ∧ (ev = .nilIface ∨ ∃ te pe, ev = .iface te pe) := by
  obtain ⟨g, t, cs, fuel, p, hg, hty, hvar, hd⟩ := h
  obtain rfl := Option.some.inj ((show Tryz.prog.globalNamed "strconv.ErrRange" = some 2 by kernel_rfl).symm.trans hg)
  obtain rfl := Option.some.inj ((show (Tryz.prog.globals[2]?).map (·.type) = some 54 by kernel_rfl).symm.trans hty)
  have hc : W.cell? ⟨2, 0, none⟩ = cs.toList[0]? := by rw [World.var?_cell hg hvar, ← Array.getElem?_toList]
  rcases iface_of Tryz.underlying54 hd with e | ⟨te, pe, e⟩
  · exact ⟨.nilIface, by rw [hc, e]; rfl, .inl rfl⟩
  · exact ⟨.iface te pe, by rw [hc, e]; rfl, .inr ⟨te, pe, rfl⟩⟩
theorem ldX_of {W : World} (h : laidMet Tryz.prog listedF W) : LdX W := by
  have L := ldF_of h
  exact ⟨L.t, L.opt, info_of (Lib.laidMet.reads h (by simp [listedF])), tens_all (Lib.laidMet.reads h (by simp [listedF])), powtab_of (Lib.laidMet.reads h (by simp [listedF])),
    cheats_of (Lib.laidMet.reads h (show _ ∈ listedF from by simp [listedF, Rows.laid_internal_strconv_leftcheats])), err_of (Lib.laidMet.reads h (by simp [listedF]))⟩
def tenN (i : Nat) : Nat := tensN[i]?.getD 0
theorem tens_get (i : Nat) (hi : i < 23) : tensN[i]? = some (tenN i) := by
  have : tensN.length = 23 := rfl
  unfold tenN
  rw [List.getElem?_eq_getElem (by omega)]; rfl
end
section
open Go.ChangeShapes Go.WideShapes Go.RowKit Go.Shelf Ieee
theorem wr_num (s : Bool) (m : Nat) (i : Int) : double.write (.number s m i) < 18446744073709551616 ∧ double.write (.number s m i) % 9223372036854775808 ≤ 9218868437227405312 := by
  refine ⟨double.write_lt _, ?_⟩
  have hw : ∀ (neg : Bool) (r : Nat), r ≤ 9218868437227405312 → double.word neg r % 9223372036854775808 ≤ 9218868437227405312 := by
    intro neg r hr
    have e : double.signWeight = 9223372036854775808 := by decide
    unfold Format.word
    rw [e]
    cases neg
    · show r % _ ≤ _; omega
    · show (9223372036854775808 + r) % _ ≤ _; omega
  show double.nearest s m i % _ ≤ _
  unfold Format.nearest
  dsimp only
  split
  · exact hw _ _ (by decide)
  · exact hw _ _ (Nat.le_trans (Nat.min_le_right ..) (by decide))
theorem mul_fin {a b : Nat} (ha : Fin64 a) (hb : Fin64 b) : ∃ r, r < 18446744073709551616 ∧ r % 9223372036854775808 ≤ 9218868437227405312 ∧ floatBits .mul .f64 a b = some r := by
  have e : floatBits .mul .f64 a b = ((double.read a).product (double.read b)).map double.write := rfl
  rw [e, read_fin ha, read_fin hb]
  exact ⟨_, (wr_num _ _ _).1, (wr_num _ _ _).2, rfl⟩
theorem quo_num (d : Nat) (s t : Bool) (m n : Nat) (i j : Int) (h : n ≠ 0) : ∃ (u : Bool) (x : Nat) (y : Int), Datum.quotient d (.number s m i) (.number t n j) = some (.number u x y) := by
  simp only [Datum.quotient, if_neg h]
  exact ⟨_, _, _, rfl⟩
theorem div_fin {a b : Nat} (ha : Fin64 a) (hb : Fin64 b) (h0 : rq (b % 9223372036854775808) ≠ 0) : ∃ r, r < 18446744073709551616 ∧ r % 9223372036854775808 ≤ 9218868437227405312 ∧ floatBits .quo .f64 a b = some r := by
  have e : floatBits .quo .f64 a b = ((double.read a).quotient (double.fractionBits + 2) (double.read b)).map double.write := rfl
  rw [e, read_fin ha, read_fin hb]
  obtain ⟨u, x, y, h⟩ := quo_num (double.fractionBits + 2) (a / 9223372036854775808 % 2 == 1) (b / 9223372036854775808 % 2 == 1) (rq (a % 9223372036854775808)) (rq (b % 9223372036854775808)) (-1074 + re (a % 9223372036854775808)) (-1074 + re (b % 9223372036854775808)) h0
  rw [h]
  exact ⟨_, (wr_num _ _ _).1, (wr_num _ _ _).2, rfl⟩
theorem ten_fin (i : Nat) (hi : i < 23) : Fin64 (tenN i) ∧ rq (tenN i % 9223372036854775808) ≠ 0 := by
  have key : ∀ i, i < 23 → tenN i % 9223372036854775808 < 9218868437227405312 ∧ rq (tenN i % 9223372036854775808) ≠ 0 := by decide
  exact key i hi
end
end Go.Proofs.YtcjkgnafpkkjmaaGreatDoor
