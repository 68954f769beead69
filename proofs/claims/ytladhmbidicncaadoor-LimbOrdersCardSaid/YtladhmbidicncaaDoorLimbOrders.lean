/- LimbOrders: any limbs trimmed, which of any two is less, and the limbs of any small number; they stay. No condition. The row lists three tables of Go's library, tied to the program's text by the card. -/
import Derived.Test.YtladhmbidicncaaDoorLawC
namespace Go.Proofs.YtladhmbidicncaaDoor.limbOrders
open Go.ChangeShapes Go.WideShapes Go.RowKit Go.Proofs.YtladhmbidicncaaDoor
theorem wf_u64 {z : Int} (h : (Lit.int .u64 z).wf = true) : ∃ k : Nat, z = k ∧ k ≤ 18446744073709551615 := by
  simp [Lit.wf, IntKind.min, IntKind.max, IntKind.bits, IntKind.signed] at h
  exact ⟨z.toNat, by omega, by omega⟩
theorem drop_le (L : List Nat) (k : Nat) : val (L.drop k) ≤ val L := by
  rw [val_take_drop L k]
  have := Nat.le_mul_of_pos_left (val (L.drop k)) (pow_pos' k)
  omega
set_option maxRecDepth 100000 in
set_option maxHeartbeats 4000000 in
theorem walk (a1 : Option Addr) (n1 c1 : Nat) (L : List Nat) (a2 : Option Addr) (n2 c2 : Nat) (M : List Nat) (z : Int) (W : World) (h1 : InA W a1 n1 c1 L) (h2 : InA W a2 n2 c2 M) (hz : (Lit.int .u64 z).wf = true) (hT : Tab W) :
    Calls Tryd.prog 5 #[.slice a1 n1 c1, .slice a2 n2 c2, .int .u64 z] W fun e W' => e = .returned (.bool true) ∧ Below W.heap.size W W' := by
  have HT := Lib.hid hT
  have H1 := Lib.hid h1
  have H2 := Lib.hid h2
  obtain ⟨kk, rfl, hkk⟩ := wf_u64 hz
  clear hT h1 h2 hz
  by_cases g1 : 200 < n1
  · go_enter Tryd.func5, Tryd.ntmps5
    go_wp2_with fail
    refine (limbAlive_c W HT.out).mono ?_
    rintro e w1 ⟨rfl, F1⟩
    have F1 := Lib.hid F1
    go_wp2
    go_ret
    exact ⟨rfl, F1.out.below⟩
  · by_cases g2 : 200 < n2
    · go_enter Tryd.func5, Tryd.ntmps5
      go_wp2_with fail
      refine (limbAlive_c W HT.out).mono ?_
      rintro e w1 ⟨rfl, F1⟩
      have F1 := Lib.hid F1
      go_wp2
      go_ret
      exact ⟨rfl, F1.out.below⟩
    · have A1 := Lib.hid (H1.out.in (by omega))
      have A2 := Lib.hid (H2.out.in (by omega))
      have e1 := H1.out.len
      have e2 := H2.out.len
      subst e1
      subst e2
      clear H1 H2
      obtain ⟨n, hn⟩ : ∃ n, n = val L := ⟨_, rfl⟩
      obtain ⟨m, hm⟩ : ∃ m, m = val M := ⟨_, rfl⟩
      have HN := Lib.hid hn
      have HM := Lib.hid hm
      clear hn hm
      have LLT : Hid ((lims n).length ≤ 2 ↔ n < 18446744073709551616) := Lib.hid (len_lims (k := 2))
      have LO := Lib.hid (fun W' => lof_c W' kk (by omega))
      have RO := Lib.hid (fun W' => r1of_c W' kk (by omega))
      have KS : Hid (∀ W' a c, In W' a c (lims kk) → Calls Tryd.prog 29 #[.slice a (lims kk).length c] W' fun e w' => e = .returned (.tuple #[.int .u64 (kk : Int), .bool true]) ∧ Fr [] W' w') := Lib.hid (fun W' a c h => (small_c W' h).mono (fun e w' hr => by
        unfold SmallR at hr
        rw [val_lims, if_pos (by omega)] at hr
        exact hr))
      by_cases hsm : n < 18446744073709551616
      · have SL : Hid (∀ W' a c, In W' a c L → Calls Tryd.prog 29 #[.slice a L.length c] W' fun e w' => e = .returned (.tuple #[.int .u64 (n : Int), .bool true]) ∧ Fr [] W' w') := Lib.hid (fun W' a c h => (small_c W' h).mono (fun e w' hr => by
          unfold SmallR at hr
          rw [← HN.out, if_pos hsm] at hr
          exact hr))
        have hl2 : ((lims n).length : Int) ≤ 2 := by have := LLT.out.2 hsm; omega
        have DB : Hid (∀ k, val (L.drop k) ≤ 18446744073709551615) := Lib.hid (fun k => by have := drop_le L k; rw [← HN.out] at this; omega)
        clear hsm LLT
        go_enter Tryd.func5, Tryd.ntmps5
        go_wp2_with fail
        refine (limbAlive_c W HT.out).mono ?_
        rintro e w1 ⟨rfl, F1⟩
        have F1 := Lib.hid F1
        have hB1 := F1.out.size
        have X1 := Lib.hid (A1.out.keep F1.out)
        go_wp2_with (at_builtin; refine wpList_copy (B := W.heap.size) (w0 := w1) (L := L) rfl _ _ rfl rfl hB1 rfl X1.out rfl ?_; intro a3 c3 w3 N3 F3; have G3 := Lib.hid (F1.out.same F3); have X3 := Lib.hid N3.in)
        clear X1 F1
        refine (SL.out w3 _ _ X3.out).mono ?_
        rintro e w4 ⟨rfl, F4⟩
        have X4 := Lib.hid (X3.out.keep F4)
        have G4 := Lib.hid (G3.out.same F4)
        clear X3 G3
        have CT4 := Lib.hid (r1trim_c w4 (A1.out.keep G4.out))
        rw [← HN.out] at CT4
        go_wp2_with fail
        refine CT4.out.mono ?_
        rintro e w5 ⟨a5, c5, rfl, N5, F5⟩
        have X5 := Lib.hid (X4.out.keep F5)
        have G5 := Lib.hid (G4.out.same F5)
        clear N5 X4 G4 CT4
        go_wp2_with fail
        go_loopw [11, 12] (fun s11 s12 wr => ∃ k : Nat, k ≤ L.length ∧ s12 = .int .i64 ((k : Int) - 1) ∧ s11 = .int .u64 ((val (L.drop k) : Nat) : Int) ∧ wr = w5) (fun _ x _ => (intOf x + 1).toNat)
        case atStart => exact ⟨L.length, Nat.le_refl _, by first | rfl | (congr 1; omega), by rw [List.drop_length]; rfl, rfl⟩
        case round =>
          obtain ⟨k, hk, rfl, rfl, rfl⟩ := hrel
          cases k with
          | succ j =>
            rw [show (((j + 1 : Nat) : Int) - 1) = (j : Int) from by omega]
            have hj : j < L.length := by omega
            obtain ⟨bb, bo, rfl, bl, bc⟩ := (A1.out.keep G5.out).at hj
            have bx := lim_get A1.out.lim j
            have VD := Lib.hid (val_drop L j)
            have hb := DB.out j
            rw [VD.out] at hb
            generalize L[j]?.getD 0 = x at *
            obtain ⟨v, hv⟩ : ∃ v, v = val (L.drop (j + 1)) := ⟨_, rfl⟩
            rw [← hv] at hb VD ⊢
            obtain ⟨T, hTe⟩ : ∃ T, T = val (L.drop j) := ⟨_, rfl⟩
            have HTE := Lib.hid hTe
            have eI : (v : Int) * 4294967296 + (x : Int) = (T : Int) := by rw [hTe, VD.out]; omega
            have hTb : T ≤ 18446744073709551615 := by rw [hTe, VD.out]; omega
            have hvb : (v : Int) * 4294967296 ≤ 18446744073709551615 := by omega
            clear hv VD hTe hb
            go_wp2
            go_roundw
            case rel => exact ⟨j, by omega, by first | rfl | go_num, by rw [← HTE.out], by first | rfl | trivial⟩
            case measure => simp [intOf]
          | zero =>
            rw [show (((0 : Nat) : Int) - 1) = -1 from rfl]
            rw [List.drop_zero, ← HN.out]
            go_wp2_with fail
            refine (LO.out wr).mono ?_
            rintro e w6 ⟨a6, c6, rfl, N6, F6⟩
            have N6 := Lib.hid N6
            have X6 := Lib.hid (X5.out.keep F6)
            have G6 := Lib.hid (G5.out.same F6)
            clear X5 G5
            go_wp2_with fail
            refine (KS.out w6 _ _ N6.out.in).mono ?_
            rintro e w7 ⟨rfl, F7⟩
            have X7 := Lib.hid (X6.out.keep F7)
            have G7 := Lib.hid (G6.out.same F7)
            have CT := Lib.hid (ltrim_c w7 X7.out)
            rw [← HN.out] at CT
            clear X6 G6 N6
            go_wp2_with fail
            refine CT.out.mono ?_
            rintro e w8 ⟨a8, c8, rfl, N8, F8⟩
            have T8 := Lib.hid N8.in
            have X8 := Lib.hid (X7.out.keep F8)
            have G8 := Lib.hid (G7.out.same F8)
            have CR := Lib.hid (r1trim_c w8 (A1.out.keep G8.out))
            rw [← HN.out] at CR
            clear N8 X7 G7 CT
            go_wp2_with fail
            refine CR.out.mono ?_
            rintro e w9 ⟨a9, c9, rfl, N9, F9⟩
            have X9 := Lib.hid (X8.out.keep F9)
            have G9 := Lib.hid (G8.out.same F9)
            have CS := Lib.hid (r1same_c w9 (T8.out.keep F9) N9.in)
            simp only [decide_true] at CS
            clear N9 X8 G8 CR T8
            go_wp2_with fail
            refine CS.out.mono ?_
            rintro e w10 ⟨rfl, F10⟩
            have X10 := Lib.hid (X9.out.keep F10)
            have G10 := Lib.hid (G9.out.same F10)
            have CC := Lib.hid (lcmp_c w10 X10.out (A2.out.keep G10.out))
            rw [← HN.out, ← HM.out] at CC
            clear X9 G9 CS
            go_wp2_with fail
            refine CC.out.mono ?_
            rintro e w11 ⟨rfl, F11⟩
            have X11 := Lib.hid (X10.out.keep F11)
            have G11 := Lib.hid (G10.out.same F11)
            have CD := Lib.hid (r1cmp_c w11 (A1.out.keep G11.out) (A2.out.keep G11.out))
            rw [← HN.out, ← HM.out] at CD
            clear X10 G10 CC
            go_wp2_with fail
            refine CD.out.mono ?_
            rintro e w12 ⟨rfl, rfl⟩
            have EQ : (cmpN n m == cmpN n m) = true := beq_self_eq_true _
            clear CD
            go_wp2_with fail
            refine (LO.out w11).mono ?_
            rintro e w13 ⟨a13, c13, rfl, N13, F13⟩
            have O13 := Lib.hid N13.in
            have X13 := Lib.hid (X11.out.keep F13)
            have G13 := Lib.hid (G11.out.same F13)
            clear N13 X11 G11
            go_wp2_with fail
            refine (RO.out w13).mono ?_
            rintro e w14 ⟨a14, c14, rfl, N14, F14⟩
            have X14 := Lib.hid (X13.out.keep F14)
            have G14 := Lib.hid (G13.out.same F14)
            have CE := Lib.hid (r1same_c w14 (O13.out.keep F14) N14.in)
            simp only [decide_true] at CE
            clear N14 X13 G13 O13
            go_wp2_with fail
            refine CE.out.mono ?_
            rintro e w15 ⟨rfl, F15⟩
            have G15 := Lib.hid (G14.out.same F15)
            have CF := Lib.hid (r1same_c w15 (X14.out.keep F15) (A1.out.keep G15.out))
            simp only [decide_true] at CF
            clear X14 G14 CE
            go_wp2_with fail
            refine CF.out.mono ?_
            rintro e w16 ⟨rfl, F16⟩
            have D := Lib.hid (G15.out.same F16).below
            clear F16
            go_wp2
            go_ret
            exact ⟨rfl, D.out⟩
      · have SL : Hid (∀ W' a c, In W' a c L → Calls Tryd.prog 29 #[.slice a L.length c] W' fun e w' => e = .returned (.tuple #[.int .u64 0, .bool false]) ∧ Fr [] W' w') := Lib.hid (fun W' a c h => (small_c W' h).mono (fun e w' hr => by
          unfold SmallR at hr
          rw [← HN.out, if_neg hsm] at hr
          exact hr))
        have hl2 : ¬ ((lims n).length : Int) ≤ 2 := by intro h; exact hsm (LLT.out.1 (by omega))
        clear hsm LLT
        go_enter Tryd.func5, Tryd.ntmps5
        go_wp2_with fail
        refine (limbAlive_c W HT.out).mono ?_
        rintro e w1 ⟨rfl, F1⟩
        have F1 := Lib.hid F1
        have hB1 := F1.out.size
        have X1 := Lib.hid (A1.out.keep F1.out)
        go_wp2_with (at_builtin; refine wpList_copy (B := W.heap.size) (w0 := w1) (L := L) rfl _ _ rfl rfl hB1 rfl X1.out rfl ?_; intro a3 c3 w3 N3 F3; have G3 := Lib.hid (F1.out.same F3); have X3 := Lib.hid N3.in)
        clear X1 F1
        refine (SL.out w3 _ _ X3.out).mono ?_
        rintro e w4 ⟨rfl, F4⟩
        have X4 := Lib.hid (X3.out.keep F4)
        have G4 := Lib.hid (G3.out.same F4)
        clear X3 G3
        have CT4 := Lib.hid (r1trim_c w4 (A1.out.keep G4.out))
        rw [← HN.out] at CT4
        go_wp2_with fail
        refine CT4.out.mono ?_
        rintro e w5 ⟨a5, c5, rfl, N5, F5⟩
        have X5 := Lib.hid (X4.out.keep F5)
        have G5 := Lib.hid (G4.out.same F5)
        clear N5 X4 G4 CT4
        go_wp2_with fail
        go_loopw [11, 12] (fun s11 s12 wr => s12 = .int .i64 ((L.length : Int) - 1) ∧ s11 = .int .u64 0 ∧ wr = w5) (fun _ _ _ => 0)
        case atStart => exact ⟨by first | rfl | (congr 1; omega), rfl, rfl⟩
        case round =>
          obtain ⟨rfl, rfl, rfl⟩ := hrel
          go_wp2_with fail
          refine (LO.out wr).mono ?_
          rintro e w6 ⟨a6, c6, rfl, N6, F6⟩
          have N6 := Lib.hid N6
          have X6 := Lib.hid (X5.out.keep F6)
          have G6 := Lib.hid (G5.out.same F6)
          clear X5 G5
          go_wp2_with fail
          refine (KS.out w6 _ _ N6.out.in).mono ?_
          rintro e w7 ⟨rfl, F7⟩
          have X7 := Lib.hid (X6.out.keep F7)
          have G7 := Lib.hid (G6.out.same F7)
          have CT := Lib.hid (ltrim_c w7 X7.out)
          rw [← HN.out] at CT
          clear X6 G6 N6
          go_wp2_with fail
          refine CT.out.mono ?_
          rintro e w8 ⟨a8, c8, rfl, N8, F8⟩
          have T8 := Lib.hid N8.in
          have X8 := Lib.hid (X7.out.keep F8)
          have G8 := Lib.hid (G7.out.same F8)
          have CR := Lib.hid (r1trim_c w8 (A1.out.keep G8.out))
          rw [← HN.out] at CR
          clear N8 X7 G7 CT
          go_wp2_with fail
          refine CR.out.mono ?_
          rintro e w9 ⟨a9, c9, rfl, N9, F9⟩
          have X9 := Lib.hid (X8.out.keep F9)
          have G9 := Lib.hid (G8.out.same F9)
          have CS := Lib.hid (r1same_c w9 (T8.out.keep F9) N9.in)
          simp only [decide_true] at CS
          clear N9 X8 G8 CR T8
          go_wp2_with fail
          refine CS.out.mono ?_
          rintro e w10 ⟨rfl, F10⟩
          have X10 := Lib.hid (X9.out.keep F10)
          have G10 := Lib.hid (G9.out.same F10)
          have CC := Lib.hid (lcmp_c w10 X10.out (A2.out.keep G10.out))
          rw [← HN.out, ← HM.out] at CC
          clear X9 G9 CS
          go_wp2_with fail
          refine CC.out.mono ?_
          rintro e w11 ⟨rfl, F11⟩
          have X11 := Lib.hid (X10.out.keep F11)
          have G11 := Lib.hid (G10.out.same F11)
          have CD := Lib.hid (r1cmp_c w11 (A1.out.keep G11.out) (A2.out.keep G11.out))
          rw [← HN.out, ← HM.out] at CD
          clear X10 G10 CC
          go_wp2_with fail
          refine CD.out.mono ?_
          rintro e w12 ⟨rfl, rfl⟩
          have EQ : (cmpN n m == cmpN n m) = true := beq_self_eq_true _
          clear CD
          go_wp2_with fail
          refine (LO.out w11).mono ?_
          rintro e w13 ⟨a13, c13, rfl, N13, F13⟩
          have O13 := Lib.hid N13.in
          have X13 := Lib.hid (X11.out.keep F13)
          have G13 := Lib.hid (G11.out.same F13)
          clear N13 X11 G11
          go_wp2_with fail
          refine (RO.out w13).mono ?_
          rintro e w14 ⟨a14, c14, rfl, N14, F14⟩
          have X14 := Lib.hid (X13.out.keep F14)
          have G14 := Lib.hid (G13.out.same F14)
          have CE := Lib.hid (r1same_c w14 (O13.out.keep F14) N14.in)
          simp only [decide_true] at CE
          clear N14 X13 G13 O13
          go_wp2_with fail
          refine CE.out.mono ?_
          rintro e w15 ⟨rfl, F15⟩
          have G15 := Lib.hid (G14.out.same F15)
          have CF := Lib.hid (r1same_c w15 (X14.out.keep F15) (A1.out.keep G15.out))
          simp only [decide_true] at CF
          clear X14 G14 CE
          go_wp2_with fail
          refine CF.out.mono ?_
          rintro e w16 ⟨rfl, F16⟩
          have D := Lib.hid (G15.out.same F16).below
          clear F16
          go_wp2
          go_ret
          exact ⟨rfl, D.out⟩
set_option maxRecDepth 100000 in
theorem lifted (os : Os) (started : os.Started) (H : Type) (enc : TypeId × Value → H) :
    ReturnsInHanded {} Tryd.checked os 5 .any (fun w args => (Rows.limbOrdersSpec.pre enc Tryd.prog Tryd.f5 [] false w args ∧ laidMetH Tryd.prog listed w) ∧ sizedMet enc Tryd.prog Tryd.f5 (OpenSpec.ofChange Rows.limbOrdersSpec) false w args) (Rows.limbOrdersSpec.post enc Tryd.prog Tryd.f5 false true false false) := by
  refine returnsInHanded_of_change_and (C := Tryd.checked) (X := fun w _ => laidMetH Tryd.prog listed w) (fun _ _ _ hh h => h.of_heap hh) own started (by kernel_rfl) Tryd.func5
    (ChangeSpec.witness_shaped (enc := enc) (C := Tryd.checked) (os := os) (X := fun w _ => laidMetH Tryd.prog listed w) false (World.doorLaid Tryd.prog 24 os) #[.slice none 0 0, .slice none 0 0, .int .u64 0] 8 rfl (World.shaped_of_RefB (by kernel_rfl) (by kernel_rfl)) (by kernel_rfl) (by kernel_rfl) (by kernel_rfl) (door_met os _)) ?_
  intro W base args ds gs before hval0 hW _ _ hL _
  have hT := tab_of_laid hL
  have hval : ∀ (j : Nat) t v, Tryd.f5.params[j]? = some t → args[j]? = some v → Value.okWide Tryd.prog W .any base t v := hval0
  have hW' := hW
  obtain ⟨p, q, hA0, hV, rfl, hfz, hnd⟩ := hW
  have hA : DataW.TrodAll enc Tryd.prog W 0 (fun _ => true) true Tryd.f5.params.toList args.toList ds p := hA0
  rw [Tryd.params5] at hA hval
  obtain ⟨v0, vs0, d0, ds0, p0, q0, hargs, rfl, rfl, h0, r0⟩ := trodAll_cons hA
  obtain ⟨v1, vs1, d1, ds1, p1, q1, rfl, rfl, rfl, h1, r1⟩ := trodAll_cons r0
  obtain ⟨v2, vs2, d2, ds2, p2, q2, rfl, rfl, rfl, h2, r2⟩ := trodAll_cons r1
  obtain ⟨rfl, rfl, rfl⟩ := trodAll_nil r2
  obtain rfl : args = #[v0, v1, v2] := by cases args; simp_all
  obtain ⟨rfl, rfl⟩ := trodVars_none hV
  obtain ⟨a0, len0, cap0, rfl⟩ := okWide_slice Tryd.underlying22 (hval 0 22 v0 rfl rfl)
  have k0 := h0
  have lt0 : ∀ x ∈ p0, x.block < W.heap.size := by obtain ⟨m, hm⟩ := k0; exact DataW.trod_lt m _ _ _ hm
  obtain ⟨z0, w0⟩ := open_u32s h0
  obtain ⟨a1, len1, cap1, rfl⟩ := okWide_slice Tryd.underlying22 (hval 1 22 v1 rfl rfl)
  have k1 := h1
  have lt1 : ∀ x ∈ p1, x.block < W.heap.size := by obtain ⟨m, hm⟩ := k1; exact DataW.trod_lt m _ _ _ hm
  obtain ⟨z1, w1⟩ := open_u32s h1
  obtain ⟨a2, rfl, rfl, rfl, w2⟩ := open_int Tryd.underlying35 (hval 2 35 v2 rfl rfl) h2
  clear hA0 hval0
  refine (walk a0 len0 cap0 z0 a1 len1 cap1 z1 a2 W w0 w1 w2 hT).mono fun e W' ⟨he, bel⟩ => ?_
  subst he
  exact ⟨_, rfl, _, _, _, [], _, [], hW', trodAll_mk1 (shut_bool Tryd.underlying4 _), (trodAll_cons_mk (Below.trod laidOut (by kernel_rfl) (of_decide_eq_true (by kernel_rfl)) k0 bel lt0) (trodAll_cons_mk (Below.trod laidOut (by kernel_rfl) (of_decide_eq_true (by kernel_rfl)) k1 bel lt1) (trodAll_cons_mk (shut_int Tryd.underlying35 w2) trodAll_mk0))), rfl, bel.frame _, fun h => by cases h⟩
theorem over : Rows.limbOrdersRow.holds Tryd.pinned (OpenSpec.ofChange Rows.limbOrdersSpec) :=
  OpenClaim.holds_of_wide 5 Tryd.f5 rfl rfl rfl rfl rfl rfl rfl ⟨rfl, rfl, rfl, rfl, rfl⟩ rfl rfl rfl rfl rfl (by kernel_rfl) Tryd.func5 (by kernel_rfl)
    (of_decide_eq_true (by kernel_rfl)) (by unfold Func.isWrapper; first | (rw [if_pos (by decide +kernel)]; kernel_rfl) | (rw [if_neg (by decide +kernel)]; exact ⟨rfl, rfl⟩))
    (fun os started H enc _ => lifted os started H enc)
/-- THE STATEMENT -/
theorem proved : Rows.LimbOrdersCardSaid :=
  Claim7.holds_tied_plain_at .later [] [.data, .data, .data] true (true, "ea8df5c1a0e302ec682270425c9a8cf6ae00272b589ccfc6cc1f4d10a9599452") false
    over (fun _ h => by cases h) (by kernel_rfl) (fun _ h => by cases h) limbOrders_row_tie rfl ⟨rfl, rfl⟩ (by kernel_rfl) rfl
    (fun f fn hf hfn => by
      obtain rfl : f = 5 := Option.some.inj ((show Tryd.prog.funcNamed "distaff/distafflaw01.LimbOrders" = some 5 by kernel_rfl).symm.trans hf) |>.symm
      obtain rfl : fn = Tryd.f5 := (Option.some.inj (Tryd.func5.symm.trans hfn)).symm
      exact ⟨by kernel_rfl, fun j t ht => by
        rw [Tryd.params5] at ht
        have hm : t ∈ [22, 35] := by have := Array.mem_of_getElem? ht; simp at this ⊢; omega
        have hall : ([22, 35].all fun u => !Tryd.prog.wantsStandIn u) = true := by kernel_rfl
        exact (show Tryd.prog.wantsStandIn t = false by simpa using List.all_eq_true.1 hall t hm)⟩)
    (by kernel_rfl)
#print axioms proved
end Go.Proofs.YtladhmbidicncaaDoor.limbOrders
