/- Limbs: products. -/
import Derived.Test.YtjdanblijcdllaaGreatDoorLimbC
set_option linter.all false
namespace Go.Proofs.YtjdanblijcdllaaGreatDoor
open Go.ChangeShapes Go.WideShapes Go.RowKit
variable {w w' w2 wr : World} {a b : Option Addr} {cap cap2 : Nat} {L M : List Nat} {B : Nat}
/-- So many rows of a product. -/
structure MulInv (n m : Nat) (O : List Nat) (i : Nat) : Prop where
  len : O.length = (lims n).length + (lims m).length
  v : val O = val ((lims n).take i) * m
  z : ∀ j, i + (lims m).length ≤ j → O[j]?.getD 0 = 0
/-- A row, so far. -/
structure RowInv (n m : Nat) (i x : Nat) (O : List Nat) (k c : Nat) : Prop where
  len : O.length = (lims n).length + (lims m).length
  v : val O + 4294967296 ^ (i + k) * c = val ((lims n).take i) * m + 4294967296 ^ i * (x * val ((lims m).take k))
  z : ∀ j, i + (lims m).length ≤ j → O[j]?.getD 0 = 0
  c1 : c < 4294967296
theorem MulInv.start (n m : Nat) : MulInv n m (nils ((lims n).length + (lims m).length)) 0 := ⟨len_nils _, by rw [val_nils]; simp [val], fun j _ => nils_get _ _⟩
theorem MulInv.row {n m i : Nat} {O : List Nat} (h : MulInv n m O i) (x : Nat) : RowInv n m i x O 0 0 := ⟨h.len, by rw [h.v]; simp [val], h.z, by decide⟩
theorem get_set_ne {O : List Nat} {p j v : Nat} (h : j ≠ p) : (O.set p v)[j]?.getD 0 = O[j]?.getD 0 := by rw [List.getElem?_set_ne (by omega)]
theorem RowInv.step {n m i x k c : Nat} {O : List Nat} (h : RowInv n m i x O k c) (hO : Lim O) (hx : x < 4294967296) (hi : i < (lims n).length) (hk : k < (lims m).length) :
    RowInv n m i x (O.set (i + k) ((x * (lims m)[k]?.getD 0 + O[i + k]?.getD 0 + c) % 4294967296)) (k + 1) ((x * (lims m)[k]?.getD 0 + O[i + k]?.getD 0 + c) / 4294967296) := by
  have hy := lim_get (lim_lims m) k
  have hz := lim_get hO (i + k)
  refine ⟨by simp [h.len], ?_, fun j hj => ?_, (mul_carry hx hy hz h.c1).2⟩
  · rw [val_take_succ (lims m) k]
    exact mul_step h.v (val_set O (i + k) _ (by rw [h.len]; omega))
  · rw [get_set_ne (by omega)]; exact h.z j hj
theorem RowInv.done {n m i c : Nat} {O : List Nat} (h : RowInv n m i ((lims n)[i]?.getD 0) O (lims m).length c) (hi : i < (lims n).length) : MulInv n m (O.set (i + (lims m).length) c) (i + 1) := by
  refine ⟨by simp [h.len], ?_, fun j hj => ?_⟩
  · have h1 := val_set O (i + (lims m).length) c (by rw [h.len]; omega)
    rw [h.z _ (Nat.le_refl _), Nat.mul_zero, Nat.add_zero] at h1
    rw [h1, h.v, List.take_of_length_le (Nat.le_refl _), val_lims, val_take_succ (lims n) i, Nat.add_mul, Nat.mul_assoc]
  · rw [get_set_ne (by omega)]; exact h.z j (by omega)
theorem MulInv.done {n m : Nat} {O : List Nat} (h : MulInv n m O (lims n).length) : val O = n * m := by
  rw [h.v, List.take_of_length_le (Nat.le_refl _), val_lims]
theorem wrap64_in (x : Int) (h0 : 0 ≤ x) (h1 : x < 18446744073709551616) : IntKind.u64.wrap x = x := by rw [IntKind.wrap_u64]; omega
theorem decide_and_b (p q : Prop) [Decidable p] [Decidable q] : decide (p ∧ q) = (decide p && decide q) := by by_cases hp : p <;> by_cases hq : q <;> simp [hp, hq]
set_option maxHeartbeats 2000000 in
set_option maxRecDepth 100000 in
theorem lmul_c (w : World) (ha : In w a cap L) (hb : In w b cap2 M) : Calls Tryz.prog 155 #[.slice a L.length cap, .slice b M.length cap2] w (CapR w (fits (val L) && fits (val M) && fits (val L * val M)) (val L * val M)) := by
  have HA := Lib.hid ha
  have HB := Lib.hid hb
  clear ha hb
  generalize hn : val L = n at *
  generalize hm : val M = m at *
  have HN := Lib.hid hn
  have HM := Lib.hid hm
  clear hn hm
  by_cases hbig : (lims n).length ≤ 64 ∧ (lims m).length ≤ 64
  · obtain ⟨hx, hy⟩ := hbig
    have hfn : (fits n && fits m && fits (n * m)) = fits (n * m) := by
      rw [fits_len n, fits_len m, decide_eq_true hx, decide_eq_true hy]; simp
    rw [hfn]
    have bx : decide (64 < (lims n).length) = false := by simpa using hx
    have by_ : decide (64 < (lims m).length) = false := by simpa using hy
    have BX := Lib.hid bx
    have BY := Lib.hid by_
    clear bx by_ hfn
    have MK : ∀ W : World, (Instr.makeSlice 23 (.int .i64 (((lims n).length : Int) + (lims m).length)) (.int .i64 (((lims n).length : Int) + (lims m).length))).run Tryz.prog W = .ok (.slice (some ⟨W.heap.size, 0, none⟩) ((lims n).length + (lims m).length) ((lims n).length + (lims m).length)) (W.alloc (.cells (lc (nils ((lims n).length + (lims m).length))).toArray 108)) := fun W => by
      have := run_u32s W ((lims n).length + (lims m).length) ((lims n).length + (lims m).length) (by omega) (by omega)
      simpa using this
    go_enter Tryz.func155, Tryz.ntmps155
    go_wp2_with fail
    refine (ltrim_c w HA.out).mono ?_
    rintro e w1 ⟨a1, c1, rfl, N1, F1⟩
    rw [HN.out] at N1 ⊢
    have HB1 := Lib.hid (HB.out.keep F1)
    have N1 := Lib.hid N1
    have F1 := Lib.hid F1
    go_wp2_with fail
    refine (ltrim_c w1 HB1.out).mono ?_
    rintro e w2 ⟨a2, c2, rfl, N2, F2⟩
    rw [HM.out] at N2 ⊢
    have X := Lib.hid (N1.out.keep F2).in
    have Y := Lib.hid N2.in
    have FF := Lib.hid (F1.out.same F2)
    clear N2 F2 N1 F1 HB1 HA HB
    go_wp2_with fail
    refine (lbig_c _ _ _ _).mono ?_
    rintro e w' ⟨rfl, rfl⟩
    rw [BX.out]
    go_wp2_with fail
    refine (lbig_c _ _ _ _).mono ?_
    rintro e w' ⟨rfl, rfl⟩
    rw [BY.out]
    go_wp2_with fail
    have N0 : Hid (Nw (w2.alloc (.cells (lc (nils ((lims n).length + (lims m).length))).toArray 108)) w2.heap.size (some ⟨w2.heap.size, 0, none⟩) ((lims n).length + (lims m).length) (nils ((lims n).length + (lims m).length))) := Lib.hid (Nw.made w2 _ _ (Nat.le_refl _) (Nat.le_refl _) (by omega))
    have F0 : Hid (Fr [] w2 (w2.alloc (.cells (lc (nils ((lims n).length + (lims m).length))).toArray 108))) := Lib.hid ((Fr.refl [] _).alloc _)
    go_loopw [31, 7, 8, 9, 10, 11, 12] (fun s31 _ _ _ _ _ _ wr => ∃ (O : List Nat) (i : Nat), i ≤ (lims n).length ∧ s31 = .int .i64 (i : Int) ∧ MulInv n m O i ∧ Hid (Nw wr w2.heap.size (some ⟨w2.heap.size, 0, none⟩) ((lims n).length + (lims m).length) O) ∧ Hid (Fr [] w2 wr)) (fun x _ _ _ _ _ _ _ => (lims n).length - (intOf x).toNat)
    case atStart => exact ⟨_, 0, by omega, rfl, MulInv.start n m, N0, F0⟩
    case round =>
      obtain ⟨wo, rfl⟩ : ∃ wo : World, wo = wr := ⟨_, rfl⟩
      obtain ⟨O, i, hi, rfl, hV, hN, hF⟩ := hrel
      have HLEN := Lib.hid hV.len
      by_cases hlt : i < (lims n).length
      · obtain ⟨xb, xo, rfl, xl, xc⟩ := (X.out.keep hF.out).at hlt
        have bx := lim_get (lim_lims n) i
        have R0 := hV.row ((lims n)[i]?.getD 0)
        obtain ⟨x, hx⟩ : ∃ x, x = (lims n)[i]?.getD 0 := ⟨_, rfl⟩
        have HX := Lib.hid hx
        rw [← hx] at xc bx R0
        clear hx hV
        have ii1 : (i : Int) < ((lims n).length : Int) := by omega
        go_wp2_with fail
        go_loopw [38, 10, 11, 12, 9] (fun s38 _ _ _ s9 wr => ∃ (O : List Nat) (k c : Nat), k ≤ (lims m).length ∧ s38 = .int .i64 (k : Int) ∧ s9 = .int .u64 (c : Int) ∧ RowInv n m i x O k c ∧ Hid (Nw wr w2.heap.size (some ⟨w2.heap.size, 0, none⟩) ((lims n).length + (lims m).length) O) ∧ Hid (Fr [] w2 wr)) (fun x _ _ _ _ _ => (lims m).length - (intOf x).toNat)
        case atStart => exact ⟨O, 0, 0, by omega, rfl, rfl, R0, hN, hF⟩
        case round =>
          obtain ⟨O, k, c, hk, rfl, rfl, hR, hN, hF⟩ := hrel
          have HLEN := Lib.hid hR.len
          have hc1 := hR.c1
          by_cases hlt2 : k < (lims m).length
          · obtain ⟨yb, yo, rfl, yl, yc⟩ := (Y.out.keep hF.out).at hlt2
            have hp : i + k < O.length := by rw [HLEN.out]; omega
            have zc := hN.out.cell hp
            have fz := hN.out.free (i + k)
            have by_ := lim_get (lim_lims m) k
            have bz := lim_get hN.out.lim (i + k)
            obtain ⟨y, hy⟩ : ∃ y, y = (lims m)[k]?.getD 0 := ⟨_, rfl⟩
            obtain ⟨z, hz⟩ : ∃ z, z = O[i + k]?.getD 0 := ⟨_, rfl⟩
            have RS : Hid (RowInv n m i x (O.set (i + k) ((x * y + z + c) % 4294967296)) (k + 1) ((x * y + z + c) / 4294967296)) := Lib.hid (by rw [hy, hz]; exact hR.step hN.out.lim bx hlt hlt2)
            rw [← hy] at yc by_
            rw [← hz] at zc bz
            obtain ⟨P, hP⟩ : ∃ P : Nat, P = x * y := ⟨_, rfl⟩
            have hPb : P ≤ 18446744065119617025 := by rw [hP]; exact Nat.le_trans (Nat.mul_le_mul (show x ≤ 4294967295 by omega) (show y ≤ 4294967295 by omega)) (by decide)
            have hPI : (x : Int) * (y : Int) = (P : Int) := by rw [hP]; simp
            rw [← hP] at RS
            have hz2 : (P + z + c) % 4294967296 < 4294967296 := Nat.mod_lt _ (by decide)
            have q1 : ((P : Int) + z + c) % 4294967296 = (((P + z + c) % 4294967296 : Nat) : Int) := by omega
            have q2 : ((P : Int) + z + c) / 4294967296 = (((P + z + c) / 4294967296 : Nat) : Int) := by omega
            generalize (P + z + c) % 4294967296 = z2 at *
            generalize (P + z + c) / 4294967296 = c2 at *
            have R1 := RS.out
            have NS := Lib.hid (hN.out.set (i + k) z2 hz2)
            have FS : Hid (Fr [] w2 (wr.setCell ⟨w2.heap.size, i + k, none⟩ (.int .u32 (z2 : Int)))) := Lib.hid (hF.out.setCell (.inr (Nat.le_refl _)) _)
            have zl := hN.out.lt.1
            have kk1 : (k : Int) < ((lims m).length : Int) := by omega
            clear hy hz hP RS hR hN hF hz2 hp
            go_wp2
            go_roundw
            case rel => exact ⟨_, k + 1, c2, by omega, by go_num, rfl, R1, NS, FS⟩
            case measure => simp [intOf]; omega
          · have hkl : k = (lims m).length := by omega
            subst hkl
            have RD : MulInv n m (O.set (i + (lims m).length) c) (i + 1) := by rw [HX.out] at hR; exact hR.done hlt
            have hp : i + (lims m).length < O.length := by rw [HLEN.out]; omega
            have zc := hN.out.cell hp
            have fz := hN.out.free (i + (lims m).length)
            have zl := hN.out.lt.1
            generalize O[i + (lims m).length]?.getD 0 = z at *
            have NS := Lib.hid (hN.out.set (i + (lims m).length) c hc1)
            have FS : Hid (Fr [] w2 (wr.setCell ⟨w2.heap.size, i + (lims m).length, none⟩ (.int .u32 (c : Int)))) := Lib.hid (hF.out.setCell (.inr (Nat.le_refl _)) _)
            clear hR hN hF hp
            go_wp2
            go_roundw
            case rel => exact ⟨_, i + 1, by omega, by go_num, RD, NS, FS⟩
            case measure => simp [intOf]; omega
      · have hil : i = (lims n).length := by omega
        subst hil
        have HV : Hid (val O = n * m) := Lib.hid hV.done
        have CC := Lib.hid (capped_c wo hN.out.in)
        rw [HV.out, HLEN.out] at CC
        have FQ := Lib.hid (FF.out.same hF.out)
        clear hV hN
        cases hf : fits (n * m) with
        | true =>
          rw [hf] at CC
          have DD : Hid (∀ a6 c6 w6, Nw w6 wo.heap.size a6 c6 (lims (n * m)) → Fr [] wo w6 → CapR w (fits (n * m)) (n * m) (.returned (.tuple #[.slice a6 (lims (n * m)).length c6, .int .i64 0])) w6) := Lib.hid (fun a6 c6 w6 h1 h2 => by rw [hf]; exact capR_mono (g := true) ⟨a6, c6, rfl, h1, h2⟩ FQ.out)
          clear hf
          go_wp2_with fail
          refine CC.out.mono ?_
          rintro e w6 ⟨a6, c6, rfl, N6, F6⟩
          have D := Lib.hid (DD.out a6 c6 w6 N6 F6)
          clear N6 F6 CC DD
          go_wp2
          go_ret2
          exact D.out
        | false =>
          rw [hf] at CC
          have DD : Hid (∀ w6, Fr [] wo w6 → CapR w (fits (n * m)) (n * m) (.returned (.tuple #[.slice none 0 0, .int .i64 11])) w6) := Lib.hid (fun w6 h2 => by rw [hf]; exact capR_mono (g := false) ⟨rfl, h2⟩ FQ.out)
          clear hf
          go_wp2_with fail
          refine CC.out.mono ?_
          rintro e w6 ⟨rfl, F6⟩
          have D := Lib.hid (DD.out w6 F6)
          clear F6 CC DD
          go_wp2
          go_ret2
          exact D.out
  · have hf : (fits n && fits m && fits (n * m)) = false := by
      rw [fits_len n, fits_len m]
      rw [← decide_and_b, decide_eq_false hbig]; rfl
    rw [hf]
    clear hf
    by_cases hx : (lims n).length ≤ 64
    · have bx : decide (64 < (lims n).length) = false := by simpa using hx
      have by_ : decide (64 < (lims m).length) = true := by simp; omega
      have BX := Lib.hid bx
      have BY := Lib.hid by_
      clear bx by_ hx hbig
      go_enter Tryz.func155, Tryz.ntmps155
      go_wp2_with fail
      refine (ltrim_c w HA.out).mono ?_
      rintro e w1 ⟨a1, c1, rfl, N1, F1⟩
      rw [HN.out] at N1 ⊢
      have HB1 := Lib.hid (HB.out.keep F1)
      have F1 := Lib.hid F1
      clear N1
      go_wp2_with fail
      refine (ltrim_c w1 HB1.out).mono ?_
      rintro e w2 ⟨a2, c2, rfl, N2, F2⟩
      rw [HM.out] at N2 ⊢
      have FF := Lib.hid (F1.out.same F2)
      clear N2 F2 F1 HB1 HA HB
      go_wp2_with fail
      refine (lbig_c _ _ _ _).mono ?_
      rintro e w' ⟨rfl, rfl⟩
      rw [BX.out]
      go_wp2_with fail
      refine (lbig_c _ _ _ _).mono ?_
      rintro e w' ⟨rfl, rfl⟩
      rw [BY.out]
      go_wp2
      go_ret2
      exact ⟨rfl, FF.out⟩
    · have bx : decide (64 < (lims n).length) = true := by simp; omega
      have BX := Lib.hid bx
      clear bx hx hbig
      go_enter Tryz.func155, Tryz.ntmps155
      go_wp2_with fail
      refine (ltrim_c w HA.out).mono ?_
      rintro e w1 ⟨a1, c1, rfl, N1, F1⟩
      rw [HN.out] at N1 ⊢
      have HB1 := Lib.hid (HB.out.keep F1)
      have F1 := Lib.hid F1
      clear N1
      go_wp2_with fail
      refine (ltrim_c w1 HB1.out).mono ?_
      rintro e w2 ⟨a2, c2, rfl, N2, F2⟩
      have FF := Lib.hid (F1.out.same F2)
      clear N2 F2 F1 HB1 HA HB
      go_wp2_with fail
      refine (lbig_c _ _ _ _).mono ?_
      rintro e w' ⟨rfl, rfl⟩
      rw [BX.out]
      go_wp2
      go_ret2
      exact ⟨rfl, FF.out⟩
end Go.Proofs.YtjdanblijcdllaaGreatDoor
