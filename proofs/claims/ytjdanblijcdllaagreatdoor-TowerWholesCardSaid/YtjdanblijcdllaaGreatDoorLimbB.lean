/- Limbs: orders, single limbs, sums of limbs. -/
import Derived.Test.YtjdanblijcdllaaGreatDoorLimbA
import Derived.Laws.BitsAllLaws
set_option linter.all false
namespace Go.Proofs.YtjdanblijcdllaaGreatDoor
open Go.ChangeShapes Go.WideShapes Go.RowKit
variable {w w' : World} {a b : Option Addr} {cap cap2 : Nat} {L M : List Nat} {B : Nat}
def cmpI (a b : Int) : Int := if a < b then -1 else if b < a then 1 else 0
theorem isNaN_c (x : Int) (w : World) : Calls Tryz.prog 209 #[.int .i64 x] w fun e w' => e = .returned (.bool false) ∧ w = w' := by
  go_enter Tryz.func209, Tryz.ntmps209
  go_wp2
  go_ret
  exact ⟨rfl, rfl⟩
theorem isNaN32_c (x : Int) (w : World) : Calls Tryz.prog 210 #[.int .u32 x] w fun e w' => e = .returned (.bool false) ∧ w = w' := by
  go_enter Tryz.func210, Tryz.ntmps210
  go_wp2
  go_ret
  exact ⟨rfl, rfl⟩
theorem compare_c (x y : Int) (w : World) : Calls Tryz.prog 171 #[.int .i64 x, .int .i64 y] w fun e w' => e = .returned (.int .i64 (cmpI x y)) ∧ w = w' := by
  unfold cmpI
  by_cases h1 : x < y
  · rw [if_pos h1]
    go_enter Tryz.func171, Tryz.ntmps171
    go_wp2_with (go_at_call 209; refine (isNaN_c _ _).mono ?_; rintro e w' ⟨rfl, rfl⟩)
    go_ret
    exact ⟨rfl, rfl⟩
  · rw [if_neg h1]
    by_cases h2 : y < x
    · rw [if_pos h2]
      go_enter Tryz.func171, Tryz.ntmps171
      go_wp2_with (go_at_call 209; refine (isNaN_c _ _).mono ?_; rintro e w' ⟨rfl, rfl⟩)
      go_ret
      exact ⟨rfl, rfl⟩
    · rw [if_neg h2]
      go_enter Tryz.func171, Tryz.ntmps171
      go_wp2_with (go_at_call 209; refine (isNaN_c _ _).mono ?_; rintro e w' ⟨rfl, rfl⟩)
      go_ret
      exact ⟨rfl, rfl⟩
theorem compare32_c (x y : Int) (w : World) : Calls Tryz.prog 172 #[.int .u32 x, .int .u32 y] w fun e w' => e = .returned (.int .i64 (cmpI x y)) ∧ w = w' := by
  unfold cmpI
  by_cases h1 : x < y
  · rw [if_pos h1]
    go_enter Tryz.func172, Tryz.ntmps172
    go_wp2_with (go_at_call 210; refine (isNaN32_c _ _).mono ?_; rintro e w' ⟨rfl, rfl⟩)
    go_ret
    exact ⟨rfl, rfl⟩
  · rw [if_neg h1]
    by_cases h2 : y < x
    · rw [if_pos h2]
      go_enter Tryz.func172, Tryz.ntmps172
      go_wp2_with (go_at_call 210; refine (isNaN32_c _ _).mono ?_; rintro e w' ⟨rfl, rfl⟩)
      go_ret
      exact ⟨rfl, rfl⟩
    · rw [if_neg h2]
      go_enter Tryz.func172, Tryz.ntmps172
      go_wp2_with (go_at_call 210; refine (isNaN32_c _ _).mono ?_; rintro e w' ⟨rfl, rfl⟩)
      go_ret
      exact ⟨rfl, rfl⟩
/-- A limb, or nought. -/
theorem lat_c (w : World) (h : In w a cap L) (i : Nat) : Calls Tryz.prog 145 #[.slice a L.length cap, .int .i64 (i : Int)] w fun e w' => e = .returned (.int .u32 ((L[i]?.getD 0 : Nat) : Int)) ∧ w = w' := by
  by_cases hi : i < L.length
  · obtain ⟨b, o, rfl, hb, hc⟩ := h.at hi
    generalize L[i]?.getD 0 = z at *
    have hi' : (i : Int) < (L.length : Int) := by omega
    clear h
    go_enter Tryz.func145, Tryz.ntmps145
    go_wp2
    go_ret
    exact ⟨rfl, rfl⟩
  · rw [List.getElem?_eq_none (by omega)]
    clear h
    go_enter Tryz.func145, Tryz.ntmps145
    go_wp2
    go_ret
    exact ⟨rfl, rfl⟩
theorem lbig_c (w : World) (a : Option Addr) (cap : Nat) (L : List Nat) : Calls Tryz.prog 140 #[.slice a L.length cap] w fun e w' => e = .returned (.bool (decide (64 < L.length))) ∧ w = w' := by
  go_enter Tryz.func140, Tryz.ntmps140
  go_wp2
  go_ret
  exact ⟨ret_bool (by rw [decide_eq_decide]; omega), rfl⟩
theorem ret_two {k k2 : IntKind} {a b a' b' : Int} (h1 : a = a') (h2 : b = b') : Ending.returned (.tuple #[.int k a, .int k2 b]) = .returned (.tuple #[.int k a', .int k2 b']) := by rw [h1, h2]
/-- The sum of two limbs and a carry. -/
theorem add32_c (x y c : Nat) (w : World) (hx : x < 4294967296) (hy : y < 4294967296) (hc : c ≤ 1) :
    Calls Tryz.prog 144 #[.int .u32 (x : Int), .int .u32 (y : Int), .int .u32 (c : Int)] w fun e w' => e = .returned (.tuple #[.int .u32 (((x + y + c) % 4294967296 : Nat) : Int), .int .u32 (((x + y + c) / 4294967296 : Nat) : Int)]) ∧ w = w' := by
  go_enter Tryz.func144, Tryz.ntmps144
  go_wp2
  go_ret2
  exact ⟨ret_two (by omega) (by omega), rfl⟩
/-- What is borrowed. -/
def bw (x y c : Nat) : Nat := if x < y + c then 1 else 0
theorem bw_le (x y c : Nat) : bw x y c ≤ 1 := by unfold bw; split <;> omega
theorem ofInt_u32 (a : Nat) (ha : a < 4294967296) : (BitVec.ofInt 32 (a : Int)).toNat = a := by
  rw [BitVec.ofInt_natCast, BitVec.toNat_ofNat]; exact Nat.mod_eq_of_lt (by omega)
theorem wrap_u32_nat (a : Nat) (ha : a < 4294967296) : IntKind.u32.wrap (a : Int) = a := by rw [IntKind.wrap_u32]; omega
theorem u32_and (a b : Nat) (ha : a < 4294967296) (hb : b < 4294967296) : bits .and .u32 (a : Int) (b : Int) = ((a &&& b : Nat) : Int) := by
  have hx : a &&& b < 2 ^ 32 := Nat.and_lt_two_pow _ (by omega)
  show IntKind.u32.wrap ((BitVec.ofInt 32 (a : Int) &&& BitVec.ofInt 32 (b : Int)).toNat : Int) = _
  rw [BitVec.toNat_and, ofInt_u32 a ha, ofInt_u32 b hb, wrap_u32_nat _ (by omega)]
theorem u32_or (a b : Nat) (ha : a < 4294967296) (hb : b < 4294967296) : bits .or .u32 (a : Int) (b : Int) = ((a ||| b : Nat) : Int) := by
  have hx : a ||| b < 2 ^ 32 := Nat.or_lt_two_pow (by omega) (by omega)
  show IntKind.u32.wrap ((BitVec.ofInt 32 (a : Int) ||| BitVec.ofInt 32 (b : Int)).toNat : Int) = _
  rw [BitVec.toNat_or, ofInt_u32 a ha, ofInt_u32 b hb, wrap_u32_nat _ (by omega)]
theorem u32_xor (a b : Nat) (ha : a < 4294967296) (hb : b < 4294967296) : bits .xor .u32 (a : Int) (b : Int) = ((a ^^^ b : Nat) : Int) := by
  have hx : a ^^^ b < 2 ^ 32 := Nat.xor_lt_two_pow (by omega) (by omega)
  show IntKind.u32.wrap ((BitVec.ofInt 32 (a : Int) ^^^ BitVec.ofInt 32 (b : Int)).toNat : Int) = _
  rw [BitVec.toNat_xor, ofInt_u32 a ha, ofInt_u32 b hb, wrap_u32_nat _ (by omega)]
theorem top_bit (z : Nat) (h : z < 4294967296) : z / 2147483648 = (z.testBit 31).toNat := by
  rw [Nat.testBit_eq_decide_div_mod_eq]
  have : z / 2 ^ 31 % 2 = z / 2147483648 := by omega
  rw [this]
  rcases (show z / 2147483648 = 0 ∨ z / 2147483648 = 1 by omega) with h | h <;> rw [h] <;> rfl
theorem borrow_nat (x y c d : Nat) (hx : x < 4294967296) (hy : y < 4294967296) (hc : c ≤ 1) (hd : d = (x + 4294967296 - y - c) % 4294967296) :
    (((4294967295 ^^^ x) &&& y) ||| ((4294967295 ^^^ (x ^^^ y)) &&& d)) / 2147483648 = bw x y c := by
  have hd2 : d < 4294967296 := by omega
  have b1 : 4294967295 ^^^ x < 2 ^ 32 := Nat.xor_lt_two_pow (by omega) (by omega)
  have b2 : (4294967295 ^^^ x) &&& y < 2 ^ 32 := Nat.and_lt_two_pow _ (by omega)
  have b3 : (4294967295 ^^^ (x ^^^ y)) &&& d < 2 ^ 32 := Nat.and_lt_two_pow _ (by omega)
  have b4 := Nat.or_lt_two_pow b2 b3
  rw [top_bit _ (by omega)]
  simp only [Nat.testBit_or, Nat.testBit_and, Nat.testBit_xor]
  have e1 : Nat.testBit 4294967295 31 = true := by decide
  have t : ∀ z, z < 4294967296 → Nat.testBit z 31 = decide (2147483648 ≤ z) := fun z hz => by
    rw [Nat.testBit_eq_decide_div_mod_eq, decide_eq_decide]; omega
  rw [e1, t x hx, t y hy, t d hd2]
  unfold bw
  by_cases hx1 : 2147483648 ≤ x <;> by_cases hy1 : 2147483648 ≤ y <;> by_cases hd1 : 2147483648 ≤ d <;> simp [hx1, hy1, hd1] <;> omega
theorem max_u32 : IntKind.u32.max = 4294967295 := by decide
theorem sub32_c (x y c : Nat) (w : World) (hx : x < 4294967296) (hy : y < 4294967296) (hc : c ≤ 1) :
    Calls Tryz.prog 179 #[.int .u32 (x : Int), .int .u32 (y : Int), .int .u32 (c : Int)] w fun e w' => e = .returned (.tuple #[.int .u32 (((x + 4294967296 - y - c) % 4294967296 : Nat) : Int), .int .u32 ((bw x y c : Nat) : Int)]) ∧ w = w' := by
  obtain ⟨d, hd⟩ : ∃ d, d = (x + 4294967296 - y - c) % 4294967296 := ⟨_, rfl⟩
  have hdI : ((x : Int) - y - c) % 4294967296 = (d : Int) := by omega
  have b1 : 4294967295 ^^^ x < 2 ^ 32 := Nat.xor_lt_two_pow (by omega) (by omega)
  have b2 : (4294967295 ^^^ x) &&& y < 2 ^ 32 := Nat.and_lt_two_pow _ (by omega)
  have b0 : x ^^^ y < 2 ^ 32 := Nat.xor_lt_two_pow (by omega) (by omega)
  have b5 : 4294967295 ^^^ (x ^^^ y) < 2 ^ 32 := Nat.xor_lt_two_pow (by omega) (by omega)
  have b3 : (4294967295 ^^^ (x ^^^ y)) &&& d < 2 ^ 32 := Nat.and_lt_two_pow _ (by omega)
  have E : bits BinOp.or IntKind.u32 (bits BinOp.and IntKind.u32 (bits BinOp.xor IntKind.u32 IntKind.u32.max (x : Int)) (y : Int)) (bits BinOp.and IntKind.u32 (bits BinOp.xor IntKind.u32 IntKind.u32.max (bits BinOp.xor IntKind.u32 (x : Int) (y : Int))) (((x : Int) - y - c) % 4294967296)) / 2147483648 = ((bw x y c : Nat) : Int) := by
    rw [hdI, max_u32, show (4294967295 : Int) = ((4294967295 : Nat) : Int) from rfl, u32_xor _ x (by omega) hx, u32_and _ y (by omega) hy, u32_xor x y hx hy, u32_xor _ (x ^^^ y) (by omega) (by omega), u32_and _ d (by omega) (by omega), u32_or _ _ (by omega) (by omega)]
    rw [← borrow_nat x y c d hx hy hc hd]
    omega
  have E := Lib.hid E
  have D := Lib.hid hdI
  rw [← hd]
  clear hd hdI b0 b1 b2 b3 b5
  go_enter Tryz.func179, Tryz.ntmps179
  go_wp2
  all_goals
    go_ret2
    first | exact ⟨ret_two D.out rfl, rfl⟩ | exact ⟨ret_two D.out E.out, rfl⟩
/-- A list of so many limbs, and where the loop stands. -/
theorem order_c (w : World) (n m : Nat) (ha : In w a cap (lims n)) (hb : In w b cap2 (lims m)) :
    Calls Tryz.prog 141 #[.slice a (lims n).length cap, .slice b (lims m).length cap2] w fun e w' => e = .returned (.int .i64 (cmpN n m)) ∧ Fr [] w w' := by
  have hsa := ha.sm
  have hsb := hb.sm
  rcases Nat.lt_trichotomy (lims n).length (lims m).length with hl | hl | hl
  · have hc : cmpN n m = -1 := by unfold cmpN; rw [if_pos (lims_len_lt hl)]
    have hi : cmpI ((lims n).length : Int) ((lims m).length : Int) = -1 := by unfold cmpI; rw [if_pos (by omega)]
    rw [hc]
    have HI := Lib.hid hi
    clear hc hi ha hb
    go_enter Tryz.func141, Tryz.ntmps141
    go_wp2_with fail
    refine (compare_c _ _ _).mono ?_
    rintro e w' ⟨rfl, rfl⟩
    rw [HI.out]
    go_wp2
    go_ret
    exact ⟨rfl, Fr.refl _ _⟩
  · have hi : cmpI ((lims n).length : Int) ((lims m).length : Int) = 0 := by unfold cmpI; rw [if_neg (by omega), if_neg (by omega)]
    have HI := Lib.hid hi
    have HL := Lib.hid hl
    have HA := Lib.hid ha
    have HB := Lib.hid hb
    clear hi hl ha hb
    go_enter Tryz.func141, Tryz.ntmps141
    go_wp2_with fail
    refine (compare_c _ _ _).mono ?_
    rintro e w' ⟨rfl, rfl⟩
    rw [HI.out]
    go_wp2_with fail
    go_loopw [6, 7] (fun x c wr => ∃ k : Nat, k ≤ (lims n).length ∧ x = .int .i64 ((k : Int) - 1) ∧ Hid ((lims n).drop k = (lims m).drop k) ∧ Hid (Fr [] w wr)) (fun x _ _ => (intOf x + 1).toNat)
    case atStart => exact ⟨(lims n).length, Nat.le_refl _, rfl, Lib.hid (by rw [List.drop_of_length_le (Nat.le_refl _), List.drop_of_length_le (by rw [HL.out]; exact Nat.le_refl _)]), Lib.hid (Fr.refl _ _)⟩
    case round =>
      obtain ⟨k, hk, rfl, hd, hF⟩ := hrel
      cases k with
      | zero =>
        have hc : Hid (cmpN n m = 0) := Lib.hid (by
          have h1 := hd.out
          simp only [List.drop_zero] at h1
          have h2 : n = m := by rw [← val_lims n, h1, val_lims]
          unfold cmpN; rw [if_neg (by omega), if_neg (by omega)])
        rw [show (((0 : Nat) : Int) - 1) = -1 from rfl]
        go_wp2
        go_ret
        exact ⟨ret_int hc.out.symm, hF.out⟩
      | succ j =>
        rw [show (((j + 1 : Nat) : Int) - 1) = (j : Int) from by omega]
        have hj2 : j < (lims m).length := by rw [← HL.out]; omega
        have hj1 : j < (lims n).length := by omega
        have A1 := HA.out.keep hF.out
        have B1 := HB.out.keep hF.out
        obtain ⟨ab, ao, ha1, ha2, hca⟩ := A1.at hj1
        obtain ⟨bb, bo, hb1, hb2, hcb⟩ := B1.at hj2
        subst ha1; subst hb1
        have gj1 : (j : Int) < ((lims n).length : Int) := by omega
        have gj2 : (j : Int) < ((lims m).length : Int) := by omega
        have gj0 : (0 : Int) ≤ (j : Int) := by omega
        have D1 := Lib.hid (fun (h : (lims n)[j]?.getD 0 < (lims m)[j]?.getD 0) => val_lt_of (lim_lims n) HL.out j hd.out hj1 h)
        have D2 := Lib.hid (fun (h : (lims m)[j]?.getD 0 < (lims n)[j]?.getD 0) => val_lt_of (lim_lims m) HL.out.symm j hd.out.symm hj2 h)
        have D3 : Hid ((lims n)[j]?.getD 0 = (lims m)[j]?.getD 0 → (lims n).drop j = (lims m).drop j) := Lib.hid (fun h => by
          rw [List.drop_eq_getElem_cons hj1, List.drop_eq_getElem_cons hj2, hd.out]
          rw [List.getElem?_eq_getElem hj1, List.getElem?_eq_getElem hj2] at h
          simp only [Option.getD_some] at h
          rw [h])
        rw [val_lims, val_lims] at D1 D2
        generalize (lims n)[j]?.getD 0 = x at *
        generalize (lims m)[j]?.getD 0 = y at *
        clear HA HB A1 B1
        rcases Nat.lt_trichotomy x y with hxy | hxy | hxy
        · have HC : Hid (cmpI (x : Int) (y : Int) = -1) := Lib.hid (by unfold cmpI; rw [if_pos (by omega)])
          have hcm : Hid (cmpN n m = -1) := Lib.hid (by unfold cmpN; rw [if_pos (D1.out hxy)])
          clear D1 D2 D3 hxy
          go_wp2_with fail
          go_quiet ((go_at_call 172; exact Calls.quiet_of_same ((compare32_c _ _ _).mono fun e w' h => ⟨h.1, h.2.symm⟩)))
          rw [HC.out]
          go_wp2
          go_ret
          exact ⟨ret_int hcm.out.symm, hF.out.drewN _⟩
        · have HC : Hid (cmpI (x : Int) (y : Int) = 0) := Lib.hid (by unfold cmpI; rw [if_neg (by omega), if_neg (by omega)])
          have d3 := Lib.hid (D3.out hxy)
          clear D1 D2 D3 hxy
          go_wp2_with fail
          go_quiet ((go_at_call 172; exact Calls.quiet_of_same ((compare32_c _ _ _).mono fun e w' h => ⟨h.1, h.2.symm⟩)))
          rw [HC.out]
          go_wp2
          go_roundw
          case rel => exact ⟨j, by omega, rfl, d3, Lib.hid (hF.out.drewN _)⟩
          case measure => simp [intOf]
        · have HC : Hid (cmpI (x : Int) (y : Int) = 1) := Lib.hid (by unfold cmpI; rw [if_neg (by omega), if_pos (by omega)])
          have hcm : Hid (cmpN n m = 1) := Lib.hid (by unfold cmpN; rw [if_neg (by have := D2.out hxy; omega), if_pos (D2.out hxy)])
          clear D1 D2 D3 hxy
          go_wp2_with fail
          go_quiet ((go_at_call 172; exact Calls.quiet_of_same ((compare32_c _ _ _).mono fun e w' h => ⟨h.1, h.2.symm⟩)))
          rw [HC.out]
          go_wp2
          go_ret
          exact ⟨ret_int hcm.out.symm, hF.out.drewN _⟩
  · have hc : cmpN n m = 1 := by unfold cmpN; rw [if_neg (by have := lims_len_lt hl; omega), if_pos (lims_len_lt hl)]
    have hi : cmpI ((lims n).length : Int) ((lims m).length : Int) = 1 := by unfold cmpI; rw [if_neg (by omega), if_pos (by omega)]
    rw [hc]
    have HI := Lib.hid hi
    clear hc hi ha hb
    go_enter Tryz.func141, Tryz.ntmps141
    go_wp2_with fail
    refine (compare_c _ _ _).mono ?_
    rintro e w' ⟨rfl, rfl⟩
    rw [HI.out]
    go_wp2
    go_ret
    exact ⟨rfl, Fr.refl _ _⟩
theorem lcmp_c (w : World) (ha : In w a cap L) (hb : In w b cap2 M) :
    Calls Tryz.prog 105 #[.slice a L.length cap, .slice b M.length cap2] w fun e w' => e = .returned (.int .i64 (cmpN (val L) (val M))) ∧ Fr [] w w' := by
  have HA := Lib.hid ha
  have HB := Lib.hid hb
  clear ha hb
  go_enter Tryz.func105, Tryz.ntmps105
  go_wp2_with fail
  refine (ltrim_c w HA.out).mono ?_
  rintro e w1 ⟨a1, c1, rfl, N1, F1⟩
  have HB1 := Lib.hid (HB.out.keep F1)
  have N1 := Lib.hid N1
  have F1 := Lib.hid F1
  go_wp2_with fail
  refine (ltrim_c w1 HB1.out).mono ?_
  rintro e w2 ⟨a2, c2, rfl, N2, F2⟩
  have HA2 := Lib.hid (N1.out.keep F2).in
  have HB2 := Lib.hid N2.in
  have FF := Lib.hid (F1.out.same F2)
  clear N2 F2 N1 F1 HB1 HA HB
  go_wp2_with fail
  refine (order_c w2 _ _ HA2.out HB2.out).mono ?_
  rintro e w3 ⟨rfl, F3⟩
  have FF3 := Lib.hid (FF.out.same F3)
  clear F3
  go_wp2
  go_ret
  exact ⟨rfl, FF3.out⟩
def CapRes (w : World) (n : Nat) (e : Ending) (w' : World) : Prop :=
  if n < 4294967296 ^ 64 then ∃ a cap, e = .returned (.tuple #[.slice a (lims n).length cap, .int .i64 0]) ∧ Nw w' w.heap.size a cap (lims n) ∧ Fr [] w w'
  else e = .returned (.tuple #[.slice none 0 0, .int .i64 11]) ∧ Fr [] w w'
theorem lcapped_c (w : World) (ha : In w a cap L) : Calls Tryz.prog 146 #[.slice a L.length cap] w (CapRes w (val L)) := by
  have HA := Lib.hid ha
  clear ha
  by_cases h : val L < 4294967296 ^ 64
  · have hl : (lims (val L)).length ≤ 64 := len_lims.2 h
    have HC : Hid (∀ a1 c1 w1, Nw w1 w.heap.size a1 c1 (lims (val L)) → Fr [] w w1 → CapRes w (val L) (.returned (.tuple #[.slice a1 (lims (val L)).length c1, .int .i64 0])) w1) := Lib.hid (fun a1 c1 w1 h1 h2 => by
      unfold CapRes; rw [if_pos h]; exact ⟨a1, c1, rfl, h1, h2⟩)
    clear h
    go_enter Tryz.func146, Tryz.ntmps146
    go_wp2_with fail
    refine (ltrim_c w HA.out).mono ?_
    rintro e w1 ⟨a1, c1, rfl, N1, F1⟩
    have D := Lib.hid (HC.out a1 c1 w1 N1 F1)
    have hd : decide (64 < (lims (val L)).length) = false := by simpa using hl
    have HD := Lib.hid hd
    clear N1 F1 hd
    go_wp2_with fail
    refine (lbig_c _ _ _ _).mono ?_
    rintro e w2 ⟨rfl, rfl⟩
    rw [HD.out]
    go_wp2
    go_ret2
    exact D.out
  · have hl : 64 < (lims (val L)).length := by
      rcases Nat.lt_or_ge 64 (lims (val L)).length with h1 | h1
      · exact h1
      · exact absurd (len_lims.1 h1) h
    have HC : Hid (∀ w1, Fr [] w w1 → CapRes w (val L) (.returned (.tuple #[.slice none 0 0, .int .i64 11])) w1) := Lib.hid (fun w1 h2 => by
      unfold CapRes; rw [if_neg h]; exact ⟨rfl, h2⟩)
    clear h
    go_enter Tryz.func146, Tryz.ntmps146
    go_wp2_with fail
    refine (ltrim_c w HA.out).mono ?_
    rintro e w1 ⟨a1, c1, rfl, N1, F1⟩
    have D := Lib.hid (HC.out w1 F1)
    have hd : decide (64 < (lims (val L)).length) = true := by simpa using hl
    have HD := Lib.hid hd
    clear N1 F1 hd
    go_wp2_with fail
    refine (lbig_c _ _ _ _).mono ?_
    rintro e w2 ⟨rfl, rfl⟩
    rw [HD.out]
    go_wp2
    go_ret2
    exact D.out
end Go.Proofs.YtjdanblijcdllaaGreatDoor
