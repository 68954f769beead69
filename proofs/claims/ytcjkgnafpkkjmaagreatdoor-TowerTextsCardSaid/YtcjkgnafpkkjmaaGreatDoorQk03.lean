/- The texts and numbers of numbers: a part of the walk. No condition. -/
import Derived.Test.YtcjkgnafpkkjmaaGreatDoorQk02
import Derived.Deep.RegionHeld3
import Derived.StillTailTactics
import Derived.Laws.BitsAllLaws
set_option linter.all false
namespace Go.Proofs.YtcjkgnafpkkjmaaGreatDoor
section
open Go.ChangeShapes Go.WideShapes Go.RowKit
variable {w w' : World} {a b : Option Addr} {cap cap2 : Nat} {L M : List Nat} {B : Nat}
theorem clone32_any (w : World) (h : In w a cap L) (c : Nat) : Calls Tryz.prog 101 #[.slice a L.length c] w (Gives w L) := by
  have hsm := h.sm
  cases a with
  | none =>
    have h0 : L = [] := by
      rcases h.rd with h0 | ⟨b, o, h1, _⟩
      · exact h0
      · simp at h1
    subst h0
    have qn : ∀ (w : World) (a : Option Addr) (n c n' c' : Nat), (binOp .eql 34 (.slice a n c) (.slice none n' c')).run Tryz.prog w = .ok (.bool a.isNone) w := fun w a n c n' c' => Lib.run_eql_slice_nil w _ _ a n c n' c' Tryz.underlying34
    clear h
    go_enter Tryz.func101, Tryz.ntmps101
    go_wp2
    go_ret
    exact gives_mk (L := []) (Nw.nil w _) (Fr.refl _ _)
  | some ad =>
    obtain ⟨b, o, sp⟩ := ad
    obtain ⟨i0, hi, hz0, hz1, hz2⟩ := info_parts info_u32
    have HI := Lib.hid hi
    have Z0 := Lib.hid hz0
    have Z1 := Lib.hid hz1
    have Z2 := Lib.hid hz2
    clear hi hz0 hz1 hz2
    have qn : ∀ (w : World) (a : Option Addr) (n c n' c' : Nat), (binOp .eql 34 (.slice a n c) (.slice none n' c')).run Tryz.prog w = .ok (.bool a.isNone) w := fun w a n c n' c' => Lib.run_eql_slice_nil w _ _ a n c n' c' Tryz.underlying34
    have HC : Hid (∀ j u, (lc L)[j]? = some u → (w.alloc (.cells #[] 84)).cell? ((⟨b, o, sp⟩ : Addr).add j) = some u) := Lib.hid (fun j u hu => by
      have hj : j < L.length := by
        rcases Nat.lt_or_ge j L.length with hh | hh
        · exact hh
        · rw [List.getElem?_eq_none (by rw [len_lc]; exact hh)] at hu; simp at hu
      have h2 := h.keep ((Fr.refl [] w).alloc (.cells #[] 84))
      obtain ⟨b', o', h1, hb, hc⟩ := h2.at hj
      simp only [Option.some.injEq, Addr.mk.injEq] at h1
      obtain ⟨rfl, rfl, rfl⟩ := h1
      rw [lc_get L j hj] at hu
      rw [← hu, ← hc]
      unfold Addr.add
      split
      · subst j; rfl
      · rfl)
    have HL := Lib.hid h.lim
    clear h
    have hE : (#[] : Array Value).size = 0 * 1 := rfl
    go_enter Tryz.func101, Tryz.ntmps101
    go_wp2_with (at_builtin; refine wpList_append_own _ rfl _ _ 34 rfl w.heap.size 84 i0 (.int .u32 0) 1 4 Tryz.underlying34 HI.out Z0.out Z1.out Z2.out rfl (by decide) (.slice (some ⟨w.heap.size, 0, none⟩) 0 0) 0 [] rfl (World.ownsRow_made w #[] 0 (Nat.le_refl _) (Nat.zero_le _) rfl) ⟨b, o, sp⟩ L.length c (lc L) rfl (by rw [len_lc, Nat.mul_one]) HC.out (lc_one L) (by unfold maxLen; omega) (by omega) (by simp) ?_; intro v' w1 hown hgrow _)
    have D : Hid (Gives w L (.returned v') w1) := Lib.hid (by
      rw [Nat.zero_add, List.nil_append] at hown
      obtain ⟨a', cap', rfl⟩ := own_slice hown
      have hF : Fr [w.heap.size] (w.alloc (.cells #[] 84)) w1 := (grown_fr hgrow).mono (by intro x hx; simp [Value.ownBlock] at hx; simp [hx])
      exact gives_mk (Nw.of_own hown HL.out hsm) (((Fr.refl [] w).alloc _).trans hF (by simp)))
    clear hown hgrow
    go_wp2
    go_ret
    exact D.out
theorem clone32_c (w : World) (h : In w a cap L) (n c : Nat) (hn : L.length = n) : Calls Tryz.prog 101 #[.slice a n c] w (Gives w L) := by
  subst hn; exact clone32_any w h c
theorem ltrim_c (w : World) (h : In w a cap L) : Calls Tryz.prog 56 #[.slice a L.length cap] w (Gives w (lims (val L))) := by
  have hle := h.le
  have hcm := h.cm
  have hsm := h.sm
  unfold maxLen at hcm
  have H := Lib.hid h
  clear h
  go_enter Tryz.func56, Tryz.ntmps56
  go_wp2
  go_loopw [3] (fun x wr => ∃ k : Nat, k ≤ L.length ∧ x = .int .i64 k ∧ Hid (∀ i, k ≤ i → i < L.length → L[i]?.getD 0 = 0) ∧ Hid (Fr [] w wr)) (fun x _ => (intOf x).toNat)
  case atStart => exact ⟨L.length, Nat.le_refl _, rfl, Lib.hid (fun i h1 h2 => by omega), Lib.hid (Fr.refl _ _)⟩
  case round =>
    obtain ⟨k, hk, rfl, hz, hF⟩ := hrel
    have HK := Lib.hid (H.out.keep hF.out)
    have DONE : Hid ((k = 0 ∨ L[k - 1]?.getD 0 ≠ 0) → Calls Tryz.prog 101 #[.slice a k cap] wr (Gives w (lims (val L)))) := Lib.hid (fun ht => by
      have e := trim_done H.out.lim k hk hz.out ht
      have h3 := HK.out.take k
      rw [e] at h3
      refine (clone32_c wr h3 k cap (by rw [← e]; simp; omega)).mono ?_
      rintro e' w3 ⟨a', cap', rfl, hN, hF3⟩
      exact gives_mk (hN.base hF.out.size) (hF.out.same hF3))
    by_cases h0 : k = 0
    · subst h0
      have d0 := Lib.hid (DONE.out (.inl rfl))
      clear DONE HK H
      go_wp2_with fail
      refine d0.out.mono ?_
      rintro e w3 ⟨a', cap', rfl, hN, hF3⟩
      have D := Lib.hid (gives_mk hN hF3)
      clear hN hF3
      go_wp2
      go_ret
      exact D.out
    · have hk1 : k - 1 < L.length := by omega
      obtain ⟨b, o, rfl, hb, hc⟩ := HK.out.at hk1
      have hi0 : (0 : Int) ≤ (k : Int) - 1 := by omega
      have ek : ((k : Int) - 1) = ((k - 1 : Nat) : Int) := by omega
      have hc1 : wr.cell? ⟨b, o + (k - 1), none⟩ = some (.int .u32 ((L[k - 1]?.getD 0 : Nat) : Int)) := hc
      have EK := Lib.hid ek
      clear ek hc
      obtain ⟨j, rfl⟩ : ∃ j, k = j + 1 := ⟨k - 1, by omega⟩
      simp only [Nat.add_sub_cancel] at hc1
      by_cases hz1 : L[j]?.getD 0 = 0
      · have hz2 : Hid (∀ i, j ≤ i → i < L.length → L[i]?.getD 0 = 0) := Lib.hid (fun i h1 h2 => by
          by_cases hij : i = j
          · rw [hij]; exact hz1
          · exact hz.out i (by omega) h2)
        rw [hz1] at hc1
        clear DONE HK hz hz1 EK
        go_wp2
        go_roundw
        case rel => exact ⟨j, by omega, by go_num, hz2, hF⟩
        case measure => simp [intOf]
      · have d0 := Lib.hid (DONE.out (.inr (by simpa using hz1)))
        generalize L[j]?.getD 0 = z at *
        have hzb : ((z : Int) == 0) = false := by simpa using hz1
        clear DONE HK H hz hz1 EK
        go_wp2_with fail
        refine d0.out.mono ?_
        rintro e w3 ⟨a', cap', rfl, hN, hF3⟩
        have D := Lib.hid (gives_mk hN hF3)
        clear hN hF3
        go_wp2
        go_ret
        exact D.out
def cmpI (a b : Int) : Int := if a < b then -1 else if b < a then 1 else 0
theorem isNaN_c (x : Int) (w : World) : Calls Tryz.prog 171 #[.int .i64 x] w fun e w' => e = .returned (.bool false) ∧ w = w' := by
  go_enter Tryz.func171, Tryz.ntmps171
  go_wp2
  go_ret
  exact ⟨rfl, rfl⟩
theorem isNaN32_c (x : Int) (w : World) : Calls Tryz.prog 172 #[.int .u32 x] w fun e w' => e = .returned (.bool false) ∧ w = w' := by
  go_enter Tryz.func172, Tryz.ntmps172
  go_wp2
  go_ret
  exact ⟨rfl, rfl⟩
theorem compare_c (x y : Int) (w : World) : Calls Tryz.prog 125 #[.int .i64 x, .int .i64 y] w fun e w' => e = .returned (.int .i64 (cmpI x y)) ∧ w = w' := by
  unfold cmpI
  by_cases h1 : x < y
  · rw [if_pos h1]
    go_enter Tryz.func125, Tryz.ntmps125
    go_wp2_with (go_at_call 171; refine (isNaN_c _ _).mono ?_; rintro e w' ⟨rfl, rfl⟩)
    go_ret
    exact ⟨rfl, rfl⟩
  · rw [if_neg h1]
    by_cases h2 : y < x
    · rw [if_pos h2]
      go_enter Tryz.func125, Tryz.ntmps125
      go_wp2_with (go_at_call 171; refine (isNaN_c _ _).mono ?_; rintro e w' ⟨rfl, rfl⟩)
      go_ret
      exact ⟨rfl, rfl⟩
    · rw [if_neg h2]
      go_enter Tryz.func125, Tryz.ntmps125
      go_wp2_with (go_at_call 171; refine (isNaN_c _ _).mono ?_; rintro e w' ⟨rfl, rfl⟩)
      go_ret
      exact ⟨rfl, rfl⟩
theorem compare32_c (x y : Int) (w : World) : Calls Tryz.prog 126 #[.int .u32 x, .int .u32 y] w fun e w' => e = .returned (.int .i64 (cmpI x y)) ∧ w = w' := by
  unfold cmpI
  by_cases h1 : x < y
  · rw [if_pos h1]
    go_enter Tryz.func126, Tryz.ntmps126
    go_wp2_with (go_at_call 172; refine (isNaN32_c _ _).mono ?_; rintro e w' ⟨rfl, rfl⟩)
    go_ret
    exact ⟨rfl, rfl⟩
  · rw [if_neg h1]
    by_cases h2 : y < x
    · rw [if_pos h2]
      go_enter Tryz.func126, Tryz.ntmps126
      go_wp2_with (go_at_call 172; refine (isNaN32_c _ _).mono ?_; rintro e w' ⟨rfl, rfl⟩)
      go_ret
      exact ⟨rfl, rfl⟩
    · rw [if_neg h2]
      go_enter Tryz.func126, Tryz.ntmps126
      go_wp2_with (go_at_call 172; refine (isNaN32_c _ _).mono ?_; rintro e w' ⟨rfl, rfl⟩)
      go_ret
      exact ⟨rfl, rfl⟩
theorem lat_c (w : World) (h : In w a cap L) (i : Nat) : Calls Tryz.prog 98 #[.slice a L.length cap, .int .i64 (i : Int)] w fun e w' => e = .returned (.int .u32 ((L[i]?.getD 0 : Nat) : Int)) ∧ w = w' := by
  by_cases hi : i < L.length
  · obtain ⟨b, o, rfl, hb, hc⟩ := h.at hi
    generalize L[i]?.getD 0 = z at *
    have hi' : (i : Int) < (L.length : Int) := by omega
    clear h
    go_enter Tryz.func98, Tryz.ntmps98
    go_wp2
    go_ret
    exact ⟨rfl, rfl⟩
  · rw [List.getElem?_eq_none (by omega)]
    clear h
    go_enter Tryz.func98, Tryz.ntmps98
    go_wp2
    go_ret
    exact ⟨rfl, rfl⟩
theorem lbig_c (w : World) (a : Option Addr) (cap : Nat) (L : List Nat) : Calls Tryz.prog 93 #[.slice a L.length cap] w fun e w' => e = .returned (.bool (decide (64 < L.length))) ∧ w = w' := by
  go_enter Tryz.func93, Tryz.ntmps93
  go_wp2
  go_ret
  exact ⟨ret_bool (by rw [decide_eq_decide]; omega), rfl⟩
theorem ret_two {k k2 : IntKind} {a b a' b' : Int} (h1 : a = a') (h2 : b = b') : Ending.returned (.tuple #[.int k a, .int k2 b]) = .returned (.tuple #[.int k a', .int k2 b']) := by rw [h1, h2]
theorem add32_c (x y c : Nat) (w : World) (hx : x < 4294967296) (hy : y < 4294967296) (hc : c ≤ 1) :
    Calls Tryz.prog 97 #[.int .u32 (x : Int), .int .u32 (y : Int), .int .u32 (c : Int)] w fun e w' => e = .returned (.tuple #[.int .u32 (((x + y + c) % 4294967296 : Nat) : Int), .int .u32 (((x + y + c) / 4294967296 : Nat) : Int)]) ∧ w = w' := by
  go_enter Tryz.func97, Tryz.ntmps97
  go_wp2
  go_ret2
  exact ⟨ret_two (by omega) (by omega), rfl⟩
def bw (x y c : Nat) : Nat := if x < y + c then 1 else 0
theorem bw_le (x y c : Nat) : bw x y c ≤ 1 := by unfold bw; split <;> omega
theorem ofInt_u32 (a : Nat) (ha : a < 4294967296) : (BitVec.ofInt 32 (a : Int)).toNat = a := by
  rw [BitVec.ofInt_natCast, BitVec.toNat_ofNat]; exact Nat.mod_eq_of_lt (by omega)
theorem wrap_u32_nat (a : Nat) (ha : a < 4294967296) : IntKind.u32.wrap (a : Int) = a := by rw [IntKind.wrap_u32]; omega
theorem u32_and (a b : Nat) (ha : a < 4294967296) (hb : b < 4294967296) : bits .and .u32 (a : Int) (b : Int) = ((a &&& b : Nat) : Int) := by
  have hx : a &&& b < 2 ^ 32 := Nat.and_lt_two_pow _ (by omega)
  show IntKind.u32.wrap ((BitVec.ofInt 32 (a : Int) &&& BitVec.ofInt 32 (b : Int)).toNat : Int) = _
  rw [BitVec.toNat_and, ofInt_u32 a ha, ofInt_u32 b hb, wrap_u32_nat _ (by omega)]
theorem u32_or (a b : Nat) (ha : a < 4294967296) (hb : b < 4294967296) : bits .or .u32 (a : Int) (b : Int) = ((a ||| b : Nat) : Int) := by
  have hx : a ||| b < 2 ^ 32 := Nat.or_lt_two_pow (by omega) (by omega)
  show IntKind.u32.wrap ((BitVec.ofInt 32 (a : Int) ||| BitVec.ofInt 32 (b : Int)).toNat : Int) = _
  rw [BitVec.toNat_or, ofInt_u32 a ha, ofInt_u32 b hb, wrap_u32_nat _ (by omega)]
theorem u32_xor (a b : Nat) (ha : a < 4294967296) (hb : b < 4294967296) : bits .xor .u32 (a : Int) (b : Int) = ((a ^^^ b : Nat) : Int) := by
  have hx : a ^^^ b < 2 ^ 32 := Nat.xor_lt_two_pow (by omega) (by omega)
  show IntKind.u32.wrap ((BitVec.ofInt 32 (a : Int) ^^^ BitVec.ofInt 32 (b : Int)).toNat : Int) = _
  rw [BitVec.toNat_xor, ofInt_u32 a ha, ofInt_u32 b hb, wrap_u32_nat _ (by omega)]
theorem top_bit (z : Nat) (h : z < 4294967296) : z / 2147483648 = (z.testBit 31).toNat := by
  rw [Nat.testBit_eq_decide_div_mod_eq]
  have : z / 2 ^ 31 % 2 = z / 2147483648 := by omega
  rw [this]
  rcases (show z / 2147483648 = 0 ∨ z / 2147483648 = 1 by omega) with h | h <;> rw [h] <;> rfl
theorem borrow_nat (x y c d : Nat) (hx : x < 4294967296) (hy : y < 4294967296) (hc : c ≤ 1) (hd : d = (x + 4294967296 - y - c) % 4294967296) :
    (((4294967295 ^^^ x) &&& y) ||| ((4294967295 ^^^ (x ^^^ y)) &&& d)) / 2147483648 = bw x y c := by
  have hd2 : d < 4294967296 := by omega
  have b1 : 4294967295 ^^^ x < 2 ^ 32 := Nat.xor_lt_two_pow (by omega) (by omega)
  have b2 : (4294967295 ^^^ x) &&& y < 2 ^ 32 := Nat.and_lt_two_pow _ (by omega)
  have b3 : (4294967295 ^^^ (x ^^^ y)) &&& d < 2 ^ 32 := Nat.and_lt_two_pow _ (by omega)
  have b4 := Nat.or_lt_two_pow b2 b3
  rw [top_bit _ (by omega)]
  simp only [Nat.testBit_or, Nat.testBit_and, Nat.testBit_xor]
  have e1 : Nat.testBit 4294967295 31 = true := by decide
  have t : ∀ z, z < 4294967296 → Nat.testBit z 31 = decide (2147483648 ≤ z) := fun z hz => by
    rw [Nat.testBit_eq_decide_div_mod_eq, decide_eq_decide]; omega
  rw [e1, t x hx, t y hy, t d hd2]
  unfold bw
  by_cases hx1 : 2147483648 ≤ x <;> by_cases hy1 : 2147483648 ≤ y <;> by_cases hd1 : 2147483648 ≤ d <;> simp [hx1, hy1, hd1] <;> omega
theorem max_u32 : IntKind.u32.max = 4294967295 := by decide
theorem sub32_c (x y c : Nat) (w : World) (hx : x < 4294967296) (hy : y < 4294967296) (hc : c ≤ 1) :
    Calls Tryz.prog 160 #[.int .u32 (x : Int), .int .u32 (y : Int), .int .u32 (c : Int)] w fun e w' => e = .returned (.tuple #[.int .u32 (((x + 4294967296 - y - c) % 4294967296 : Nat) : Int), .int .u32 ((bw x y c : Nat) : Int)]) ∧ w = w' := by
  obtain ⟨d, hd⟩ : ∃ d, d = (x + 4294967296 - y - c) % 4294967296 := ⟨_, rfl⟩
  have hdI : ((x : Int) - y - c) % 4294967296 = (d : Int) := by omega
  have b1 : 4294967295 ^^^ x < 2 ^ 32 := Nat.xor_lt_two_pow (by omega) (by omega)
  have b2 : (4294967295 ^^^ x) &&& y < 2 ^ 32 := Nat.and_lt_two_pow _ (by omega)
  have b0 : x ^^^ y < 2 ^ 32 := Nat.xor_lt_two_pow (by omega) (by omega)
  have b5 : 4294967295 ^^^ (x ^^^ y) < 2 ^ 32 := Nat.xor_lt_two_pow (by omega) (by omega)
  have b3 : (4294967295 ^^^ (x ^^^ y)) &&& d < 2 ^ 32 := Nat.and_lt_two_pow _ (by omega)
  have E : bits BinOp.or IntKind.u32 (bits BinOp.and IntKind.u32 (bits BinOp.xor IntKind.u32 IntKind.u32.max (x : Int)) (y : Int)) (bits BinOp.and IntKind.u32 (bits BinOp.xor IntKind.u32 IntKind.u32.max (bits BinOp.xor IntKind.u32 (x : Int) (y : Int))) (((x : Int) - y - c) % 4294967296)) / 2147483648 = ((bw x y c : Nat) : Int) := by
    rw [hdI, max_u32, show (4294967295 : Int) = ((4294967295 : Nat) : Int) from rfl, u32_xor _ x (by omega) hx, u32_and _ y (by omega) hy, u32_xor x y hx hy, u32_xor _ (x ^^^ y) (by omega) (by omega), u32_and _ d (by omega) (by omega), u32_or _ _ (by omega) (by omega)]
    rw [← borrow_nat x y c d hx hy hc hd]
    omega
  have E := Lib.hid E
  have D := Lib.hid hdI
  rw [← hd]
  clear hd hdI b0 b1 b2 b3 b5
  go_enter Tryz.func160, Tryz.ntmps160
  go_wp2
  all_goals
    go_ret2
    first | exact ⟨ret_two D.out rfl, rfl⟩ | exact ⟨ret_two D.out E.out, rfl⟩
theorem order_c (w : World) (n m : Nat) (ha : In w a cap (lims n)) (hb : In w b cap2 (lims m)) :
    Calls Tryz.prog 94 #[.slice a (lims n).length cap, .slice b (lims m).length cap2] w fun e w' => e = .returned (.int .i64 (cmpN n m)) ∧ Fr [] w w' := by
  have hsa := ha.sm
  have hsb := hb.sm
  rcases Nat.lt_trichotomy (lims n).length (lims m).length with hl | hl | hl
  · have hc : cmpN n m = -1 := by unfold cmpN; rw [if_pos (lims_len_lt hl)]
    have hi : cmpI ((lims n).length : Int) ((lims m).length : Int) = -1 := by unfold cmpI; rw [if_pos (by omega)]
    rw [hc]
    have HI := Lib.hid hi
    clear hc hi ha hb
    go_enter Tryz.func94, Tryz.ntmps94
    go_wp2_with fail
    refine (compare_c _ _ _).mono ?_
    rintro e w' ⟨rfl, rfl⟩
    rw [HI.out]
    go_wp2
    go_ret
    exact ⟨rfl, Fr.refl _ _⟩
  · have hi : cmpI ((lims n).length : Int) ((lims m).length : Int) = 0 := by unfold cmpI; rw [if_neg (by omega), if_neg (by omega)]
    have HI := Lib.hid hi
    have HL := Lib.hid hl
    have HA := Lib.hid ha
    have HB := Lib.hid hb
    clear hi hl ha hb
    go_enter Tryz.func94, Tryz.ntmps94
    go_wp2_with fail
    refine (compare_c _ _ _).mono ?_
    rintro e w' ⟨rfl, rfl⟩
    rw [HI.out]
    go_wp2_with fail
    go_loopw [6, 7] (fun x c wr => ∃ k : Nat, k ≤ (lims n).length ∧ x = .int .i64 ((k : Int) - 1) ∧ Hid ((lims n).drop k = (lims m).drop k) ∧ Hid (Fr [] w wr)) (fun x _ _ => (intOf x + 1).toNat)
    case atStart => exact ⟨(lims n).length, Nat.le_refl _, rfl, Lib.hid (by rw [List.drop_of_length_le (Nat.le_refl _), List.drop_of_length_le (by rw [HL.out]; exact Nat.le_refl _)]), Lib.hid (Fr.refl _ _)⟩
    case round =>
      obtain ⟨k, hk, rfl, hd, hF⟩ := hrel
      cases k with
      | zero =>
        have hc : Hid (cmpN n m = 0) := Lib.hid (by
          have h1 := hd.out
          simp only [List.drop_zero] at h1
          have h2 : n = m := by rw [← val_lims n, h1, val_lims]
          unfold cmpN; rw [if_neg (by omega), if_neg (by omega)])
        rw [show (((0 : Nat) : Int) - 1) = -1 from rfl]
        go_wp2
        go_ret
        exact ⟨ret_int hc.out.symm, hF.out⟩
      | succ j =>
        rw [show (((j + 1 : Nat) : Int) - 1) = (j : Int) from by omega]
        have hj2 : j < (lims m).length := by rw [← HL.out]; omega
        have hj1 : j < (lims n).length := by omega
        have A1 := HA.out.keep hF.out
        have B1 := HB.out.keep hF.out
        obtain ⟨ab, ao, ha1, ha2, hca⟩ := A1.at hj1
        obtain ⟨bb, bo, hb1, hb2, hcb⟩ := B1.at hj2
        subst ha1; subst hb1
        have gj1 : (j : Int) < ((lims n).length : Int) := by omega
        have gj2 : (j : Int) < ((lims m).length : Int) := by omega
        have gj0 : (0 : Int) ≤ (j : Int) := by omega
        have D1 := Lib.hid (fun (h : (lims n)[j]?.getD 0 < (lims m)[j]?.getD 0) => val_lt_of (lim_lims n) HL.out j hd.out hj1 h)
        have D2 := Lib.hid (fun (h : (lims m)[j]?.getD 0 < (lims n)[j]?.getD 0) => val_lt_of (lim_lims m) HL.out.symm j hd.out.symm hj2 h)
        have D3 : Hid ((lims n)[j]?.getD 0 = (lims m)[j]?.getD 0 → (lims n).drop j = (lims m).drop j) := Lib.hid (fun h => by
          rw [List.drop_eq_getElem_cons hj1, List.drop_eq_getElem_cons hj2, hd.out]
          rw [List.getElem?_eq_getElem hj1, List.getElem?_eq_getElem hj2] at h
          simp only [Option.getD_some] at h
          rw [h])
        rw [val_lims, val_lims] at D1 D2
        generalize (lims n)[j]?.getD 0 = x at *
        generalize (lims m)[j]?.getD 0 = y at *
        clear HA HB A1 B1
        rcases Nat.lt_trichotomy x y with hxy | hxy | hxy
        · have HC : Hid (cmpI (x : Int) (y : Int) = -1) := Lib.hid (by unfold cmpI; rw [if_pos (by omega)])
          have hcm : Hid (cmpN n m = -1) := Lib.hid (by unfold cmpN; rw [if_pos (D1.out hxy)])
          clear D1 D2 D3 hxy
          go_wp2_with fail
          go_quiet ((go_at_call 126; exact Calls.quiet_of_same ((compare32_c _ _ _).mono fun e w' h => ⟨h.1, h.2.symm⟩)))
          rw [HC.out]
          go_wp2
          go_ret
          exact ⟨ret_int hcm.out.symm, hF.out.drewN _⟩
        · have HC : Hid (cmpI (x : Int) (y : Int) = 0) := Lib.hid (by unfold cmpI; rw [if_neg (by omega), if_neg (by omega)])
          have d3 := Lib.hid (D3.out hxy)
          clear D1 D2 D3 hxy
          go_wp2_with fail
          go_quiet ((go_at_call 126; exact Calls.quiet_of_same ((compare32_c _ _ _).mono fun e w' h => ⟨h.1, h.2.symm⟩)))
          rw [HC.out]
          go_wp2
          go_roundw
          case rel => exact ⟨j, by omega, rfl, d3, Lib.hid (hF.out.drewN _)⟩
          case measure => simp [intOf]
        · have HC : Hid (cmpI (x : Int) (y : Int) = 1) := Lib.hid (by unfold cmpI; rw [if_neg (by omega), if_pos (by omega)])
          have hcm : Hid (cmpN n m = 1) := Lib.hid (by unfold cmpN; rw [if_neg (by have := D2.out hxy; omega), if_pos (D2.out hxy)])
          clear D1 D2 D3 hxy
          go_wp2_with fail
          go_quiet ((go_at_call 126; exact Calls.quiet_of_same ((compare32_c _ _ _).mono fun e w' h => ⟨h.1, h.2.symm⟩)))
          rw [HC.out]
          go_wp2
          go_ret
          exact ⟨ret_int hcm.out.symm, hF.out.drewN _⟩
  · have hc : cmpN n m = 1 := by unfold cmpN; rw [if_neg (by have := lims_len_lt hl; omega), if_pos (lims_len_lt hl)]
    have hi : cmpI ((lims n).length : Int) ((lims m).length : Int) = 1 := by unfold cmpI; rw [if_neg (by omega), if_pos (by omega)]
    rw [hc]
    have HI := Lib.hid hi
    clear hc hi ha hb
    go_enter Tryz.func94, Tryz.ntmps94
    go_wp2_with fail
    refine (compare_c _ _ _).mono ?_
    rintro e w' ⟨rfl, rfl⟩
    rw [HI.out]
    go_wp2
    go_ret
    exact ⟨rfl, Fr.refl _ _⟩
theorem lcmp_c (w : World) (ha : In w a cap L) (hb : In w b cap2 M) :
    Calls Tryz.prog 115 #[.slice a L.length cap, .slice b M.length cap2] w fun e w' => e = .returned (.int .i64 (cmpN (val L) (val M))) ∧ Fr [] w w' := by
  have HA := Lib.hid ha
  have HB := Lib.hid hb
  clear ha hb
  go_enter Tryz.func115, Tryz.ntmps115
  go_wp2_with fail
  refine (ltrim_c w HA.out).mono ?_
  rintro e w1 ⟨a1, c1, rfl, N1, F1⟩
  have HB1 := Lib.hid (HB.out.keep F1)
  have N1 := Lib.hid N1
  have F1 := Lib.hid F1
  go_wp2_with fail
  refine (ltrim_c w1 HB1.out).mono ?_
  rintro e w2 ⟨a2, c2, rfl, N2, F2⟩
  have HA2 := Lib.hid (N1.out.keep F2).in
  have HB2 := Lib.hid N2.in
  have FF := Lib.hid (F1.out.same F2)
  clear N2 F2 N1 F1 HB1 HA HB
  go_wp2_with fail
  refine (order_c w2 _ _ HA2.out HB2.out).mono ?_
  rintro e w3 ⟨rfl, F3⟩
  have FF3 := Lib.hid (FF.out.same F3)
  clear F3
  go_wp2
  go_ret
  exact ⟨rfl, FF3.out⟩
def CapRes (w : World) (n : Nat) (e : Ending) (w' : World) : Prop :=
  if n < 4294967296 ^ 64 then ∃ a cap, e = .returned (.tuple #[.slice a (lims n).length cap, .int .i64 0]) ∧ Nw w' w.heap.size a cap (lims n) ∧ Fr [] w w'
  else e = .returned (.tuple #[.slice none 0 0, .int .i64 11]) ∧ Fr [] w w'
theorem lcapped_c (w : World) (ha : In w a cap L) : Calls Tryz.prog 99 #[.slice a L.length cap] w (CapRes w (val L)) := by
  have HA := Lib.hid ha
  clear ha
  by_cases h : val L < 4294967296 ^ 64
  · have hl : (lims (val L)).length ≤ 64 := len_lims.2 h
    have HC : Hid (∀ a1 c1 w1, Nw w1 w.heap.size a1 c1 (lims (val L)) → Fr [] w w1 → CapRes w (val L) (.returned (.tuple #[.slice a1 (lims (val L)).length c1, .int .i64 0])) w1) := Lib.hid (fun a1 c1 w1 h1 h2 => by
      unfold CapRes; rw [if_pos h]; exact ⟨a1, c1, rfl, h1, h2⟩)
    clear h
    go_enter Tryz.func99, Tryz.ntmps99
    go_wp2_with fail
    refine (ltrim_c w HA.out).mono ?_
    rintro e w1 ⟨a1, c1, rfl, N1, F1⟩
    have D := Lib.hid (HC.out a1 c1 w1 N1 F1)
    have hd : decide (64 < (lims (val L)).length) = false := by simpa using hl
    have HD := Lib.hid hd
    clear N1 F1 hd
    go_wp2_with fail
    refine (lbig_c _ _ _ _).mono ?_
    rintro e w2 ⟨rfl, rfl⟩
    rw [HD.out]
    go_wp2
    go_ret2
    exact D.out
  · have hl : 64 < (lims (val L)).length := by
      rcases Nat.lt_or_ge 64 (lims (val L)).length with h1 | h1
      · exact h1
      · exact absurd (len_lims.1 h1) h
    have HC : Hid (∀ w1, Fr [] w w1 → CapRes w (val L) (.returned (.tuple #[.slice none 0 0, .int .i64 11])) w1) := Lib.hid (fun w1 h2 => by
      unfold CapRes; rw [if_neg h]; exact ⟨rfl, h2⟩)
    clear h
    go_enter Tryz.func99, Tryz.ntmps99
    go_wp2_with fail
    refine (ltrim_c w HA.out).mono ?_
    rintro e w1 ⟨a1, c1, rfl, N1, F1⟩
    have D := Lib.hid (HC.out w1 F1)
    have hd : decide (64 < (lims (val L)).length) = true := by simpa using hl
    have HD := Lib.hid hd
    clear N1 F1 hd
    go_wp2_with fail
    refine (lbig_c _ _ _ _).mono ?_
    rintro e w2 ⟨rfl, rfl⟩
    rw [HD.out]
    go_wp2
    go_ret2
    exact D.out
end
section
open Go.ChangeShapes Go.WideShapes Go.RowKit
variable {w w' w2 wr : World} {a b : Option Addr} {cap cap2 : Nat} {L M : List Nat} {B : Nat}
theorem app_step {o : Obj} (hN : Nw wr B a cap L) (F : Fr [] w2 wr) (hB : w2.heap.size ≤ B) {z : Nat} (hz : z < 4294967296) (hs : L.length < 100000) {g5 cap5 : Nat} {w5 : World}
    (own5 : w5.ownsRow B 84 1 (.slice (some ⟨g5, 0, none⟩) (L.length + 1) cap5) (L.length + 1) (lc L ++ [.int .u32 (z : Int)])) (gr5 : (wr.alloc o).grownBy w5 (Value.ownBlock (.slice a L.length cap))) :
    Nw w5 B (some ⟨g5, 0, none⟩) cap5 (L ++ [z]) ∧ Fr [] w2 w5 := by
  constructor
  · refine Nw.of_own (n := L.length + 1) ?_ (lim_append.2 ⟨hN.lim, lim_cons.2 ⟨hz, lim_nil⟩⟩) (by simp; omega)
    rw [lc_append]; exact own5
  · have hg := grown_fr gr5
    refine (F.alloc o).trans hg ?_
    intro x hx
    right
    have := (hN.own.lt x (by simpa using hx)).1
    omega
theorem nw_alloc (hN : Nw wr B a cap L) (o : Obj) : (wr.alloc o).ownsRow B 84 1 (.slice a L.length cap) L.length (lc L) := (hN.keep ((Fr.refl [] _).alloc o)).own
def CapR (w : World) (g : Bool) (n : Nat) (e : Ending) (w' : World) : Prop :=
  match g with
  | true => ∃ a cap, e = .returned (.tuple #[.slice a (lims n).length cap, .int .i64 0]) ∧ Nw w' w.heap.size a cap (lims n) ∧ Fr [] w w'
  | false => e = .returned (.tuple #[.slice none 0 0, .int .i64 11]) ∧ Fr [] w w'
theorem capR_mono {w w0 : World} {g : Bool} {n : Nat} {e : Ending} {w' : World} (h : CapR w g n e w') (hF : Fr [] w0 w) : CapR w0 g n e w' := by
  cases g with
  | true => obtain ⟨a, cap, h1, h2, h3⟩ := h; exact ⟨a, cap, h1, h2.base hF.size, hF.same h3⟩
  | false => exact ⟨h.1, hF.same h.2⟩
def fits (n : Nat) : Bool := decide (n < 4294967296 ^ 64)
theorem fits_len (n : Nat) : fits n = decide ((lims n).length ≤ 64) := by unfold fits; rw [decide_eq_decide, len_lims]
theorem fits_le {n m : Nat} (h : n ≤ m) (hm : fits m = true) : fits n = true := by
  unfold fits at *; simp only [decide_eq_true_eq] at *; exact Nat.lt_of_le_of_lt h hm
theorem capR_of {n : Nat} {e : Ending} (h : CapRes w n e w') : CapR w (fits n) n e w' := by
  unfold CapRes at h
  unfold fits
  by_cases hn : n < 4294967296 ^ 64
  · rw [if_pos hn] at h; rw [decide_eq_true hn]; exact h
  · rw [if_neg hn] at h; rw [decide_eq_false hn]; exact h
theorem capped_c (w : World) (ha : In w a cap L) : Calls Tryz.prog 99 #[.slice a L.length cap] w (CapR w (fits (val L)) (val L)) :=
  (lcapped_c w ha).mono fun _ _ h => capR_of h
def AddInv (n m : Nat) (out : List Nat) (cy : Nat) : Prop := val out + 4294967296 ^ out.length * cy = val ((lims n).take out.length) + val ((lims m).take out.length)
theorem AddInv.start (n m : Nat) : AddInv n m [] 0 := by simp [AddInv, val]
theorem AddInv.step {n m cy : Nat} {out : List Nat} (h : AddInv n m out cy) :
    AddInv n m (out ++ [((lims n)[out.length]?.getD 0 + (lims m)[out.length]?.getD 0 + cy) % 4294967296]) (((lims n)[out.length]?.getD 0 + (lims m)[out.length]?.getD 0 + cy) / 4294967296) := by
  unfold AddInv at h ⊢
  rw [List.length_append, List.length_singleton, val_snoc, val_take_succ (lims n) out.length, val_take_succ (lims m) out.length, Nat.pow_succ]
  exact add_step h
theorem AddInv.done {n m cy : Nat} {out : List Nat} (h : AddInv n m out cy) (h1 : (lims n).length ≤ out.length) (h2 : (lims m).length ≤ out.length) : val (out ++ [cy]) = n + m := by
  unfold AddInv at h
  rw [val_snoc, h, List.take_of_length_le h1, List.take_of_length_le h2, val_lims, val_lims]
set_option maxHeartbeats 1000000 in
set_option maxRecDepth 100000 in
theorem ladd_c (w : World) (ha : In w a cap L) (hb : In w b cap2 M) : Calls Tryz.prog 54 #[.slice a L.length cap, .slice b M.length cap2] w (CapR w (fits (val L + val M)) (val L + val M)) := by
  have HA := Lib.hid ha
  have HB := Lib.hid hb
  clear ha hb
  generalize hn : val L = n at *
  generalize hm : val M = m at *
  have HN := Lib.hid hn
  have HM := Lib.hid hm
  clear hn hm
  by_cases hbig : (lims n).length ≤ 64 ∧ (lims m).length ≤ 64
  · obtain ⟨hx, hy⟩ := hbig
    have bx : decide (64 < (lims n).length) = false := by simpa using hx
    have by_ : decide (64 < (lims m).length) = false := by simpa using hy
    have BX := Lib.hid bx
    have BY := Lib.hid by_
    clear bx by_
    have MK : ∀ W : World, (Instr.makeSlice 34 (.int .i64 0) (.int .i64 (((lims n).length : Int) + (lims m).length + 1))).run Tryz.prog W = .ok (.slice (some ⟨W.heap.size, 0, none⟩) 0 ((lims n).length + (lims m).length + 1)) (W.alloc (.cells (lc (nils ((lims n).length + (lims m).length + 1))).toArray 84)) := fun W => by
      have := run_u32s W 0 ((lims n).length + (lims m).length + 1) (by omega) (by omega)
      simpa using this
    go_enter Tryz.func54, Tryz.ntmps54
    go_wp2_with fail
    refine (ltrim_c w HA.out).mono ?_
    rintro e w1 ⟨a1, c1, rfl, N1, F1⟩
    rw [HN.out] at N1 ⊢
    have HB1 := Lib.hid (HB.out.keep F1)
    have N1 := Lib.hid N1
    have F1 := Lib.hid F1
    go_wp2_with fail
    refine (ltrim_c w1 HB1.out).mono ?_
    rintro e w2 ⟨a2, c2, rfl, N2, F2⟩
    rw [HM.out] at N2 ⊢
    have X := Lib.hid (N1.out.keep F2).in
    have Y := Lib.hid N2.in
    have FF := Lib.hid (F1.out.same F2)
    clear N2 F2 N1 F1 HB1 HA HB
    go_wp2_with fail
    refine (lbig_c _ _ _ _).mono ?_
    rintro e w' ⟨rfl, rfl⟩
    rw [BX.out]
    go_wp2_with fail
    refine (lbig_c _ _ _ _).mono ?_
    rintro e w' ⟨rfl, rfl⟩
    rw [BY.out]
    go_wp2_with fail
    all_goals
      obtain ⟨i0, hi, hz0, hz1, hz2⟩ := info_parts info_u32
      have HI := Lib.hid hi
      have Z0 := Lib.hid hz0
      have Z1 := Lib.hid hz1
      have Z2 := Lib.hid hz2
      clear hi hz0 hz1 hz2
      have N0 : Hid (Nw (w2.alloc (.cells (lc (nils ((lims n).length + (lims m).length + 1))).toArray 84)) w2.heap.size (some ⟨w2.heap.size, 0, none⟩) ((lims n).length + (lims m).length + 1) []) := Lib.hid (Nw.made w2 0 _ (Nat.le_refl _) (by omega) (by omega))
      have F0 : Hid (Fr [] w2 (w2.alloc (.cells (lc (nils ((lims n).length + (lims m).length + 1))).toArray 84))) := Lib.hid ((Fr.refl [] _).alloc _)
      obtain ⟨K, hK1, hK2, hK3⟩ : ∃ K, (lims n).length ≤ K ∧ (lims m).length ≤ K ∧ (K ≤ (lims n).length ∨ K ≤ (lims m).length) := ⟨max (lims n).length (lims m).length, by omega, by omega, by omega⟩
      go_loopw [33, 8, 9, 10, 6, 7] (fun s33 _ _ _ s6 s7 wr => ∃ (out : List Nat) (ao : Option Addr) (co cy : Nat), out.length ≤ K ∧ s33 = .int .i64 (out.length : Int) ∧ s6 = .slice ao out.length co ∧ s7 = .int .u32 (cy : Int) ∧ cy ≤ 1 ∧ AddInv n m out cy ∧ Hid (Nw wr w2.heap.size ao co out) ∧ Hid (Fr [] w2 wr)) (fun x _ _ _ _ _ _ => K - (intOf x).toNat)
      case atStart => exact ⟨[], _, _, 0, by simp, rfl, rfl, rfl, by omega, AddInv.start n m, N0, F0⟩
      case round =>
        obtain ⟨out, ao, co, cy, ho, rfl, rfl, rfl, hcy, hV, hN, hF⟩ := hrel
        by_cases hlt : out.length < K
        · (try have t1 : out.length < (lims m).length := by omega)
          (try have t2 : out.length < (lims n).length := by omega)
          have X1 := Lib.hid (X.out.keep hF.out)
          have Y1 := Lib.hid (Y.out.keep hF.out)
          have bx := lim_get (lim_lims n) out.length
          have by_ := lim_get (lim_lims m) out.length
          have CX := Lib.hid (lat_c wr X1.out out.length)
          have CY := Lib.hid (lat_c wr Y1.out out.length)
          obtain ⟨x, hx⟩ : ∃ x, x = (lims n)[out.length]?.getD 0 := ⟨_, rfl⟩
          obtain ⟨y, hy⟩ : ∃ y, y = (lims m)[out.length]?.getD 0 := ⟨_, rfl⟩
          have VS : Hid (AddInv n m (out ++ [(x + y + cy) % 4294967296]) ((x + y + cy) / 4294967296)) := Lib.hid (by rw [hx, hy]; exact hV.step)
          rw [← hx] at CX bx
          rw [← hy] at CY by_
          have hz : (x + y + cy) % 4294967296 < 4294967296 := Nat.mod_lt _ (by decide)
          have hc2 : (x + y + cy) / 4294967296 ≤ 1 := by omega
          have CS := Lib.hid (fun W => add32_c x y cy W bx by_ hcy)
          generalize (x + y + cy) % 4294967296 = z at *
          generalize (x + y + cy) / 4294967296 = c2 at *
          have V1 := VS.out
          clear hx hy bx by_ VS hV
          go_wp2_with fail
          refine CX.out.mono ?_
          rintro e w' ⟨rfl, rfl⟩
          go_wp2_with fail
          refine CY.out.mono ?_
          rintro e w' ⟨rfl, rfl⟩
          go_wp2_with fail
          refine (CS.out _).mono ?_
          rintro e w' ⟨rfl, rfl⟩
          clear CX CY CS
          have OW := Lib.hid (nw_alloc hN.out (.cells #[.int .u32 (z : Int)] 84))
          have NW := Lib.hid (heap_alloc_new wr (.cells #[.int .u32 (z : Int)] 84))
          have hBs : w2.heap.size ≤ (wr.alloc (.cells #[.int .u32 (z : Int)] 84)).heap.size := by have := hF.out.size; rw [size_alloc]; omega
          clear X1 Y1
          go_wp2_with (at_builtin; refine wpList_append_lies _ rfl _ _ 34 rfl w2.heap.size 84 i0 (.int .u32 0) 1 4 Tryz.underlying34 HI.out Z0.out Z1.out Z2.out rfl (by omega) (.slice ao out.length co) out.length (lc out) rfl OW.out ⟨wr.heap.size, 0, none⟩ 1 1 [.int .u32 (z : Int)] rfl rfl (World.news_of_block NW.out) (by simp [Value.oneCell']) (by omega) (by unfold maxLen; omega) (by omega) hBs _ rfl ?_; intro g5 cap5 w5 own5 gr5 at5 lt5; have Q := Lib.hid (app_step hN.out hF.out (Nat.le_refl _) hz (by omega) own5 gr5); clear own5 gr5 at5)
          go_roundw
          case rel => exact ⟨out ++ [z], _, _, c2, by simp; omega, by simp, by simp, rfl, hc2, V1, Lib.hid Q.out.1, Lib.hid Q.out.2⟩
          case measure => simp [intOf]; omega
        · have t1 : ¬ out.length < (lims m).length := by omega
          have t2 : ¬ out.length < (lims n).length := by omega
          have V3 := Lib.hid (hV.done (by omega) (by omega))
          have hz : cy < 4294967296 := by omega
          have OW := Lib.hid (nw_alloc hN.out (.cells #[.int .u32 (cy : Int)] 84))
          have NW := Lib.hid (heap_alloc_new wr (.cells #[.int .u32 (cy : Int)] 84))
          have hBs : w2.heap.size ≤ (wr.alloc (.cells #[.int .u32 (cy : Int)] 84)).heap.size := by have := hF.out.size; rw [size_alloc]; omega
          clear hV
          go_wp2_with (at_builtin; refine wpList_append_lies _ rfl _ _ 34 rfl w2.heap.size 84 i0 (.int .u32 0) 1 4 Tryz.underlying34 HI.out Z0.out Z1.out Z2.out rfl (by omega) (.slice ao out.length co) out.length (lc out) rfl OW.out ⟨wr.heap.size, 0, none⟩ 1 1 [.int .u32 (cy : Int)] rfl rfl (World.news_of_block NW.out) (by simp [Value.oneCell']) (by omega) (by unfold maxLen; omega) (by omega) hBs _ rfl ?_; intro g5 cap5 w5 own5 gr5 at5 lt5; have Q := Lib.hid (app_step hN.out hF.out (Nat.le_refl _) hz (by omega) own5 gr5); clear own5 gr5 at5)
          have CC := Lib.hid (capped_c w5 Q.out.1.in)
          rw [V3.out, List.length_append] at CC
          cases hf : fits (n + m) with
          | true =>
            have D : Hid (∀ a6 c6 w6, Nw w6 w5.heap.size a6 c6 (lims (n + m)) → Fr [] w5 w6 → CapR w (fits (n + m)) (n + m) (.returned (.tuple #[.slice a6 (lims (n + m)).length c6, .int .i64 0])) w6) := Lib.hid (fun a6 c6 w6 h1 h2 => by
              rw [hf]; exact capR_mono (g := true) ⟨a6, c6, rfl, h1, h2⟩ (FF.out.same Q.out.2))
            rw [hf] at CC
            clear hf
            refine CC.out.mono ?_
            rintro e w6 ⟨a6, c6, rfl, N6, F6⟩
            have D := Lib.hid (D.out a6 c6 w6 N6 F6)
            clear N6 F6 CC Q
            go_wp2
            go_ret2
            exact D.out
          | false =>
            have D : Hid (∀ w6, Fr [] w5 w6 → CapR w (fits (n + m)) (n + m) (.returned (.tuple #[.slice none 0 0, .int .i64 11])) w6) := Lib.hid (fun w6 h2 => by
              rw [hf]; exact capR_mono (g := false) ⟨rfl, h2⟩ (FF.out.same Q.out.2))
            rw [hf] at CC
            clear hf
            refine CC.out.mono ?_
            rintro e w6 ⟨rfl, F6⟩
            have D := Lib.hid (D.out w6 F6)
            clear F6 CC Q
            go_wp2
            go_ret2
            exact D.out
  · have hf : fits (n + m) = false := by
      cases h : fits (n + m) with
      | false => rfl
      | true =>
        have h1 := fits_le (show n ≤ n + m by omega) h
        have h2 := fits_le (show m ≤ n + m by omega) h
        rw [fits_len] at h1 h2
        simp only [decide_eq_true_eq] at h1 h2
        exact absurd ⟨h1, h2⟩ hbig
    rw [hf]
    clear hf
    by_cases hx : (lims n).length ≤ 64
    · have bx : decide (64 < (lims n).length) = false := by simpa using hx
      have by_ : decide (64 < (lims m).length) = true := by simp; omega
      have BX := Lib.hid bx
      have BY := Lib.hid by_
      clear bx by_ hx hbig
      go_enter Tryz.func54, Tryz.ntmps54
      go_wp2_with fail
      refine (ltrim_c w HA.out).mono ?_
      rintro e w1 ⟨a1, c1, rfl, N1, F1⟩
      rw [HN.out] at N1 ⊢
      have HB1 := Lib.hid (HB.out.keep F1)
      have F1 := Lib.hid F1
      clear N1
      go_wp2_with fail
      refine (ltrim_c w1 HB1.out).mono ?_
      rintro e w2 ⟨a2, c2, rfl, N2, F2⟩
      rw [HM.out] at N2 ⊢
      have FF := Lib.hid (F1.out.same F2)
      clear N2 F2 F1 HB1 HA HB
      go_wp2_with fail
      refine (lbig_c _ _ _ _).mono ?_
      rintro e w' ⟨rfl, rfl⟩
      rw [BX.out]
      go_wp2_with fail
      refine (lbig_c _ _ _ _).mono ?_
      rintro e w' ⟨rfl, rfl⟩
      rw [BY.out]
      go_wp2
      go_ret2
      exact ⟨rfl, FF.out⟩
    · have bx : decide (64 < (lims n).length) = true := by simp; omega
      have BX := Lib.hid bx
      clear bx hx hbig
      go_enter Tryz.func54, Tryz.ntmps54
      go_wp2_with fail
      refine (ltrim_c w HA.out).mono ?_
      rintro e w1 ⟨a1, c1, rfl, N1, F1⟩
      rw [HN.out] at N1 ⊢
      have HB1 := Lib.hid (HB.out.keep F1)
      have F1 := Lib.hid F1
      clear N1
      go_wp2_with fail
      refine (ltrim_c w1 HB1.out).mono ?_
      rintro e w2 ⟨a2, c2, rfl, N2, F2⟩
      have FF := Lib.hid (F1.out.same F2)
      clear N2 F2 F1 HB1 HA HB
      go_wp2_with fail
      refine (lbig_c _ _ _ _).mono ?_
      rintro e w' ⟨rfl, rfl⟩
      rw [BX.out]
      go_wp2
      go_ret2
      exact ⟨rfl, FF.out⟩
end
end Go.Proofs.YtcjkgnafpkkjmaaGreatDoor
