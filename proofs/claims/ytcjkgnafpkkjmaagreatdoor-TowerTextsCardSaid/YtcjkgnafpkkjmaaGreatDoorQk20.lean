/- The texts and numbers of numbers: a part of the walk. No condition. -/
import Derived.Test.YtcjkgnafpkkjmaaGreatDoorQk19
import Derived.Test.YtcjkgnafpkkjmaaGreatDoorQk17
set_option linter.all false
namespace Go.Proofs.YtcjkgnafpkkjmaaGreatDoor
section
open Go.ChangeShapes Go.WideShapes Go.RowKit Go.Shelf Go.Lib
theorem and2047_i64 (v : Nat) (h : v < 4096) : bits BinOp.and IntKind.i64 (v : Int) 2047 = ((v % 2048 : Nat) : Int) := by
  show IntKind.i64.wrap ((BitVec.ofInt 64 (v : Int) &&& BitVec.ofInt 64 2047).toNat : Int) = _
  rw [BitVec.toNat_and]
  have h1 : (BitVec.ofInt 64 (v : Int)).toNat = v := by
    rw [BitVec.ofInt_natCast, BitVec.toNat_ofNat]; exact Nat.mod_eq_of_lt (by omega)
  have h2 : (BitVec.ofInt 64 (2047 : Int)).toNat = 2047 := by decide
  rw [h1, h2, Nat.and_two_pow_sub_one_eq_mod _ 11, IntKind.wrap_i64]
  omega
theorem or_top (F : Nat) (h : F < 4503599627370496) : bits BinOp.or IntKind.u64 (F : Int) 4503599627370496 = ((F + 4503599627370496 : Nat) : Int) := by
  have := or_exp (F : Int) 1 (by omega) (by omega) (by decide) (by decide)
  rw [show (1 : Int) * 4503599627370496 = 4503599627370496 by decide] at this
  rw [this]; omega
theorem bitLen_pos (n : Nat) (h : 0 < n) (h2 : n < 18446744073709551616) : 1 ≤ Lib.bitLen n := (Lib.bitLenAux_bounds 64 n h2 (by omega)).1
def dsN (d nd z : Nat) : List Nat := (List.range z).map fun t => dgN d (nd - 1 - t)
theorem dsN_len (d nd z : Nat) : (dsN d nd z).length = z := by simp [dsN]
theorem dsN_dig (d nd z : Nat) : Fmt.Dig (dsN d nd z) := by
  intro c hc
  obtain ⟨t, _, rfl⟩ := List.mem_map.1 hc
  unfold dgN
  have := Nat.mod_lt (d / 10 ^ (nd - 1 - t)) (show 0 < 10 by decide)
  omega
theorem rowB_dsN {w0 w3 : World} {g x cap d nd z : Nat} (hown : w3.ownsRow w0.heap.size 5 1 (.slice (some ⟨x, 0, none⟩) 0 cap) 0 []) (hx : x < g) (hg : g < w3.heap.size) (D : DigAt w3 g nd d) (hz : z ≤ nd) (hF : Fr [] w0 w3) : RowB w0 g (ib (dsN d nd z)) w3 x cap 0 [] := by
  refine ⟨hown, Nat.ne_of_lt hx, fun t v hv => ?_, hg, hF⟩
  unfold ib dsN at hv
  rw [List.getElem?_map, List.getElem?_map] at hv
  by_cases ht : t < z
  · rw [List.getElem?_range ht] at hv
    obtain rfl := (Option.some.inj hv).symm
    exact D t (by omega)
  · rw [List.getElem?_eq_none (by simpa using ht)] at hv
    exact absurd hv (by simp)
set_option maxRecDepth 100000 in
set_option maxHeartbeats 4000000 in
theorem ftoa_c (b : Nat) (hb : b < 18446744073709551616) (hfin : b / 4503599627370496 % 2048 ≠ 2047) (hnz : b % 9223372036854775808 ≠ 0) : ∃ (neg : Bool) (ds : List Nat) (dp : Int), Fmt.Dig ds ∧ ds.length ≤ 20 ∧ -400 ≤ dp ∧ dp ≤ 400 ∧
    (∀ (w0 w : World) (x : Nat), w.ownsRow w0.heap.size 5 1 (.slice (some ⟨x, 0, none⟩) 0 24) 0 [] → Fr [] w0 w → LdT w → Calls Tryz.prog 110 #[.slice (some ⟨x, 0, none⟩) 0 24, .float .f64 b, .int .u8 101, .int .i64 (-1)] w fun e w' => ∃ x5 c5, e = .returned (.slice (some ⟨x5, 0, none⟩) (Fmt.efgE neg ds dp).length c5) ∧ w'.ownsRow w0.heap.size 5 1 (.slice (some ⟨x5, 0, none⟩) (Fmt.efgE neg ds dp).length c5) (Fmt.efgE neg ds dp).length (rb (Fmt.efgE neg ds dp)) ∧ Fr [] w0 w') ∧
    (∀ (w0 w : World) (x : Nat), w.ownsRow w0.heap.size 5 1 (.slice (some ⟨x, 0, none⟩) 0 24) 0 [] → Fr [] w0 w → LdT w → Calls Tryz.prog 110 #[.slice (some ⟨x, 0, none⟩) 0 24, .float .f64 b, .int .u8 102, .int .i64 (-1)] w fun e w' => ∃ x5 c5, e = .returned (.slice (some ⟨x5, 0, none⟩) (Fmt.efgF neg ds dp).length c5) ∧ w'.ownsRow w0.heap.size 5 1 (.slice (some ⟨x5, 0, none⟩) (Fmt.efgF neg ds dp).length c5) (Fmt.efgF neg ds dp).length (rb (Fmt.efgF neg ds dp)) ∧ Fr [] w0 w') := by
  have hr := isbits_run b
  obtain ⟨E0, hE⟩ : ∃ E0, E0 = b / 4503599627370496 % 2048 := ⟨_, rfl⟩
  obtain ⟨F0, hF0⟩ : ∃ F0, F0 = b % 4503599627370496 := ⟨_, rfl⟩
  obtain ⟨v, hv⟩ : ∃ v, v = b / 4503599627370496 := ⟨_, rfl⟩
  obtain ⟨sg, hsg⟩ : ∃ sg, sg = b / 9223372036854775808 := ⟨_, rfl⟩
  have hvb : v < 4096 := by omega
  have a1 : (b : Int) / 4503599627370496 = (v : Int) := by omega
  have a2 := and2047_i64 v hvb
  rw [hv, ← hE, ← hv] at a2
  have a3 := and_frac b hb
  rw [← hF0] at a3
  have a4 : (b : Int) / 9223372036854775808 = (sg : Int) := by omega
  have hF0b : F0 < 4503599627370496 := by omega
  have a5 := or_top F0 hF0b
  have hE2 : ((E0 : Int) == 2047) = false := by rw [beq_eq_false_iff_ne]; omega
  have hE3 : E0 < 2047 := by omega
  obtain ⟨X, hX⟩ : ∃ X : Int, X = if E0 = 0 then 1 else (E0 : Int) := ⟨_, rfl⟩
  obtain ⟨M, hM⟩ : ∃ M : Nat, M = if E0 = 0 then F0 else F0 + 4503599627370496 := ⟨_, rfl⟩
  have hM0 : 0 < M := by rw [hM]; split <;> omega
  have hMb : M < 9007199254740992 := by rw [hM]; split <;> omega
  have hX1 : 1 ≤ X ∧ X ≤ 2046 := by rw [hX]; split <;> omega
  obtain ⟨bl, hbl⟩ : ∃ bl, bl = Lib.bitLen M := ⟨_, rfl⟩
  have CL := Lib.hid (fun w1 => by have := Tryz.bits_Len64 (M : Int) w1 (by omega) (by omega); rw [Int.toNat_natCast, ← hbl] at this; exact this)
  have hbl1 : 1 ≤ bl := by rw [hbl]; exact bitLen_pos M hM0 (by omega)
  have hbl2 : bl ≤ 53 := by rw [hbl]; exact Lib.bitLen_le M 53 (by decide) hMb
  obtain ⟨s, hs⟩ : ∃ s, s = 64 - bl := ⟨_, rfl⟩
  obtain ⟨m, hm⟩ : ∃ m, m = M * 2 ^ s % 18446744073709551616 := ⟨_, rfl⟩
  have hmb : m < 18446744073709551616 := by rw [hm]; exact Nat.mod_lt _ (by decide)
  have a6 : IntKind.u64.wrap ((M : Int) * 2 ^ s) = (m : Int) := by
    rw [IntKind.wrap_u64, hm, Int.natCast_emod, Int.natCast_mul, Int.natCast_pow]; rfl
  obtain ⟨e5, he5⟩ : ∃ e5 : Int, X + -1023 - (s : Int) - 52 = e5 := ⟨_, rfl⟩
  have a7 : (64 : Int) - (bl : Int) = (s : Int) := by omega
  obtain ⟨d, p, hd, hp1, hp2, SC⟩ := short_c m e5 hmb (by omega) (by omega)
  obtain ⟨nd, hnd⟩ : ∃ nd, nd = ndN d := ⟨_, rfl⟩
  have hnd1 := ndN_lt d
  have hnd2 := ndN_le d hd
  rw [← hnd] at hnd1 hnd2
  obtain ⟨z, hz1, hz2, hz3⟩ := cutz_some nd d
  obtain ⟨neg, hneg⟩ : ∃ neg, neg = decide (sg ≠ 0) := ⟨_, rfl⟩
  have a8 : ((sg : Int) != 0) = neg := by
    rw [hneg]
    by_cases h : sg = 0
    · subst h; rfl
    · rw [decide_eq_true h, bne_iff_ne]; omega
  have CS := Lib.hid SC
  have HZ2 := Lib.hid hz2
  have HZ3 := Lib.hid hz3
  have HND := Lib.hid hnd
  have HND1 := Lib.hid hnd1
  have HXX := Lib.hid hX
  have HMM := Lib.hid hM
  clear SC hz2 hz3 hnd hnd1 hX hM hE hF0 hv hsg hm hs hfin hnz hneg hbl
  refine ⟨neg, dsN d nd z, (nd : Int) + p, dsN_dig d nd z, by rw [dsN_len]; omega, by omega, by omega, ?_, ?_⟩
  · intro w0 w x hown hF HL
    have hg := HL.big
    obtain ⟨W1, hW1⟩ : ∃ W1, W1 = (w.alloc (.cells #[.int .u8 0, .int .u8 0, .int .u8 0, .int .u8 0, .int .u8 0, .int .u8 0, .int .u8 0, .int .u8 0, .int .u8 0, .int .u8 0, .int .u8 0, .int .u8 0, .int .u8 0, .int .u8 0, .int .u8 0, .int .u8 0, .int .u8 0, .int .u8 0, .int .u8 0, .int .u8 0, .int .u8 0, .int .u8 0, .int .u8 0, .int .u8 0, .int .u8 0, .int .u8 0, .int .u8 0, .int .u8 0, .int .u8 0, .int .u8 0, .int .u8 0, .int .u8 0] 162)).drew := ⟨_, rfl⟩
    obtain ⟨g, hgk⟩ : ∃ g, g = w.heap.size := ⟨_, rfl⟩
    have F1 : Hid (Fr [] w W1) := Lib.hid (by rw [hW1]; exact ((Fr.refl _ _).alloc _).drew)
    have HB : Hid (blk W1 g = some (.cells (Array.replicate 32 (.int .u8 0)) 162 (0, 0))) := Lib.hid (by rw [hW1, hgk, blk_drew, blk_alloc, if_pos rfl]; rfl)
    have HX : Hid (x < g) := Lib.hid (by rw [hgk]; exact own_lt hown)
    have HO := Lib.hid hown
    have HF := Lib.hid hF
    have HLL := Lib.hid HL
    have HGK := Lib.hid hgk
    clear hown hF HL hg
    go_enter Tryz.func110, Tryz.ntmps110
    go_wp2_with fail
    go_region
    all_goals
     go_upto_if 78 with fail
     go_cut [14, 15] from 79 to 84 (fun s14 s15 wx => s14 = .int .i64 X ∧ s15 = .int .u64 (M : Int) ∧ w.drew = wx)
     case first =>
      by_cases h0 : E0 = 0
      · have hE0 : ((E0 : Int) == 0) = true := by simpa using h0
        have H0 := Lib.hid h0
        clear h0
        go_wp2_with fail
        go_meet
        exact ⟨by rw [HXX.out, if_pos H0.out, H0.out]; rfl, by rw [HMM.out, if_pos H0.out], rfl⟩
      · have hE0 : ((E0 : Int) == 0) = false := by rw [beq_eq_false_iff_ne]; omega
        have H0 := Lib.hid h0
        clear h0
        go_wp2_with fail
        go_meet
        exact ⟨by rw [HXX.out, if_neg H0.out], by rw [HMM.out, if_neg H0.out]; exact congrArg (Value.int .u64) (by omega), rfl⟩
     case rest =>
      obtain ⟨rfl, rfl, rfl⟩ := hcut
      go_upto_region 34 with fail
      rw [← hW1, ← hgk]
      clear hW1 hgk
      go_wp2_with fail
      refine (CL.out _).mono ?_
      rintro e w' ⟨rfl, rfl⟩
      have CS := Lib.hid (CS.out w' (HLL.out.fr F1.out))
      go_wp2_with fail
      refine CS.out.mono ?_
      rintro e w2 ⟨rfl, F2⟩
      have HB2 := Lib.hid (F2.at HB.out (by simp))
      have F2 := Lib.hid (F1.out.same F2)
      clear CS HB F1 hr a1 a2 a3 a4 a5 a6 a7 a8
      have CN := Lib.hid (fun (w1 : World) (h : Fr [] w2 w1) => by have := numdig_c d w1 hd ((HLL.out.fr F2.out).fr h).tab; rw [← HND.out] at this; exact this)
      have CD := Lib.hid (fun (w1 : World) (h : Fr [] w2 w1) => setdigg_c w1 g nd z d p HND1.out hd (by omega) (by omega) (by omega) hz1 HZ2.out HZ3.out (h.at HB2.out (by simp)))
      go_wp2_with fail
      have HGL : Hid (g < w2.heap.size) := Lib.hid (lt_size HB2.out)
      clear HB2
      go_region_with (first | (go_at_call 145; refine Calls.mono (CN.out _ ?_) ?_; (· (repeat (first | exact Fr.refl _ _ | apply Fr.drew))); rintro e w3 ⟨rfl, rfl⟩) | (go_at_call 144; refine Calls.mono (CD.out _ ?_) ?_; (· (repeat (first | exact Fr.refl _ _ | apply Fr.drew))); rintro e w3 ⟨rfl, D3, F3⟩; have D3 := Lib.hid D3; have F3 := Lib.hid F3))
      all_goals
        have F2g : Fr [g] w w2 := F2.out.mono (fun _ h => by cases h)
        have FW := Lib.hid ((F2g.same (Fr.refl [g] w2).drew).same F3.out)
        have RB : Hid (RowB w0 g (ib (dsN d nd z)) w3 x 24 0 []) := Lib.hid (rowB_dsN (own_fr HO.out FW.out (fun y hy hm => by
          have e1 : y = x := by simpa [Value.ownBlock, eq_comm] using hy
          have e2 := List.mem_singleton.1 hm
          have := HX.out
          omega)) HX.out (by have := F3.out.size; have h7 : g < w2.heap.size := HGL.out; exact Nat.lt_of_lt_of_le h7 this) D3.out hz1 (HF.out.trans FW.out (fun y hy => .inr (by rw [List.mem_singleton.1 hy, HGK.out]; exact HF.out.size))))
        clear D3 F3 FW F2g HO HX HF HGK CN CD
        obtain ⟨pr, hpr⟩ : ∃ pr : Int, max ((z : Int) - 1) 0 = pr := ⟨_, rfl⟩
        have CE := Lib.hid (efgE_c w0 w3 g x 24 neg (dsN d nd z) ((nd : Int) + p) pr RB.out (by rw [dsN_len]; omega) (by rw [dsN_len]; split <;> omega) (by omega) (by omega))
        rw [dsN_len] at CE
        clear RB
        go_wp2_with fail
        refine CE.out.mono ?_
        rintro e w7 ⟨x5, c5, rfl, R5⟩
        have R5 := Lib.hid R5
        clear CE
        go_wp2_with fail
        go_ret
        exact ⟨x5, c5, rfl, R5.out.own, R5.out.fr⟩
  · intro w0 w x hown hF HL
    have hg := HL.big
    obtain ⟨W1, hW1⟩ : ∃ W1, W1 = (w.alloc (.cells #[.int .u8 0, .int .u8 0, .int .u8 0, .int .u8 0, .int .u8 0, .int .u8 0, .int .u8 0, .int .u8 0, .int .u8 0, .int .u8 0, .int .u8 0, .int .u8 0, .int .u8 0, .int .u8 0, .int .u8 0, .int .u8 0, .int .u8 0, .int .u8 0, .int .u8 0, .int .u8 0, .int .u8 0, .int .u8 0, .int .u8 0, .int .u8 0, .int .u8 0, .int .u8 0, .int .u8 0, .int .u8 0, .int .u8 0, .int .u8 0, .int .u8 0, .int .u8 0] 162)).drew := ⟨_, rfl⟩
    obtain ⟨g, hgk⟩ : ∃ g, g = w.heap.size := ⟨_, rfl⟩
    have F1 : Hid (Fr [] w W1) := Lib.hid (by rw [hW1]; exact ((Fr.refl _ _).alloc _).drew)
    have HB : Hid (blk W1 g = some (.cells (Array.replicate 32 (.int .u8 0)) 162 (0, 0))) := Lib.hid (by rw [hW1, hgk, blk_drew, blk_alloc, if_pos rfl]; rfl)
    have HX : Hid (x < g) := Lib.hid (by rw [hgk]; exact own_lt hown)
    have HO := Lib.hid hown
    have HF := Lib.hid hF
    have HLL := Lib.hid HL
    have HGK := Lib.hid hgk
    clear hown hF HL hg
    go_enter Tryz.func110, Tryz.ntmps110
    go_wp2_with fail
    go_region
    all_goals
     go_upto_if 78 with fail
     go_cut [14, 15] from 79 to 84 (fun s14 s15 wx => s14 = .int .i64 X ∧ s15 = .int .u64 (M : Int) ∧ w.drew = wx)
     case first =>
      by_cases h0 : E0 = 0
      · have hE0 : ((E0 : Int) == 0) = true := by simpa using h0
        have H0 := Lib.hid h0
        clear h0
        go_wp2_with fail
        go_meet
        exact ⟨by rw [HXX.out, if_pos H0.out, H0.out]; rfl, by rw [HMM.out, if_pos H0.out], rfl⟩
      · have hE0 : ((E0 : Int) == 0) = false := by rw [beq_eq_false_iff_ne]; omega
        have H0 := Lib.hid h0
        clear h0
        go_wp2_with fail
        go_meet
        exact ⟨by rw [HXX.out, if_neg H0.out], by rw [HMM.out, if_neg H0.out]; exact congrArg (Value.int .u64) (by omega), rfl⟩
     case rest =>
      obtain ⟨rfl, rfl, rfl⟩ := hcut
      go_upto_region 34 with fail
      rw [← hW1, ← hgk]
      clear hW1 hgk
      go_wp2_with fail
      refine (CL.out _).mono ?_
      rintro e w' ⟨rfl, rfl⟩
      have CS := Lib.hid (CS.out w' (HLL.out.fr F1.out))
      go_wp2_with fail
      refine CS.out.mono ?_
      rintro e w2 ⟨rfl, F2⟩
      have HB2 := Lib.hid (F2.at HB.out (by simp))
      have F2 := Lib.hid (F1.out.same F2)
      clear CS HB F1 hr a1 a2 a3 a4 a5 a6 a7 a8
      have CN := Lib.hid (fun (w1 : World) (h : Fr [] w2 w1) => by have := numdig_c d w1 hd ((HLL.out.fr F2.out).fr h).tab; rw [← HND.out] at this; exact this)
      have CD := Lib.hid (fun (w1 : World) (h : Fr [] w2 w1) => setdigg_c w1 g nd z d p HND1.out hd (by omega) (by omega) (by omega) hz1 HZ2.out HZ3.out (h.at HB2.out (by simp)))
      go_wp2_with fail
      have HGL : Hid (g < w2.heap.size) := Lib.hid (lt_size HB2.out)
      clear HB2
      go_region_with (first | (go_at_call 145; refine Calls.mono (CN.out _ ?_) ?_; (· (repeat (first | exact Fr.refl _ _ | apply Fr.drew))); rintro e w3 ⟨rfl, rfl⟩) | (go_at_call 144; refine Calls.mono (CD.out _ ?_) ?_; (· (repeat (first | exact Fr.refl _ _ | apply Fr.drew))); rintro e w3 ⟨rfl, D3, F3⟩; have D3 := Lib.hid D3; have F3 := Lib.hid F3))
      all_goals
        have F2g : Fr [g] w w2 := F2.out.mono (fun _ h => by cases h)
        have FW := Lib.hid ((F2g.same (Fr.refl [g] w2).drew).same F3.out)
        have RB : Hid (RowB w0 g (ib (dsN d nd z)) w3 x 24 0 []) := Lib.hid (rowB_dsN (own_fr HO.out FW.out (fun y hy hm => by
          have e1 : y = x := by simpa [Value.ownBlock, eq_comm] using hy
          have e2 := List.mem_singleton.1 hm
          have := HX.out
          omega)) HX.out (by have := F3.out.size; have h7 : g < w2.heap.size := HGL.out; exact Nat.lt_of_lt_of_le h7 this) D3.out hz1 (HF.out.trans FW.out (fun y hy => .inr (by rw [List.mem_singleton.1 hy, HGK.out]; exact HF.out.size))))
        clear D3 F3 FW F2g HO HX HF HGK CN CD
        obtain ⟨pr, hpr⟩ : ∃ pr : Int, max ((z : Int) - ((nd : Int) + p)) 0 = pr := ⟨_, rfl⟩
        have CE := Lib.hid (efgF_c w0 w3 g x 24 neg (dsN d nd z) ((nd : Int) + p) pr RB.out (by rw [dsN_len]; omega) (by rw [dsN_len]; omega) (by rw [dsN_len]; omega) (by omega) (by omega))
        rw [dsN_len] at CE
        clear RB
        go_wp2_with fail
        refine CE.out.mono ?_
        rintro e w7 ⟨x5, c5, rfl, R5⟩
        have R5 := Lib.hid R5
        clear CE
        go_wp2_with fail
        go_ret
        exact ⟨x5, c5, rfl, R5.out.own, R5.out.fr⟩
end
section
open Go.ChangeShapes Go.WideShapes Go.RowKit Go.Shelf Go.Lib
open Fmt in
set_option maxRecDepth 100000 in
set_option maxHeartbeats 4000000 in
theorem efg0_c (w0 w : World) (g x cap : Nat) (neg : Bool) (R : RowB w0 g (ib []) w x cap 0 []) :
    Calls Tryz.prog 141 #[.slice (some ⟨x, 0, none⟩) 0 cap, .bool neg, .slice none 0 0, .int .i64 0, .int .i64 0, .int .i64 (-1), .int .u8 102, .bool true] w fun e w' => ∃ x5 c5, e = .returned (.slice (some ⟨x5, 0, none⟩) (efgF neg [] 0).length c5) ∧ RowB w0 g (ib []) w' x5 c5 (efgF neg [] 0).length (rb (efgF neg [] 0)) := by
  have R0 : Hid (RowB w0 g (ib []) w x cap 0 (rb [])) := Lib.hid R
  clear R
  cases neg
  · go_enter Tryz.func141, Tryz.ntmps141
    go_wp2_with (at_builtin; refine wpB_new rfl _ _ rfl R0.out [48] 1 _ rfl rfl rfl rfl (by decide) (by omega) ?_; intro x1 c1 w1 R1; have R1 := Lib.hid R1)
    go_ret
    exact ⟨x1, c1, rfl, R1.out⟩
  · go_enter Tryz.func141, Tryz.ntmps141
    go_wp2_with (first | (at_builtin; refine wpB_new rfl _ _ rfl R0.out [45] 1 _ rfl rfl rfl rfl (by decide) (by omega) ?_; intro x1 c1 w1 R1; have R1 := Lib.hid R1) | (at_builtin; refine wpB_new rfl _ _ rfl R1.out [48] 1 _ rfl rfl rfl rfl (by decide) (by omega) ?_; intro x2 c2 w2 R2; have R2 := Lib.hid R2))
    go_ret
    exact ⟨x2, c2, rfl, R2.out⟩
set_option maxRecDepth 100000 in
set_option maxHeartbeats 4000000 in
theorem ftoa0_c (b : Nat) (hb : b < 18446744073709551616) (hz : b % 9223372036854775808 = 0) : ∃ (neg : Bool),
    (∀ (w0 w : World) (x : Nat), w.ownsRow w0.heap.size 5 1 (.slice (some ⟨x, 0, none⟩) 0 24) 0 [] → Fr [] w0 w → LdT w0 → Calls Tryz.prog 110 #[.slice (some ⟨x, 0, none⟩) 0 24, .float .f64 b, .int .u8 102, .int .i64 (-1)] w fun e w' => ∃ x5 c5, e = .returned (.slice (some ⟨x5, 0, none⟩) (Fmt.efgF neg [] 0).length c5) ∧ w'.ownsRow w0.heap.size 5 1 (.slice (some ⟨x5, 0, none⟩) (Fmt.efgF neg [] 0).length c5) (Fmt.efgF neg [] 0).length (rb (Fmt.efgF neg [] 0)) ∧ Fr [] w0 w') := by
  have hr := isbits_run b
  obtain ⟨sg, hsg⟩ : ∃ sg, sg = b / 9223372036854775808 := ⟨_, rfl⟩
  obtain ⟨v, hv⟩ : ∃ v, v = b / 4503599627370496 := ⟨_, rfl⟩
  have a1 : (b : Int) / 4503599627370496 = (v : Int) := by omega
  have a2 := and2047_i64 v (by omega)
  rw [show v % 2048 = 0 by omega] at a2
  have a3 := and_frac b hb
  rw [show b % 4503599627370496 = 0 by omega] at a3
  have a4 : (b : Int) / 9223372036854775808 = (sg : Int) := by omega
  obtain ⟨neg, hneg⟩ : ∃ neg, neg = decide (sg ≠ 0) := ⟨_, rfl⟩
  have a8 : ((sg : Int) != 0) = neg := by
    rw [hneg]
    by_cases h : sg = 0
    · subst h; rfl
    · rw [decide_eq_true h, bne_iff_ne]; omega
  have hvb : v < 4096 := by omega
  clear hneg hsg hv hz
  refine ⟨neg, fun w0 w x hown hF HL => ?_⟩
  have hg := HL.big
  have R : RowB w0 11 (ib []) w.drew x 24 0 [] := ⟨own_fr hown (Fr.refl [] w).drew (by simp), by have := own_base hown; omega, fun t v hv => by simp [ib] at hv, by have := hF.size; show 11 < w.heap.size; omega, hF.drew⟩
  have CE := Lib.hid (efg0_c w0 w.drew 11 x 24 neg R)
  clear R hown hF HL hg
  go_enter Tryz.func110, Tryz.ntmps110
  go_wp2_with fail
  go_region
  all_goals
    go_wp2_with fail
    refine CE.out.mono ?_
    rintro e w7 ⟨x5, c5, rfl, R5⟩
    have R5 := Lib.hid R5
    clear CE
    go_wp2_with fail
    go_ret
    exact ⟨x5, c5, rfl, R5.out.own, R5.out.fr⟩
theorem rb_enc (L : List Nat) (h : ∀ n ∈ L, n < 256) : rb L = (L.map Fmt.b8).map encB := by
  unfold rb
  rw [List.map_map]
  refine List.map_congr_left fun n hn => ?_
  show Value.int .u8 (n : Int) = Value.int .u8 ((Fmt.b8 n).toNat : Int)
  rw [Fmt.b8_toNat (h n hn)]
set_option maxRecDepth 100000 in
theorem isfmt_g (b fm : Nat) (L : List Nat) (h256 : ∀ n ∈ L, n < 256)
    (HF : ∀ (w0 w : World) (x : Nat), w.ownsRow w0.heap.size 5 1 (.slice (some ⟨x, 0, none⟩) 0 24) 0 [] → Fr [] w0 w → LdT w0 → LdT w → Calls Tryz.prog 110 #[.slice (some ⟨x, 0, none⟩) 0 24, .float .f64 b, .int .u8 (fm : Int), .int .i64 (-1)] w fun e w' => ∃ x5 c5, e = .returned (.slice (some ⟨x5, 0, none⟩) L.length c5) ∧ w'.ownsRow w0.heap.size 5 1 (.slice (some ⟨x5, 0, none⟩) L.length c5) L.length (rb L) ∧ Fr [] w0 w')
    (w : World) (HL : LdT w) : Calls Tryz.prog 66 #[.float .f64 b, .int .u8 (fm : Int), .int .i64 (-1), .int .i64 64] w fun e w' => e = .returned (.string ⟨(L.map Fmt.b8).toArray⟩) ∧ Fr [] w w' := by
  have hm := max24
  have MK := mk24
  obtain ⟨W1, hW1⟩ : ∃ W1, W1 = w.alloc (.cells (Array.replicate 24 (.int .u8 0)) 5) := ⟨_, rfl⟩
  have F1 : Hid (Fr [] w W1) := Lib.hid (by rw [hW1]; exact (Fr.refl _ _).alloc _)
  obtain ⟨k, hk⟩ : ∃ k, k = w.heap.size := ⟨_, rfl⟩
  have CF := Lib.hid (HF w W1 k (by rw [hW1, hk]; exact own_u8s w) F1.out HL (HL.fr F1.out))
  have H256 := Lib.hid h256
  clear HL HF h256
  go_enter Tryz.func66, Tryz.ntmps66
  go_wp2_with fail
  rw [← hW1, ← hk]
  clear hW1 hk MK
  refine CF.out.mono ?_
  rintro e w3 ⟨x5, c5, rfl, own5, F5⟩
  have F5 := Lib.hid F5
  rw [rb_enc L H256.out] at own5
  have hcv : (convert 123 9 (.slice (some ⟨x5, 0, none⟩) L.length c5)).run Tryz.prog w3 = .ok (.string ⟨(L.map Fmt.b8).toArray⟩) w3 := by
    have := conv_own (L := L.map Fmt.b8) own5
    rw [List.length_map] at this
    exact this
  clear own5 CF
  go_wp2_with fail
  go_ret
  exact ⟨rfl, F5.out⟩
theorem fmt_g (b fm : Nat) (t : ByteArray) (H : ∀ w : World, LdT w → Calls Tryz.prog 66 #[.float .f64 b, .int .u8 (fm : Int), .int .i64 (-1), .int .i64 64] w fun e w' => e = .returned (.string t) ∧ Fr [] w w') (w : World) (HL : LdT w) : Calls Tryz.prog 29 #[.float .f64 b, .int .u8 (fm : Int), .int .i64 (-1), .int .i64 64] w fun e w' => e = .returned (.string t) ∧ Fr [] w w' := by
  have CF := Lib.hid (H w HL)
  clear HL H
  go_enter Tryz.func29, Tryz.ntmps29
  go_wp2_with fail
  refine CF.out.mono ?_
  rintro e w3 ⟨rfl, F3⟩
  go_wp2_with fail
  go_ret
  exact ⟨rfl, F3⟩
open Fmt in
theorem efgE_256 (neg : Bool) (ds : List Nat) (dp : Int) (h : Dig ds) (h1 : -400 ≤ dp) (h2 : dp ≤ 400) : ∀ n ∈ efgE neg ds dp, n < 256 := by
  intro n hn
  unfold efgE expB at hn
  obtain ⟨x, hx⟩ : ∃ x : Int, x = if ds.length = 0 then 0 else dp - 1 := ⟨_, rfl⟩
  rw [← hx] at hn
  have hxb : x.natAbs < 1000 := by rw [hx]; split <;> omega
  clear hx
  rcases List.mem_append.1 hn with hn | hn
  · have := dig_man h n hn; omega
  · rcases List.mem_cons.1 hn with hn | hn
    · omega
    · rcases List.mem_cons.1 hn with hn | hn
      · split at hn <;> omega
      · have := dig_dd _ hxb n hn
        omega
open Fmt in
theorem efgF_256 (neg : Bool) (ds : List Nat) (dp : Int) (h : Dig ds) : ∀ n ∈ efgF neg ds dp, n < 256 := by
  intro n hn
  unfold efgF sgnB at hn
  rcases List.mem_append.1 hn with hn | hn
  · split at hn
    · have : n = 45 := by simpa using hn
      omega
    · exact absurd hn (by simp)
  · rcases List.mem_append.1 hn with hn | hn
    · split at hn
      · rcases List.mem_append.1 hn with hn | hn
        · have := h n (List.mem_of_mem_take hn); omega
        · have := List.eq_of_mem_replicate hn; omega
      · have : n = 48 := by simpa using hn
        omega
    · split at hn
      · rcases List.mem_cons.1 hn with hn | hn
        · omega
        · rcases List.mem_append.1 hn with hn | hn
          · have := List.eq_of_mem_replicate hn; omega
          · have := h n (List.mem_of_mem_drop hn); omega
      · exact absurd hn (by simp)
open Fmt in
theorem efgF_len (neg : Bool) (ds : List Nat) (dp : Int) (hl : ds.length ≤ 20) (h1 : -400 ≤ dp) (h2 : dp ≤ 400) : (efgF neg ds dp).length ≤ 900 := by
  unfold efgF sgnB
  split <;> split <;> split <;> simp <;> omega
theorem fmtEF_c (b : Nat) (hb : b < 18446744073709551616) (hfin : b / 4503599627370496 % 2048 ≠ 2047) (hnz : b % 9223372036854775808 ≠ 0) : ∃ (neg : Bool) (ds : List Nat) (dp : Int), Fmt.Dig ds ∧ ds.length ≤ 20 ∧ -400 ≤ dp ∧ dp ≤ 400 ∧
    (∀ w : World, LdT w → Calls Tryz.prog 29 #[.float .f64 b, .int .u8 101, .int .i64 (-1), .int .i64 64] w fun e w' => e = .returned (.string ⟨((Fmt.efgE neg ds dp).map Fmt.b8).toArray⟩) ∧ Fr [] w w') ∧
    (∀ w : World, LdT w → Calls Tryz.prog 29 #[.float .f64 b, .int .u8 102, .int .i64 (-1), .int .i64 64] w fun e w' => e = .returned (.string ⟨((Fmt.efgF neg ds dp).map Fmt.b8).toArray⟩) ∧ Fr [] w w') := by
  obtain ⟨neg, ds, dp, hd, hl, h1, h2, HE, HF⟩ := ftoa_c b hb hfin hnz
  refine ⟨neg, ds, dp, hd, hl, h1, h2, ?_, ?_⟩
  · exact fmt_g b 101 _ (isfmt_g b 101 _ (efgE_256 neg ds dp hd h1 h2) (fun w0 w x a1 a2 _ a3 => HE w0 w x a1 a2 a3))
  · exact fmt_g b 102 _ (isfmt_g b 102 _ (efgF_256 neg ds dp hd) (fun w0 w x a1 a2 _ a3 => HF w0 w x a1 a2 a3))
theorem fmtF_c (b : Nat) (hb : b < 18446744073709551616) (hfin : b / 4503599627370496 % 2048 ≠ 2047) : ∃ L : List UInt8, L.length ≤ 900 ∧ ∀ w : World, LdT w → Calls Tryz.prog 29 #[.float .f64 b, .int .u8 102, .int .i64 (-1), .int .i64 64] w fun e w' => e = .returned (.string ⟨L.toArray⟩) ∧ Fr [] w w' := by
  by_cases hz : b % 9223372036854775808 = 0
  · obtain ⟨neg, HF⟩ := ftoa0_c b hb hz
    refine ⟨(Fmt.efgF neg [] 0).map Fmt.b8, by cases neg <;> decide, ?_⟩
    exact fmt_g b 102 _ (isfmt_g b 102 _ (efgF_256 neg [] 0 (by intro d hd; simp at hd)) (fun w0 w x a1 a2 a3 _ => HF w0 w x a1 a2 a3))
  · obtain ⟨neg, ds, dp, hd, hl, h1, h2, HE, HF⟩ := fmtEF_c b hb hfin hz
    exact ⟨_, by rw [List.length_map]; exact efgF_len neg ds dp hl h1 h2, HF⟩
end
section
open Go.ChangeShapes Go.WideShapes Go.RowKit Go.Shelf
def ba (l : List UInt8) : ByteArray := ⟨l.toArray⟩
theorem ba_size (l : List UInt8) : (ba l).size = l.length := rfl
theorem ba_app (l m : List UInt8) : ba l ++ ba m = ba (l ++ m) := by apply ByteArray.ext; simp [ba]
theorem ba_left (l m : List UInt8) : (ba (l ++ m)).extract 0 l.length = ba l := by apply ByteArray.ext; simp [ba]
theorem ba_right (l m : List UInt8) (c : UInt8) : (ba (l ++ c :: m)).extract (l.length + 1) (l ++ c :: m).length = ba m := by
  apply ByteArray.ext
  have : l ++ c :: m = (l ++ [c]) ++ m := by simp
  rw [this]
  simp [ba]
  rw [show l.length + (m.length + 1) - (l.length + 1) = m.length by omega, List.take_length]
theorem ba_tail (c : UInt8) (m : List UInt8) : (ba (c :: m)).extract 1 (m.length + 1) = ba m := by apply ByteArray.ext; simp [ba]
theorem fr_bytes (w : World) (e : TypeId) (s : ByteArray) : Fr [] w (Lib.bytesWorld w e s) := by
  have h : Fr [] w (w.drew.alloc (.cells (Lib.bytesCells w e s) e)) := ((Fr.refl _ _).drew).alloc _
  unfold Lib.bytesWorld World.freeze
  rw [if_neg (by decide)]
  refine ⟨h.os, h.tape, h.output, by simpa using h.size, fun k hk hn => ?_⟩
  rw [← h.block k hk hn]
  unfold blk
  rw [Array.getElem?_modify, if_neg (by show ¬ w.heap.size = k; omega)]
theorem index_none {l : List UInt8} {c : UInt8} (h : c ∉ l) : decide (0 ≤ Lib.indexByte l c) = false := by
  apply decide_eq_false
  intro h0
  obtain ⟨o, ho⟩ : ∃ o : Nat, Lib.indexByte l c = (o : Int) := ⟨(Lib.indexByte l c).toNat, by omega⟩
  have := (Lib.indexByte_some ho).1
  exact h (List.mem_of_getElem? this)
theorem index_mem {l : List UInt8} {c : UInt8} (h : c ∈ l) : decide (0 ≤ Lib.indexByte l c) = true := by
  apply decide_eq_true
  have hg := Lib.indexByte_ge l c
  by_cases h1 : Lib.indexByte l c = -1
  · obtain ⟨k, hk⟩ := List.getElem?_of_mem h
    exact absurd hk (Lib.indexByte_none h1 k)
  · omega
def pointU (l : List UInt8) : List UInt8 := if (46 : UInt8) ∈ l then l else l ++ [46, 48]
theorem point_g (l : List UInt8) (hl : l.length ≤ 1000) (w : World) : Calls Tryz.prog 28 #[.string (ba l)] w fun e w' => e = .returned (.string (ba (pointU l))) ∧ w = w' := by
  by_cases h : (46 : UInt8) ∈ l
  · rw [show pointU l = l from if_pos h]
    exact point_dot (ba l) w (index_mem h)
  · have e1 : ba (pointU l) = ba l ++ ⟨#[46, 48]⟩ := by
      rw [show pointU l = l ++ [46, 48] from if_neg h, ← ba_app]; rfl
    rw [e1]
    have CC := Lib.hid (by have := Tryz.strings_Contains_one (ba l) 46 w; rw [show (ba l).data.toList = l from rfl, index_none h] at this; exact this)
    have hs : (ba l).size ≤ 1000 := hl
    generalize ba l = s at *
    clear h e1 hl
    go_enter Tryz.func28, Tryz.ntmps28
    go_wp2_with fail
    refine CC.out.mono ?_
    rintro e w' ⟨rfl, rfl⟩
    go_wp2
    go_ret
    exact ⟨rfl, rfl⟩
theorem indexByte_split (l m : List UInt8) (c : UInt8) (h : c ∉ l) : Lib.indexByte (l ++ c :: m) c = (l.length : Int) := by
  have hg := Lib.indexByte_ge (l ++ c :: m) c
  by_cases h1 : Lib.indexByte (l ++ c :: m) c = -1
  · have := Lib.indexByte_none h1 l.length
    exact absurd (by simp) this
  · obtain ⟨o, ho⟩ : ∃ o : Nat, Lib.indexByte (l ++ c :: m) c = (o : Int) := ⟨(Lib.indexByte (l ++ c :: m) c).toNat, by omega⟩
    obtain ⟨ha, hb⟩ := Lib.indexByte_some ho
    rw [ho]
    by_cases h2 : o < l.length
    · exfalso
      rw [List.getElem?_append_left h2] at ha
      exact h (List.mem_of_getElem? ha)
    · by_cases h3 : l.length < o
      · exact absurd (by simp) (hb l.length h3)
      · congr 1; omega
set_option maxRecDepth 100000 in
theorem cut_g (F T : List UInt8) (hF : (101 : UInt8) ∉ F) (hl : F.length + T.length ≤ 1000) (w : World) : Calls Tryz.prog 30 #[.string (ba (F ++ 101 :: T)), .string ⟨#[101]⟩] w fun e w' => e = .returned (.tuple #[.string (ba F), .string (ba T), .bool true]) ∧ Fr [] w w' := by
  have CI := Lib.hid (fun w1 => by have := Tryz.stringslite_Index_one (ba (F ++ 101 :: T)) 101 w1; rw [show (ba (F ++ 101 :: T)).data.toList = F ++ 101 :: T from rfl, indexByte_split F T 101 hF] at this; exact this)
  have x1 := ba_left F (101 :: T)
  have x2 := ba_right F T 101
  have hsz : (ba (F ++ 101 :: T)).size = F.length + T.length + 1 := by rw [ba_size]; simp; omega
  rw [show (F ++ 101 :: T).length = F.length + T.length + 1 by simp; omega] at x2
  generalize ba (F ++ 101 :: T) = s at *
  generalize F.length = n at *
  generalize T.length = k at *
  generalize ba F = f at *
  generalize ba T = t at *
  clear hF
  have CC : Hid (Calls Tryz.prog 67 #[.string s, .string ⟨#[101]⟩] w fun e w' => e = .returned (.tuple #[.string f, .string t, .bool true]) ∧ Fr [] w w') := Lib.hid (by
    go_enter Tryz.func67, Tryz.ntmps67
    go_wp2_with fail
    refine (CI.out _).mono ?_
    rintro e w' ⟨rfl, rfl⟩
    go_wp2_with fail
    go_region
    go_wp2_with fail
    go_ret3
    exact ⟨rfl, by repeat (first | exact Fr.refl _ _ | apply Fr.drew)⟩)
  clear CI x1 x2
  go_enter Tryz.func30, Tryz.ntmps30
  go_wp2_with fail
  refine CC.out.mono ?_
  rintro e w' ⟨rfl, F1⟩
  go_wp2_with fail
  go_ret3
  exact ⟨rfl, F1⟩
theorem digitVal_b8 (k : Nat) (h : k < 10) : Lib.digitVal (Fmt.b8 (k + 48)) = some k := by
  unfold Lib.digitVal
  have : (Fmt.b8 (k + 48)).toNat = k + 48 := Fmt.b8_toNat (by omega)
  simp [this, UInt8.le_iff_toNat_le]
  omega
theorem decNat_dd (a : Nat) (h : a < 1000) : Lib.decNat ((Fmt.ddN a).map Fmt.b8) = some a := by
  unfold Fmt.ddN
  by_cases h1 : a < 10
  · rw [if_pos h1]
    have e0 := digitVal_b8 0 (by decide)
    have e1 := digitVal_b8 a h1
    simp only [Nat.zero_add] at e0
    simp [Lib.decNat, Lib.decFrom, e0, e1]
  · rw [if_neg h1]
    by_cases h2 : a < 100
    · rw [if_pos h2]
      have e0 := digitVal_b8 (a / 10) (by omega)
      have e1 := digitVal_b8 (a % 10) (by omega)
      simp [Lib.decNat, Lib.decFrom, e0, e1]
      omega
    · rw [if_neg h2]
      have e0 := digitVal_b8 (a / 100) (by omega)
      have e1 := digitVal_b8 (a / 10 % 10) (by omega)
      have e2 := digitVal_b8 (a % 10) (by omega)
      simp [Lib.decNat, Lib.decFrom, e0, e1, e2]
      omega
theorem atoi_minus {D : List UInt8} {a : Nat} (h : Lib.decNat D = some a) : Lib.atoi (Fmt.b8 45 :: D) = some (-(a : Int)) := by
  rw [Lib.atoi, if_pos (show (Fmt.b8 45 == 45) = true by decide), h]; rfl
theorem atoi_plus {D : List UInt8} {a : Nat} (h : Lib.decNat D = some a) : Lib.atoi (Fmt.b8 43 :: D) = some (a : Int) := by
  rw [Lib.atoi, if_neg (show ¬ (Fmt.b8 43 == 45) = true by decide), if_pos (show (Fmt.b8 43 == 43) = true by decide), h]; rfl
theorem atoi_exp (x : Int) (h1 : -1000 < x) (h2 : x < 1000) : Lib.atoi ((Fmt.expB x).map Fmt.b8) = some x := by
  unfold Fmt.expB
  by_cases h : x < 0
  · rw [if_pos h, List.map_cons, atoi_minus (decNat_dd _ (by omega))]
    congr 1; omega
  · rw [if_neg h, List.map_cons, atoi_plus (decNat_dd _ (by omega))]
    congr 1; omega
end
end Go.Proofs.YtcjkgnafpkkjmaaGreatDoor
