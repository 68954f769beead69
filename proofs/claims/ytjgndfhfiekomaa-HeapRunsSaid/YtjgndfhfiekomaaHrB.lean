/- The document's arena: last, Empty, off, Holes. -/
import Derived.Test.YtjgndfhfiekomaaHrA
import Derived.Test.YtjgndfhfiekomaaArenaH
set_option linter.all false
namespace Go.Proofs.Ytjgndfhfiekomaa
open Go.ChangeShapes Go.WideShapes Go.RowKit
variable {B0 : Nat} {w w' : World} {tb tc : Nat} {wa ma : Option Addr} {wn wc mn mc : Nat} {sf st gf gt cf ct nx : Int} {L : List (Bool × Bool)} {m : Nat}
def lastI : Option Nat → Int
  | some q => q
  | none => -1
set_option maxRecDepth 100000 in
set_option maxHeartbeats 1000000 in
theorem rlast_c (w : World) (hB : BsAt B0 w tb tc (tks L)) (hL : L.length = m * 16) (hm : m ≤ 100) :
    Calls Try.prog 129 #[.agg #[.slice wa wn wc, .slice (some ⟨tb, 0, none⟩) (m * 16) tc, .slice ma mn mc, .int .i64 sf, .int .i64 st, .int .i64 gf, .int .i64 gt, .int .i64 cf, .int .i64 ct, .int .i64 nx]] w fun e w' => e = .returned (.int .i64 (lastI (blockBelow L m))) ∧ Fr [] w w' := by
  have CF := Lib.hid (fun (w1 : World) (hF : Fr [] w w1) (q : Nat) (hq : q < m) => rfree_c (wa := wa) (wn := wn) (wc := wc) (ma := ma) (mn := mn) (mc := mc) (sf := sf) (st := st) (gf := gf) (gt := gt) (cf := cf) (ct := ct) (nx := nx) w1 (hB.keep hF) hL hm q hq)
  have HB := Lib.hid hB
  have HL := Lib.hid hL
  have htc : m * 16 ≤ tc := by have := hB.cp.1; rw [len_tks, hL] at this; exact this
  have htc2 : tc ≤ 9223372036854775807 := by have := hB.cp.2; unfold maxLen at this; omega
  obtain ⟨W1, hW1⟩ : ∃ W1, W1 = w.alloc (.cells #[.slice wa wn wc, .slice (some ⟨tb, 0, none⟩) (m * 16) tc, .slice ma mn mc, .int .i64 sf, .int .i64 st, .int .i64 gf, .int .i64 gt, .int .i64 cf, .int .i64 ct, .int .i64 nx] 31) := ⟨_, rfl⟩
  have P1 := Lib.hid (show blk W1 w.heap.size = some (.cells #[.slice wa wn wc, .slice (some ⟨tb, 0, none⟩) (m * 16) tc, .slice ma mn mc, .int .i64 sf, .int .i64 st, .int .i64 gf, .int .i64 gt, .int .i64 cf, .int .i64 ct, .int .i64 nx] 31 (0, 0)) by rw [hW1, blk_alloc, if_pos rfl])
  have F1 : Hid (Fr [] w W1) := Lib.hid (by rw [hW1]; exact (Fr.refl _ _).alloc _)
  obtain ⟨pb, hpb⟩ : ∃ pb, pb = w.heap.size := ⟨_, rfl⟩
  rw [← hpb] at P1
  clear hB hL HB HL
  go_enter Try.func129, Try.ntmps129
  go_upto_region 2 with fail
  rw [← hW1, ← hpb]
  clear hW1 hpb
  have e3 : ((m * 16 : Nat) : Int) / 16 - 1 = (m : Int) - 1 := by omega
  try rw [e3]
  go_wp2_with fail
  go_loopw [3] (fun x wr => ∃ k : Nat, k ≤ m ∧ x = .int .i64 ((k : Int) - 1) ∧ Hid (blockBelow L m = blockBelow L k) ∧ Hid (Fr [] W1 wr)) (fun x _ => (intOf x + 1).toNat)
  case atStart => exact ⟨m, Nat.le_refl _, (by first | rfl | (congr 1; omega)), Lib.hid rfl, Lib.hid (Fr.refl _ _)⟩
  case round =>
    obtain ⟨k, hk, rfl, hE, F⟩ := hrel
    by_cases hz : k = 0
    · subst hz
      have hE2 : Hid (blockBelow L m = none) := Lib.hid (by rw [hE.out]; rfl)
      clear hE
      go_wp2
      go_ret
      rw [hE2.out]
      exact ⟨rfl, F1.out.same F.out⟩
    · obtain ⟨q, rfl⟩ : ∃ q, k = q + 1 := ⟨k - 1, by omega⟩
      have CQ := Lib.hid (CF.out wr (F1.out.same F.out) q (by omega))
      have he : blockBelow L (q + 1) = if freeOf L q = 16 then some q else blockBelow L q := rfl
      rw [show ((q + 1 : Nat) : Int) - 1 = (q : Int) from by omega]
      have PW := F.out.at P1.out (by simp)
      have p0 := cell_of PW (i := 0) rfl
      have p1 := cell_of PW (i := 1) rfl
      have p2 := cell_of PW (i := 2) rfl
      have p3 := cell_of PW (i := 3) rfl
      have p4 := cell_of PW (i := 4) rfl
      have p5 := cell_of PW (i := 5) rfl
      have p6 := cell_of PW (i := 6) rfl
      have p7 := cell_of PW (i := 7) rfl
      have p8 := cell_of PW (i := 8) rfl
      have p9 := cell_of PW (i := 9) rfl
      by_cases h16 : freeOf L q = 16
      · rw [if_pos h16] at he
        have hE2 : Hid (blockBelow L m = some q) := Lib.hid (by rw [hE.out, he])
        rw [h16] at CQ
        clear he hE h16 PW
        go_wp2_with fail
        refine CQ.out.mono ?_
        rintro e w' ⟨rfl, hF2⟩
        go_wp2
        go_ret
        rw [hE2.out]
        exact ⟨rfl, (F1.out.same F.out).same hF2⟩
      · rw [if_neg h16] at he
        have hE2 : Hid (blockBelow L m = blockBelow L q) := Lib.hid (by rw [hE.out, he])
        have hb : ((freeOf L q : Int) == 16) = false := by simp; omega
        clear he hE h16 PW
        go_wp2_with fail
        refine CQ.out.mono ?_
        rintro e w' ⟨rfl, hF2⟩
        go_wp2
        go_roundw
        case rel => exact ⟨q, by omega, rfl, hE2, Lib.hid (F.out.same hF2)⟩
        case measure => simp [intOf]
set_option maxRecDepth 100000 in
set_option maxHeartbeats 1000000 in
theorem rempty_c (w : World) (hB : BsAt B0 w tb tc (tks L)) (hL : L.length = m * 16) (hm : m ≤ 100) :
    Calls Try.prog 35 #[.agg #[.slice wa wn wc, .slice (some ⟨tb, 0, none⟩) (m * 16) tc, .slice ma mn mc, .int .i64 sf, .int .i64 st, .int .i64 gf, .int .i64 gt, .int .i64 cf, .int .i64 ct, .int .i64 nx]] w fun e w' => e = .returned (.int .i64 (emptyIn L m : Nat)) ∧ Fr [] w w' := by
  have CF := Lib.hid (fun (w1 : World) (hF : Fr [] w w1) (q : Nat) (hq : q < m) => rfree_c (wa := wa) (wn := wn) (wc := wc) (ma := ma) (mn := mn) (mc := mc) (sf := sf) (st := st) (gf := gf) (gt := gt) (cf := cf) (ct := ct) (nx := nx) w1 (hB.keep hF) hL hm q hq)
  have HB := Lib.hid hB
  have HL := Lib.hid hL
  have htc : m * 16 ≤ tc := by have := hB.cp.1; rw [len_tks, hL] at this; exact this
  have htc2 : tc ≤ 9223372036854775807 := by have := hB.cp.2; unfold maxLen at this; omega
  obtain ⟨W1, hW1⟩ : ∃ W1, W1 = w.alloc (.cells #[.slice wa wn wc, .slice (some ⟨tb, 0, none⟩) (m * 16) tc, .slice ma mn mc, .int .i64 sf, .int .i64 st, .int .i64 gf, .int .i64 gt, .int .i64 cf, .int .i64 ct, .int .i64 nx] 31) := ⟨_, rfl⟩
  have P1 := Lib.hid (show blk W1 w.heap.size = some (.cells #[.slice wa wn wc, .slice (some ⟨tb, 0, none⟩) (m * 16) tc, .slice ma mn mc, .int .i64 sf, .int .i64 st, .int .i64 gf, .int .i64 gt, .int .i64 cf, .int .i64 ct, .int .i64 nx] 31 (0, 0)) by rw [hW1, blk_alloc, if_pos rfl])
  have F1 : Hid (Fr [] w W1) := Lib.hid (by rw [hW1]; exact (Fr.refl _ _).alloc _)
  obtain ⟨pb, hpb⟩ : ∃ pb, pb = w.heap.size := ⟨_, rfl⟩
  rw [← hpb] at P1
  clear hB hL HB HL
  go_enter Try.func35, Try.ntmps35
  go_upto_region 3 with fail
  rw [← hW1, ← hpb]
  clear hW1 hpb
  go_wp2_with fail
  go_loopw [3, 4] (fun c x wr => ∃ k : Nat, k ≤ m ∧ x = .int .i64 (k : Int) ∧ c = .int .i64 (emptyIn L k : Nat) ∧ Hid (Fr [] W1 wr)) (fun _ x _ => m - (intOf x).toNat)
  case atStart => exact ⟨0, Nat.zero_le _, rfl, rfl, Lib.hid (Fr.refl _ _)⟩
  case round =>
    obtain ⟨k, hk, rfl, rfl, F⟩ := hrel
    have hle := emptyIn_le L k
    have PW := F.out.at P1.out (by simp)
    have p0 := cell_of PW (i := 0) rfl
    have p1 := cell_of PW (i := 1) rfl
    have p2 := cell_of PW (i := 2) rfl
    have p3 := cell_of PW (i := 3) rfl
    have p4 := cell_of PW (i := 4) rfl
    have p5 := cell_of PW (i := 5) rfl
    have p6 := cell_of PW (i := 6) rfl
    have p7 := cell_of PW (i := 7) rfl
    have p8 := cell_of PW (i := 8) rfl
    have p9 := cell_of PW (i := 9) rfl
    by_cases hlt : k < m
    · have CQ := Lib.hid (CF.out wr (F1.out.same F.out) k hlt)
      have he : emptyIn L (k + 1) = emptyIn L k + if freeOf L k = 16 then 1 else 0 := by simp only [emptyIn]; try (split <;> rfl)
      have hkd : (k : Int) < ((m * 16 : Nat) : Int) / 16 := by omega
      by_cases h16 : freeOf L k = 16
      · rw [if_pos h16] at he
        have HE := Lib.hid he
        rw [h16] at CQ
        clear he h16 PW
        go_wp2_with fail
        refine CQ.out.mono ?_
        rintro e w' ⟨rfl, hF2⟩
        go_wp2
        go_roundw
        case rel => exact ⟨k + 1, by omega, by go_num, by rw [HE.out]; go_num, Lib.hid (F.out.same hF2)⟩
        case measure => simp [intOf]; omega
      · rw [if_neg h16] at he
        have HE := Lib.hid he
        have hb : ((freeOf L k : Int) == 16) = false := by simp; omega
        clear he h16 PW
        go_wp2_with fail
        refine CQ.out.mono ?_
        rintro e w' ⟨rfl, hF2⟩
        go_wp2
        go_roundw
        case rel => exact ⟨k + 1, by omega, by go_num, by rw [HE.out]; rfl, Lib.hid (F.out.same hF2)⟩
        case measure => simp [intOf]; omega
    · have hkm : k = m := by omega
      have HK := Lib.hid hkm
      have hkd : ¬ (k : Int) < ((m * 16 : Nat) : Int) / 16 := by omega
      clear hkm hlt PW
      go_wp2
      go_ret
      exact ⟨by rw [HK.out]; rfl, F1.out.same F.out⟩
set_option maxRecDepth 100000 in
theorem roff_c (w : World) (f t n : Int) (h0 : 0 ≤ f) (h1 : f ≤ 1000000) (h2 : 0 ≤ n) (h3 : n ≤ 1000) :
    Calls Try.prog 127 #[.agg #[.int .i64 f, .int .i64 t], .int .i64 n] w fun e w' => e = .returned (.tuple #[.agg #[.int .i64 (f + n), .int .i64 t], .int .i64 f]) ∧ Fr [] w w' := by
  have hw : IntKind.i64.wrap (f + n) = f + n := by rw [IntKind.wrap_i64]; omega
  go_enter Try.func127, Try.ntmps127
  go_wp2
  go_region
  all_goals
    go_wp2
    refine bodyPost_ret (ret_st2 rfl _ _ _ _ rfl (show blk ((w.alloc _).alloc _) (w.heap.size + 1) = _ by rw [blk_alloc, if_pos (by rw [size_alloc])]) rfl size_run14 und_run14) rfl ?_
    exact ⟨rfl, (((Fr.refl _ _).alloc _).alloc _).drew⟩
end Go.Proofs.Ytjgndfhfiekomaa
