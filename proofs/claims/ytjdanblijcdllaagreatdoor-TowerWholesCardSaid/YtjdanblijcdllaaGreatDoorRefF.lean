/- Reference 1: Times. -/
import Derived.Test.YtjdanblijcdllaaGreatDoorRefE
import Derived.Test.YtjdanblijcdllaaGreatDoorRefP
set_option linter.all false
namespace Go.Proofs.YtjdanblijcdllaaGreatDoor
open Go.ChangeShapes Go.WideShapes Go.RowKit
variable {w w' w2 wr : World} {a b : Option Addr} {cap cap2 : Nat} {L M : List Nat} {B : Nat}
theorem times_len {L M : List Nat} (hL : Lim L) (hM : Lim M) {x : Nat} (h : x ≤ val L * val M) : (lims x).length ≤ L.length + M.length := by
  rw [len_lims, Nat.pow_add]
  have h1 := val_lt hL
  have h2 := val_lt hM
  exact Nat.lt_of_le_of_lt h (Nat.mul_lt_mul'' h1 h2)
theorem bit_u32 (x r : Nat) (h : x < 4294967296) : bits BinOp.and IntKind.u32 ((x : Int) / 2 ^ r) 1 = ((x / 2 ^ r % 2 : Nat) : Int) := by
  have e : (x : Int) / 2 ^ r = ((x / 2 ^ r : Nat) : Int) := by simp
  have h2 := Nat.div_le_self x (2 ^ r)
  rw [e, show (1 : Int) = ((1 : Nat) : Int) from rfl, u32_and _ 1 (by omega) (by decide), Nat.and_one_is_mod]
theorem bit_b (x r : Nat) (h : x < 4294967296) (t : Nat) (ht : x / 2 ^ r % 2 = t) : (t = 0 ∨ t = 1) ∧ (bits BinOp.and IntKind.u32 ((x : Int) / 2 ^ r) 1 == 1) = decide (t = 1) := by
  rw [bit_u32 x r h, ht]
  have : t = 0 ∨ t = 1 := by omega
  refine ⟨this, ?_⟩
  rcases this with rfl | rfl <;> rfl
set_option maxRecDepth 100000 in
theorem r1times_c (w : World) (ha : In w a cap L) (hb : In w b cap2 M) (hlen : L.length + M.length ≤ 80000) : Calls Tryz.prog 156 #[.slice a L.length cap, .slice b M.length cap2] w (Gives w (lims (val L * val M))) := by
  have HA := Lib.hid ha
  have HB := Lib.hid hb
  have TL := Lib.hid (fun x (h : x ≤ val L * val M) => times_len ha.lim hb.lim h)
  have hsb : M.length ≤ 80000 := by omega
  have N0 : Hid (Nw (w.alloc (.cells #[] 108)) w.heap.size (some ⟨w.heap.size, 0, none⟩) 0 (lims (val L * (val M / 2 ^ (32 * M.length))))) := Lib.hid (by
    rw [all_bits hb.lim, Nat.mul_zero]; exact Nw.made w 0 0 (Nat.le_refl _) (by omega) (by omega))
  have F0 : Hid (Fr [] w (w.alloc (.cells #[] 108))) := Lib.hid ((Fr.refl [] w).alloc _)
  have DIV : Hid (∀ k, val L * (val M / 2 ^ k) ≤ val L * val M) := Lib.hid (fun k => Nat.mul_le_mul_left _ (Nat.div_le_self _ _))
  have E0 : Hid ((lims (val L * (val M / 2 ^ (32 * M.length)))).length = 0) := Lib.hid (by rw [all_bits hb.lim, Nat.mul_zero]; rfl)
  have ST : Hid (∀ j, val L * (val M / 2 ^ (j + 1)) + val L * (val M / 2 ^ (j + 1)) + val L * (M[j / 32]?.getD 0 / 2 ^ (j % 32) % 2) = val L * (val M / 2 ^ j)) := Lib.hid (fun j => times_step (bit_of' hb.lim j))
  clear ha hb
  go_enter Tryz.func156, Tryz.ntmps156
  go_wp2
  go_loopw [5, 6] (fun s5 s6 wr => ∃ (k : Nat) (ao : Option Addr) (co : Nat), k ≤ 32 * M.length ∧ s6 = .int .i64 ((k : Int) - 1) ∧ s5 = .slice ao (lims (val L * (val M / 2 ^ k))).length co ∧ Hid (Nw wr w.heap.size ao co (lims (val L * (val M / 2 ^ k)))) ∧ Hid (Fr [] w wr)) (fun _ x _ => (intOf x + 1).toNat)
  case atStart => exact ⟨32 * M.length, _, _, Nat.le_refl _, by first | rfl | (congr 1; omega), by rw [E0.out], N0, F0⟩
  case round =>
    obtain ⟨k, ao, co, hk, rfl, rfl, hN, hF⟩ := hrel
    cases k with
    | zero =>
      have CT := Lib.hid (r1trim_c wr hN.out.in)
      rw [Nat.pow_zero, Nat.div_one, val_lims] at CT
      rw [Nat.pow_zero, Nat.div_one] at hN ⊢
      clear hN
      go_wp2_with fail
      refine CT.out.mono ?_
      rintro e w3 ⟨a3, c3, rfl, h3, f3⟩
      have D := Lib.hid (gives_mk (h3.base hF.out.size) (hF.out.same f3))
      clear h3 f3
      go_wp2
      go_ret
      exact D.out
    | succ j =>
      rw [show (((j + 1 : Nat) : Int) - 1) = (j : Int) from by omega]
      have l1 := TL.out _ (DIV.out (j + 1))
      have C1 := Lib.hid (r1plus_c wr hN.out.in hN.out.in (by omega) (by omega))
      rw [val_lims] at C1
      have s1 := ST.out j
      have q1 : ((j : Int) / 32) = ((j / 32 : Nat) : Int) := by omega
      have q2 : ((j : Int) % 32) = ((j % 32 : Nat) : Int) := by omega
      have q3 : j / 32 < M.length := by omega
      have q4 : j % 32 < 32 := by omega
      have X1 := Lib.hid (fun W (hW : Fr [] wr W) => (HB.out.keep (hF.out.same hW)).at q3)
      have bx := lim_get HB.out.lim (j / 32)
      generalize j / 32 = q at *
      generalize j % 32 = r at *
      generalize M[q]?.getD 0 = x at *
      obtain ⟨t, ht⟩ : ∃ t, x / 2 ^ r % 2 = t := ⟨_, rfl⟩
      obtain ⟨bt, bb_⟩ := bit_b x r bx t ht
      rw [ht] at s1
      clear ht
      go_wp2_with fail
      refine C1.out.mono ?_
      rintro e w3 ⟨a3, c3, rfl, h3, f3⟩
      obtain ⟨bb, bo, rfl, bl, bc⟩ := X1.out w3 f3
      have Q0 := Lib.hid (h3.base hF.out.size)
      have G0 := Lib.hid (hF.out.same f3)
      rcases bt with rfl | rfl
      · have bb1 : (bits BinOp.and IntKind.u32 ((x : Int) / 2 ^ r) 1 == 1) = false := bb_
        rw [Nat.mul_zero, Nat.add_zero] at s1
        rw [s1] at Q0 ⊢
        clear C1 hN f3 h3 X1 bb_ s1
        go_wp2
        go_roundw
        case rel => exact ⟨j, _, _, by omega, rfl, rfl, Q0, G0⟩
        case measure => simp [intOf]
      · have bb1 : (bits BinOp.and IntKind.u32 ((x : Int) / 2 ^ r) 1 == 1) = true := bb_
        rw [Nat.mul_one] at s1
        have A3 := Lib.hid (HA.out.keep G0.out)
        have C2 := Lib.hid (r1plus_c w3 Q0.out.in A3.out (by have := TL.out _ (Nat.le_trans (Nat.le_trans (Nat.le_add_right _ _) (Nat.le_of_eq s1)) (DIV.out j)); omega) (by omega))
        rw [val_lims, s1] at C2
        clear C1 hN f3 h3 X1 bb_ s1
        go_wp2_with fail
        refine C2.out.mono ?_
        rintro e w4 ⟨a4, c4, rfl, h4, f4⟩
        have Q1 := Lib.hid (h4.base G0.out.size)
        have G1 := Lib.hid (G0.out.same f4)
        clear h4 f4 C2 Q0
        go_wp2
        go_roundw
        case rel => exact ⟨j, _, _, by omega, rfl, rfl, Q1, G1⟩
        case measure => simp [intOf]
end Go.Proofs.YtjdanblijcdllaaGreatDoor
