/- Limbs: Parse. -/
import Derived.Test.YtladhmbidicncaaDoorRefU
namespace Go.Proofs.YtladhmbidicncaaDoor
open Go.ChangeShapes Go.WideShapes Go.RowKit
variable {w w' w2 wr : World} {a b : Option Addr} {cap cap2 : Nat} {L M : List Nat} {B : Nat}
/-- So many limbs multiplied by ten, and what is carried. -/
structure MulTen (U C : List Nat) (d i c : Nat) : Prop where
  len : C.length = U.length
  v : val (C.take i) + 4294967296 ^ i * c = val (U.take i) * 10 + d
  dr : C.drop i = U.drop i
  c1 : c < 10
theorem MulTen.start (U : List Nat) {d : Nat} (h : d < 10) : MulTen U U d 0 d := ⟨rfl, by simp [val], rfl, h⟩
theorem MulTen.step {U C : List Nat} {d i c x : Nat} (h : MulTen U C d i c) (hU : Lim U) (hi : i < U.length) (hx : U[i]?.getD 0 = x) : MulTen U (C.set i ((x * 10 + c) % 4294967296)) d (i + 1) ((x * 10 + c) / 4294967296) := by
  have hxb := lim_get hU i
  rw [hx] at hxb
  have hc := h.c1
  refine ⟨by simp [h.len], ?_, ?_, by omega⟩
  · rw [take_set_succ _ _ _ (by rw [h.len]; exact hi), val_snoc, val_take_succ, hx, Nat.pow_succ]
    have e : (C.take i).length = i := by rw [List.length_take, h.len]; omega
    rw [e]
    have hv := h.v
    have e2 := Nat.mod_add_div (x * 10 + c) 4294967296
    generalize (x * 10 + c) % 4294967296 = m at *
    generalize (x * 10 + c) / 4294967296 = q at *
    generalize 4294967296 ^ i = P at *
    have e3 : P * (m + 4294967296 * q) = P * (x * 10 + c) := by rw [e2]
    rw [Nat.mul_add, Nat.mul_add, ← Nat.mul_assoc, ← Nat.mul_assoc] at e3
    rw [Nat.add_mul]
    omega
  · rw [drop_set_succ, ← List.drop_drop, h.dr, List.drop_drop]
theorem MulTen.done {U C : List Nat} {d c : Nat} (h : MulTen U C d U.length c) : val C + 4294967296 ^ C.length * c = val U * 10 + d := by
  have := h.v
  rwa [List.take_of_length_le (by rw [h.len]; exact Nat.le_refl _), List.take_of_length_le (Nat.le_refl _), ← h.len] at this
set_option maxRecDepth 100000 in
set_option maxHeartbeats 2000000 in
theorem lparse_c (w : World) (l : List UInt8) (hsz : l.length ≤ 1000000) : Calls Tryd.prog 36 #[.string ⟨l.toArray⟩] w (ParseR w l) := by
  have hsize : (ByteArray.mk l.toArray).size = l.length := rfl
  by_cases h1 : l.length = 0
  · have D : Hid (ParseR w l (.returned (.tuple #[.slice none 0 0, .int .i64 13])) w) := Lib.hid (parseR_text (.inl h1) (Fr.refl _ _))
    go_enter Tryd.func36, Tryd.ntmps36
    go_wp2
    go_ret2
    exact D.out
  · by_cases h2 : 700 < l.length
    · have D : Hid (ParseR w l (.returned (.tuple #[.slice none 0 0, .int .i64 13])) w) := Lib.hid (parseR_text (.inr (.inl h2)) (Fr.refl _ _))
      go_enter Tryd.func36, Tryd.ntmps36
      go_wp2
      go_ret2
      exact D.out
    · obtain ⟨i0, hi, hz0, hz1, hz2⟩ := info_parts info_u32
      have HI := Lib.hid hi
      have Z0 := Lib.hid hz0
      have Z1 := Lib.hid hz1
      have Z2 := Lib.hid hz2
      clear hi hz0 hz1 hz2
      have hl1 : 1 ≤ l.length := by omega
      have hl2 : l.length ≤ 700 := by omega
      have hl0 : ((l.length : Int) == 0) = false := by rw [beq_eq_false_iff_ne]; omega
      go_enter Tryd.func36, Tryd.ntmps36
      go_wp2_with fail
      go_loopw [4, 19, 5, 6, 7, 8] (fun s4 s19 _ _ _ _ wr => ∃ (k : Nat) (ao : Option Addr) (co : Nat) (U : List Nat), k ≤ l.length ∧ U.length ≤ k ∧ s19 = .int .i64 (k : Int) ∧ s4 = .slice ao U.length co ∧ val U = numOf (l.take k) ∧ Hid (∀ i, i < k → isDig (l[i]?.getD 0) = true) ∧ Hid (Nw wr w.heap.size ao co U) ∧ Hid (Fr [] w wr)) (fun _ x _ _ _ _ _ => l.length - (intOf x).toNat)
      case atStart => exact ⟨0, none, 0, [], by omega, by simp, rfl, rfl, rfl, Lib.hid (fun i h => by omega), Lib.hid (Nw.nil _ _), Lib.hid (Fr.refl _ _)⟩
      case round =>
        obtain ⟨k, ao, co, U, hk, hU, rfl, rfl, hV, hD, hN, hF⟩ := hrel
        by_cases hlt : k < l.length
        · have SK := run_str_at l k hlt
          have NX : Hid (isDig (l[k]?.getD 0) = true → ∀ i, i < k + 1 → isDig (l[i]?.getD 0) = true) := Lib.hid (fun he i hi => by
            by_cases h : i = k
            · subst h; exact he
            · exact hD.out i (by omega))
          have NE : Hid (isDig (l[k]?.getD 0) = false → ParseR w l (.returned (.tuple #[.slice none 0 0, .int .i64 13])) wr) := Lib.hid (fun he => parseR_text (.inr (.inr (allDig_not hlt he))) hF.out)
          have NS := Lib.hid (numOf_step hlt)
          generalize l[k]?.getD 0 = c at *
          obtain ⟨cn, hcn⟩ : ∃ cn, cn = c.toNat := ⟨_, rfl⟩
          rw [← hcn] at SK NS
          have DI : Hid (isDig c = decide (48 ≤ cn ∧ cn ≤ 57)) := Lib.hid (by rw [hcn]; rfl)
          have hcb : cn < 256 := by rw [hcn]; exact UInt8.toNat_lt c
          clear hcn hD
          by_cases c1 : cn < 48
          · have D := Lib.hid (NE.out (by rw [DI.out, decide_eq_false_iff_not]; omega))
            have c1I : (cn : Int) < 48 := by omega
            clear NX NE DI
            go_wp2
            go_ret2
            exact D.out
          · by_cases c2 : 57 < cn
            · have D := Lib.hid (NE.out (by rw [DI.out, decide_eq_false_iff_not]; omega))
              have c1I : ¬ (cn : Int) < 48 := by omega
              have c2I : (57 : Int) < (cn : Int) := by omega
              clear NX NE DI
              go_wp2
              go_ret2
              exact D.out
            · have S1 := Lib.hid (NX.out (by rw [DI.out, decide_eq_true_eq]; omega))
              have c1I : ¬ (cn : Int) < 48 := by omega
              have c2I : ¬ (57 : Int) < (cn : Int) := by omega
              obtain ⟨d, hd⟩ : ∃ d, d = cn - 48 := ⟨_, rfl⟩
              have e1 : (cn : Int) - 48 = (d : Int) := by omega
              have hd9 : d < 10 := by omega
              rw [← hd, ← hV] at NS
              have hUl : U.length ≤ 700 := by omega
              clear NX NE DI hd
              go_wp2_with fail
              go_loopw [39, 6, 7, 8] (fun s39 s6 _ _ wx => ∃ (C : List Nat) (i cy : Nat), i ≤ U.length ∧ s39 = .int .i64 (i : Int) ∧ s6 = .int .u64 (cy : Int) ∧ MulTen U C d i cy ∧ Hid (Nw wx w.heap.size ao co C) ∧ Hid (Fr [] w wx)) (fun x _ _ _ _ => U.length - (intOf x).toNat)
              case atStart => exact ⟨U, 0, d, by omega, rfl, rfl, MulTen.start U hd9, hN, hF⟩
              case round =>
                obtain ⟨C, i, cy, hi, rfl, rfl, hM, hC, hG⟩ := hrel
                have HLEN := Lib.hid hM.len
                by_cases hil : i < U.length
                · obtain ⟨g, rfl, hg1, hg2⟩ := hC.out.at (i := i) (by rw [HLEN.out]; exact hil)
                  have cx := hC.out.cell (i := i) (by rw [HLEN.out]; exact hil)
                  have fx := hC.out.free i
                  have ex : Hid (C[i]? = U[i]?) := Lib.hid (drop_get hM.dr)
                  rw [ex.out] at cx
                  have bx := lim_get hN.out.lim i
                  have MS := hM.step hN.out.lim hil rfl
                  have hc9 := hM.c1
                  generalize U[i]?.getD 0 = x at *
                  obtain ⟨T, hTe⟩ : ∃ T, T = x * 10 + cy := ⟨_, rfl⟩
                  rw [← hTe] at MS
                  have eI : (x : Int) * 10 + (cy : Int) = (T : Int) := by omega
                  have hTb : T < 42949672960 := by omega
                  have q1 : (T : Int) % 4294967296 = ((T % 4294967296 : Nat) : Int) := by omega
                  have q2 : (T : Int) / 4294967296 = ((T / 4294967296 : Nat) : Int) := by omega
                  have hz : T % 4294967296 < 4294967296 := Nat.mod_lt _ (by decide)
                  have NSS := Lib.hid (hC.out.set i (T % 4294967296) hz)
                  generalize T % 4294967296 = z at *
                  generalize T / 4294967296 = y at *
                  have GS : Hid (Fr [] w (wr.setCell ⟨g, i, none⟩ (.int .u32 (z : Int)))) := Lib.hid (hG.out.setCell (.inr hg1) _)
                  clear hM hTe hC hG ex
                  go_wp2
                  go_roundw
                  case rel => exact ⟨C.set i z, i + 1, y, by omega, by go_num, by first | rfl | exact congrArg _ q2, MS, NSS, GS⟩
                  case measure => simp [intOf]; omega
                · have hiu : i = U.length := by omega
                  subst hiu
                  have MD := Lib.hid hM.done
                  have hc9 := hM.c1
                  by_cases hc0 : cy = 0
                  · subst hc0
                    have VV : val C = numOf (l.take (k + 1)) := by
                      have := MD.out
                      rw [Nat.mul_zero, Nat.add_zero, ← NS.out] at this
                      exact this
                    clear hM MD
                    go_wp2
                    go_roundw
                    case rel => exact ⟨k + 1, ao, co, C, by omega, by rw [HLEN.out]; omega, by go_num, by rw [HLEN.out], VV, S1, hC, hG⟩
                    case measure => simp [intOf]; omega
                  · have hc0I : (0 : Int) < (cy : Int) := by omega
                    have hz : cy < 4294967296 := by omega
                    have VV : val (C ++ [cy]) = numOf (l.take (k + 1)) := by rw [val_snoc, MD.out, ← NS.out]
                    have OW := Lib.hid (nw_alloc hC.out (.cells #[.int .u32 (cy : Int)] 38))
                    rw [HLEN.out] at OW
                    have NW := Lib.hid (heap_alloc_new wr (.cells #[.int .u32 (cy : Int)] 38))
                    have hBs : w.heap.size ≤ (wr.alloc (.cells #[.int .u32 (cy : Int)] 38)).heap.size := by have := hG.out.size; rw [size_alloc]; omega
                    clear hM MD
                    go_wp2_with (at_builtin; refine wpList_append_lies _ rfl _ _ 22 rfl w.heap.size 38 i0 (.int .u32 0) 1 4 Tryd.underlying22 HI.out Z0.out Z1.out Z2.out rfl (by omega) (.slice ao U.length co) U.length (lc C) rfl OW.out ⟨wr.heap.size, 0, none⟩ 1 1 [.int .u32 (cy : Int)] rfl rfl (World.news_of_block NW.out) (by simp [Value.oneCell']) (by omega) (by unfold maxLen; omega) (by omega) hBs _ rfl ?_; intro g5 cap5 w5 own5 gr5 at5 lt5)
                    rw [← HLEN.out] at own5 gr5
                    have Q := Lib.hid (app_step hC.out hG.out (Nat.le_refl _) hz (by rw [HLEN.out]; omega) own5 gr5)
                    clear own5 gr5 at5
                    go_wp2
                    go_roundw
                    case rel => exact ⟨k + 1, _, _, C ++ [cy], by omega, by simp [HLEN.out]; omega, by go_num, by simp [HLEN.out], VV, S1, Lib.hid Q.out.1, Lib.hid Q.out.2⟩
                    case measure => simp [intOf]; omega
        · have hkl : k = l.length := by omega
          subst hkl
          rw [List.take_length] at hV
          have CC := Lib.hid (capped_c wr hN.out.in)
          rw [hV] at CC
          have AD := Lib.hid (allDig_of hD.out)
          have hok : ¬ (l.length = 0 ∨ 700 < l.length ∨ allDig l = false) := by
            rintro (h | h | h)
            · exact h1 h
            · exact h2 h
            · rw [AD.out] at h; cases h
          clear hD hN
          cases hf : fits (numOf l) with
          | true =>
            have D : Hid (∀ a6 c6 w6, Nw w6 wr.heap.size a6 c6 (lims (numOf l)) → Fr [] wr w6 → ParseR w l (.returned (.tuple #[.slice a6 (lims (numOf l)).length c6, .int .i64 0])) w6) := Lib.hid (fun a6 c6 w6 h1 h2 => parseR_ok hok hf (h1.base hF.out.size) (hF.out.same h2))
            rw [hf] at CC
            clear hf hok
            go_wp2_with fail
            refine CC.out.mono ?_
            rintro e w6 ⟨a6, c6, rfl, N6, F6⟩
            have D := Lib.hid (D.out a6 c6 w6 N6 F6)
            clear N6 F6 CC
            go_wp2
            go_ret2
            exact D.out
          | false =>
            have D : Hid (∀ w6, Fr [] wr w6 → ParseR w l (.returned (.tuple #[.slice none 0 0, .int .i64 11])) w6) := Lib.hid (fun w6 h2 => parseR_big hok hf (hF.out.same h2))
            rw [hf] at CC
            clear hf hok
            go_wp2_with fail
            refine CC.out.mono ?_
            rintro e w6 ⟨rfl, F6⟩
            have D := Lib.hid (D.out w6 F6)
            clear F6 CC
            go_wp2
            go_ret2
            exact D.out
end Go.Proofs.YtladhmbidicncaaDoor
