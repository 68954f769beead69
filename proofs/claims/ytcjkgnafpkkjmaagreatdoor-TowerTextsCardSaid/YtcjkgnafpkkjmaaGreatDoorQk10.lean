/- The texts and numbers of numbers: a part of the walk. No condition. -/
import Derived.Test.YtcjkgnafpkkjmaaGreatDoorQk09
import Derived.Lib.AppendIntMem
import Derived.RangeFuncNested
import Derived.RangeFuncBound
import Derived.RangeFuncCalls
import Derived.RangeFuncLeaves
import Derived.RangeFuncBox
import Derived.Shelf.Abstract
import Derived.Shelf.RegionOpen
import Derived.OwnWalkIn
import Derived.TacticsInMore
import Derived.LoopNIn
import Derived.LoopIn
set_option linter.all false
namespace Go.Proofs.YtcjkgnafpkkjmaaGreatDoor
section
open Go.ChangeShapes Go.WideShapes Go.RowKit
variable {w w' w2 wr : World} {a b : Option Addr} {cap cap2 : Nat} {L M : List Nat} {B : Nat}
def allDig (l : List UInt8) : Bool := l.all isDig
def parseE (l : List UInt8) : Nat := if l.length = 0 ∨ 700 < l.length ∨ allDig l = false then 13 else if fits (numOf l) then 0 else 11
def ParseR (w : World) (l : List UInt8) (e : Ending) (w' : World) : Prop :=
  if parseE l = 0 then ∃ a cap, e = .returned (.tuple #[.slice a (lims (numOf l)).length cap, .int .i64 0]) ∧ Nw w' w.heap.size a cap (lims (numOf l)) ∧ Fr [] w w'
  else e = .returned (.tuple #[.slice none 0 0, .int .i64 (parseE l : Int)]) ∧ Fr [] w w'
theorem parseR_text {l : List UInt8} (h : l.length = 0 ∨ 700 < l.length ∨ allDig l = false) (hF : Fr [] w w') : ParseR w l (.returned (.tuple #[.slice none 0 0, .int .i64 13])) w' := by
  have e : parseE l = 13 := by unfold parseE; rw [if_pos h]
  unfold ParseR; rw [e, if_neg (by decide)]; exact ⟨rfl, hF⟩
theorem parseR_big {l : List UInt8} (h : ¬ (l.length = 0 ∨ 700 < l.length ∨ allDig l = false)) (hb : fits (numOf l) = false) (hF : Fr [] w w') : ParseR w l (.returned (.tuple #[.slice none 0 0, .int .i64 11])) w' := by
  have e : parseE l = 11 := by unfold parseE; rw [if_neg h, hb]; rfl
  unfold ParseR; rw [e, if_neg (by decide)]; exact ⟨rfl, hF⟩
theorem parseR_ok {l : List UInt8} (h : ¬ (l.length = 0 ∨ 700 < l.length ∨ allDig l = false)) (hb : fits (numOf l) = true) (hN : Nw w' w.heap.size a cap (lims (numOf l))) (hF : Fr [] w w') : ParseR w l (.returned (.tuple #[.slice a (lims (numOf l)).length cap, .int .i64 0])) w' := by
  have e : parseE l = 0 := by unfold parseE; rw [if_neg h, hb]; rfl
  unfold ParseR; rw [e, if_pos rfl]; exact ⟨a, cap, rfl, hN, hF⟩
theorem run_str_at (l : List UInt8) (i : Nat) (hi : i < l.length) (W : World) : (Instr.index 9 (.string ⟨l.toArray⟩) (.int .i64 (i : Int))).run Tryz.prog W = .ok (.int .u8 ((l[i]?.getD 0).toNat : Int)) W := by
  have h1 : (0 : Int) ≤ (i : Int) ∧ (i : Int) < ((ByteArray.mk l.toArray).size : Int) := by simp [ByteArray.size]; omega
  rw [run_index_string W 9 ⟨l.toArray⟩ .i64 (i : Int) Tryz.underlying9, dif_pos h1]
  have : (ByteArray.mk l.toArray)[(i : Int).toNat]'(by simp [ByteArray.size]; omega) = l[i] := rfl
  rw [this, List.getElem?_eq_getElem hi]; rfl
theorem allDig_take {l : List UInt8} (h : allDig l = true) (k : Nat) (hk : k < l.length) : isDig (l[k]?.getD 0) = true := by
  unfold allDig at h
  rw [List.all_eq_true] at h
  rw [List.getElem?_eq_getElem hk]
  exact h _ (List.getElem_mem hk)
theorem allDig_of {l : List UInt8} (h : ∀ i, i < l.length → isDig (l[i]?.getD 0) = true) : allDig l = true := by
  unfold allDig
  rw [List.all_eq_true]
  intro c hc
  obtain ⟨i, hi, rfl⟩ := List.mem_iff_getElem.1 hc
  have := h i hi
  rwa [List.getElem?_eq_getElem hi] at this
theorem allDig_not {l : List UInt8} {k : Nat} (hk : k < l.length) (h : isDig (l[k]?.getD 0) = false) : allDig l = false := by
  cases hd : allDig l with
  | false => rfl
  | true => have := allDig_take hd k hk; rw [h] at this; cases this
theorem take_get_succ {l : List UInt8} {k : Nat} (hk : k < l.length) : l.take (k + 1) = l.take k ++ [l[k]?.getD 0] := by
  rw [List.take_add_one, List.getElem?_eq_getElem hk]; rfl
theorem numOf_step {l : List UInt8} {k : Nat} (hk : k < l.length) : numOf (l.take (k + 1)) = numOf (l.take k) * 10 + ((l[k]?.getD 0).toNat - 48) := by
  rw [take_get_succ hk, numOf_snoc, Nat.mul_comm]
theorem numOf_lt {l : List UInt8} (h : allDig l = true) (k : Nat) (hk : k ≤ l.length) : numOf (l.take k) < 10 ^ k := by
  induction k with
  | zero => simp [numOf]
  | succ k ih =>
    have := ih (by omega)
    have hd := allDig_take h k (by omega)
    rw [numOf_step (by omega), Nat.pow_succ]
    unfold isDig at hd
    simp only [decide_eq_true_eq] at hd
    omega
theorem numOf_lens {l : List UInt8} (h : allDig l = true) (k : Nat) (hk : k ≤ l.length) (h7 : l.length ≤ 700) : (lims (numOf (l.take k))).length ≤ 88 := by
  rw [len_lims]
  have h1 := numOf_lt h k hk
  have h2 : ∀ m, k ≤ m → (10 : Nat) ^ k ≤ 10 ^ m := fun m hm => Nat.pow_le_pow_right (by decide) hm
  exact Nat.lt_of_lt_of_le h1 (Nat.le_trans (h2 700 (by omega)) (by decide +kernel))
theorem in_one {W : World} {g x : Nat} (h : blk W g = some (.cells #[.int .u32 (x : Int)] 84 (0, 0))) (hx : x < 4294967296) : In W (some ⟨g, 0, none⟩) 1 [x] := by
  refine ⟨.inr ⟨g, 0, rfl, lt_size h, fun i hi => ?_⟩, lim_cons.2 ⟨hx, lim_nil⟩, by simp, by unfold maxLen; omega, by simp⟩
  have : i = 0 := by simp at hi; omega
  subst this
  exact cell_of h rfl
theorem isDig_iff {c : UInt8} : isDig c = true ↔ 48 ≤ c.toNat ∧ c.toNat ≤ 57 := by unfold isDig; simp
set_option maxRecDepth 100000 in
set_option maxHeartbeats 2000000 in
theorem r1parse_c (w : World) (l : List UInt8) (hsz : l.length ≤ 1000000) : Calls Tryz.prog 84 #[.string ⟨l.toArray⟩] w (ParseR w l) := by
  have hsize : (ByteArray.mk l.toArray).size = l.length := rfl
  by_cases h1 : l.length = 0
  · have D : Hid (ParseR w l (.returned (.tuple #[.slice none 0 0, .int .i64 13])) w) := Lib.hid (parseR_text (.inl h1) (Fr.refl _ _))
    go_enter Tryz.func84, Tryz.ntmps84
    go_wp2
    go_ret2
    exact D.out
  · by_cases h2 : 700 < l.length
    · have D : Hid (ParseR w l (.returned (.tuple #[.slice none 0 0, .int .i64 13])) w) := Lib.hid (parseR_text (.inr (.inl h2)) (Fr.refl _ _))
      go_enter Tryz.func84, Tryz.ntmps84
      go_wp2
      go_ret2
      exact D.out
    · have N0 : Hid (Nw (w.alloc (.cells #[] 84)) w.heap.size (some ⟨w.heap.size, 0, none⟩) 0 []) := Lib.hid (Nw.made w 0 0 (Nat.le_refl _) (by omega) (by omega))
      have F0 : Hid (Fr [] w (w.alloc (.cells #[] 84))) := Lib.hid ((Fr.refl [] w).alloc _)
      have hl1 : 1 ≤ l.length := by omega
      go_enter Tryz.func84, Tryz.ntmps84
      go_wp2_with fail
      go_loopw [5] (fun s5 wr => ∃ k : Nat, k ≤ l.length ∧ s5 = .int .i64 (k : Int) ∧ Hid (∀ i, i < k → isDig (l[i]?.getD 0) = true) ∧ wr = w.alloc (.cells #[] 84)) (fun x _ => l.length - (intOf x).toNat)
      case atStart => exact ⟨0, by omega, rfl, Lib.hid (fun i h => by omega), rfl⟩
      case round =>
        obtain ⟨k, hk, rfl, hD, rfl⟩ := hrel
        by_cases hlt : k < l.length
        · have SK := run_str_at l k hlt
          have NX : Hid (isDig (l[k]?.getD 0) = true → ∀ i, i < k + 1 → isDig (l[i]?.getD 0) = true) := Lib.hid (fun he i hi => by
            by_cases h : i = k
            · subst h; exact he
            · exact hD.out i (by omega))
          have NE : Hid (isDig (l[k]?.getD 0) = false → ParseR w l (.returned (.tuple #[.slice none 0 0, .int .i64 13])) (w.alloc (.cells #[] 84))) := Lib.hid (fun he => parseR_text (.inr (.inr (allDig_not hlt he))) F0.out)
          generalize l[k]?.getD 0 = c at *
          obtain ⟨cn, hcn⟩ : ∃ cn, cn = c.toNat := ⟨_, rfl⟩
          rw [← hcn] at SK
          have DI : Hid (isDig c = decide (48 ≤ cn ∧ cn ≤ 57)) := Lib.hid (by rw [hcn]; rfl)
          have hcb : cn < 256 := by rw [hcn]; exact UInt8.toNat_lt c
          clear hcn hD
          by_cases c1 : cn < 48
          · have D := Lib.hid (NE.out (by rw [DI.out, decide_eq_false_iff_not]; omega))
            have c1I : (cn : Int) < 48 := by omega
            clear NX NE DI
            go_wp2
            go_ret2
            exact D.out
          · by_cases c2 : 57 < cn
            · have D := Lib.hid (NE.out (by rw [DI.out, decide_eq_false_iff_not]; omega))
              have c1I : ¬ (cn : Int) < 48 := by omega
              have c2I : (57 : Int) < (cn : Int) := by omega
              clear NX NE DI
              go_wp2
              go_ret2
              exact D.out
            · have S1 := Lib.hid (NX.out (by rw [DI.out, decide_eq_true_eq]; omega))
              have c1I : ¬ (cn : Int) < 48 := by omega
              have c2I : ¬ (57 : Int) < (cn : Int) := by omega
              clear NX NE DI
              go_wp2
              go_roundw
              case rel => exact ⟨k + 1, by omega, by go_num, S1, by first | rfl | trivial⟩
              case measure => simp [intOf]; omega
        · have hkl : k = l.length := by omega
          subst hkl
          have AD := Lib.hid (allDig_of hD.out)
          clear hD
          go_wp2_with fail
          go_loopw [4, 6] (fun s4 s6 wr => ∃ (k : Nat) (ao : Option Addr) (co : Nat), k ≤ l.length ∧ s6 = .int .i64 (k : Int) ∧ s4 = .slice ao (lims (numOf (l.take k))).length co ∧ Hid (Nw wr w.heap.size ao co (lims (numOf (l.take k)))) ∧ Hid (Fr [] w wr)) (fun _ x _ => l.length - (intOf x).toNat)
          case atStart => exact ⟨0, _, _, by omega, rfl, rfl, N0, F0⟩
          case round =>
            obtain ⟨k, ao, co, hk, rfl, rfl, hN, hF⟩ := hrel
            by_cases hlt : k < l.length
            · have SK := run_str_at l k hlt
              have hdg := isDig_iff.1 (allDig_take AD.out k hlt)
              have NS := numOf_step hlt
              have LV := numOf_lens AD.out k hk (by omega)
              obtain ⟨V, hV⟩ : ∃ V, V = numOf (l.take k) := ⟨_, rfl⟩
              rw [← hV] at hN LV NS ⊢
              obtain ⟨cn, hcn⟩ : ∃ cn, cn = (l[k]?.getD 0).toNat := ⟨_, rfl⟩
              rw [← hcn] at SK hdg NS
              obtain ⟨d, hd⟩ : ∃ d, d = cn - 48 := ⟨_, rfl⟩
              rw [← hd] at NS
              have hd9 : d < 10 := by omega
              have ew1 : IntKind.u32.wrap (cn : Int) = (cn : Int) := by rw [IntKind.wrap_u32]; omega
              have ew2 : IntKind.u32.wrap ((cn : Int) - 48) = (d : Int) := by rw [IntKind.wrap_u32]; omega
              have NS := Lib.hid NS
              have CT : Hid (∀ W g, Fr [] wr W → blk W g = some (.cells #[.int .u32 10] 84 (0, 0)) → Calls Tryz.prog 119 #[.slice ao (lims V).length co, .slice (some ⟨g, 0, none⟩) 1 1] W (Gives W (lims (V * 10)))) := Lib.hid (fun W g h1 h2 => by
                have := r1times_c W (hN.out.keep h1).in (in_one (x := 10) h2 (by decide)) (by simp; omega)
                rwa [val_lims, lims_one] at this)
              have LT : (lims (V * 10)).length ≤ 100 := by
                rw [len_lims]
                have := len_lims.1 LV
                have e : (4294967296 : Nat) ^ 100 = 4294967296 ^ 88 * 4294967296 ^ 12 := by rw [← Nat.pow_add]
                rw [e]
                exact Nat.mul_lt_mul'' this (by decide)
              have CP : Hid (∀ W g a3 c3 B, In W a3 c3 (lims (V * 10)) → blk W g = some (.cells #[.int .u32 (d : Int)] 84 (0, 0)) → B = W → Calls Tryz.prog 118 #[.slice a3 (lims (V * 10)).length c3, .slice (some ⟨g, 0, none⟩) 1 1] W (Gives B (lims (V * 10 + d)))) := Lib.hid (fun W g a3 c3 B h1 h2 hB => by
                subst hB
                have := r1plus_c B h1 (in_one (x := d) h2 (by omega)) (by omega) (by simp)
                rwa [val_lims, lims_one] at this)
              clear hcn hd hV hdg LV LT
              go_wp2_with fail
              go_region_with (first | (go_at_call 119; refine Calls.mono (CT.out _ _ ?_ ?_) ?_; (· repeat (first | exact Fr.refl _ _ | apply Fr.drew | apply Fr.alloc)); (· simp [blk_alloc, blk_drew]); rintro e w3 ⟨a3, c3, rfl, h3, f3⟩) | (go_at_call 118; refine Calls.mono (CP.out _ _ _ _ _ ?_ ?_ rfl) ?_; (· exact h3.in.keep (by repeat (first | exact Fr.refl _ _ | apply Fr.drew | apply Fr.alloc))); (· first | (simp [blk_alloc]; done) | (refine f3.at ?_ (by simp); simp [blk_alloc, blk_drew])); rintro e w4 ⟨a4, c4, rfl, h4, f4⟩))
              all_goals
                have Q := Lib.hid (h4.base (B' := w.heap.size) (Nat.le_trans hF.out.size (Fr.size (S := []) (by repeat (first | exact Fr.refl _ _ | apply Fr.drew | apply Fr.alloc | (refine Fr.same ?_ f3))))))
                have G : Hid (Fr [] w w4) := Lib.hid (hF.out.same (by refine Fr.same ?_ f4; repeat (first | exact Fr.refl _ _ | apply Fr.drew | apply Fr.alloc | (refine Fr.same ?_ f3))))
                clear h4 f4 h3 f3 CT CP SK
                go_wp2
                go_roundw
                case rel => exact ⟨k + 1, a4, c4, by omega, by go_num, by rw [NS.out], by rw [NS.out]; exact Q, G⟩
                case measure => simp [intOf]; omega
            · have hkl : k = l.length := by omega
              subst hkl
              rw [List.take_length] at hN ⊢
              have CB := Lib.hid (r1big_c wr hN.out.in)
              rw [val_lims] at CB
              have hok : ¬ (l.length = 0 ∨ 700 < l.length ∨ allDig l = false) := by
                rintro (h | h | h)
                · exact h1 h
                · exact h2 h
                · rw [AD.out] at h; cases h
              cases hf : fits (numOf l) with
              | true =>
                have D : Hid (∀ W, Fr [] wr W → ParseR w l (.returned (.tuple #[.slice ao (lims (numOf l)).length co, .int .i64 0])) W) := Lib.hid (fun W hW => parseR_ok hok hf (hN.out.keep hW) (hF.out.same hW))
                rw [hf] at CB
                clear hf hN hF hok
                go_wp2_with fail
                refine CB.out.mono ?_
                rintro e w3 ⟨rfl, f3⟩
                have D := Lib.hid (D.out w3 f3)
                clear f3 CB
                go_wp2
                go_ret2
                exact D.out
              | false =>
                have D : Hid (∀ W, Fr [] wr W → ParseR w l (.returned (.tuple #[.slice none 0 0, .int .i64 11])) W) := Lib.hid (fun W hW => parseR_big hok hf (hF.out.same hW))
                rw [hf] at CB
                clear hf hN hF hok
                go_wp2_with fail
                refine CB.out.mono ?_
                rintro e w3 ⟨rfl, f3⟩
                have D := Lib.hid (D.out w3 f3)
                clear f3 CB
                go_wp2
                go_ret2
                exact D.out
structure MulTen (U C : List Nat) (d i c : Nat) : Prop where
  len : C.length = U.length
  v : val (C.take i) + 4294967296 ^ i * c = val (U.take i) * 10 + d
  dr : C.drop i = U.drop i
  c1 : c < 10
theorem MulTen.start (U : List Nat) {d : Nat} (h : d < 10) : MulTen U U d 0 d := ⟨rfl, by simp [val], rfl, h⟩
theorem MulTen.step {U C : List Nat} {d i c x : Nat} (h : MulTen U C d i c) (hU : Lim U) (hi : i < U.length) (hx : U[i]?.getD 0 = x) : MulTen U (C.set i ((x * 10 + c) % 4294967296)) d (i + 1) ((x * 10 + c) / 4294967296) := by
  have hxb := lim_get hU i
  rw [hx] at hxb
  have hc := h.c1
  refine ⟨by simp [h.len], ?_, ?_, by omega⟩
  · rw [take_set_succ _ _ _ (by rw [h.len]; exact hi), val_snoc, val_take_succ, hx, Nat.pow_succ]
    have e : (C.take i).length = i := by rw [List.length_take, h.len]; omega
    rw [e]
    have hv := h.v
    have e2 := Nat.mod_add_div (x * 10 + c) 4294967296
    generalize (x * 10 + c) % 4294967296 = m at *
    generalize (x * 10 + c) / 4294967296 = q at *
    generalize 4294967296 ^ i = P at *
    have e3 : P * (m + 4294967296 * q) = P * (x * 10 + c) := by rw [e2]
    rw [Nat.mul_add, Nat.mul_add, ← Nat.mul_assoc, ← Nat.mul_assoc] at e3
    rw [Nat.add_mul]
    omega
  · rw [drop_set_succ, ← List.drop_drop, h.dr, List.drop_drop]
theorem MulTen.done {U C : List Nat} {d c : Nat} (h : MulTen U C d U.length c) : val C + 4294967296 ^ C.length * c = val U * 10 + d := by
  have := h.v
  rwa [List.take_of_length_le (by rw [h.len]; exact Nat.le_refl _), List.take_of_length_le (Nat.le_refl _), ← h.len] at this
set_option maxRecDepth 100000 in
set_option maxHeartbeats 2000000 in
theorem lparse_c (w : World) (l : List UInt8) (hsz : l.length ≤ 1000000) : Calls Tryz.prog 82 #[.string ⟨l.toArray⟩] w (ParseR w l) := by
  have hsize : (ByteArray.mk l.toArray).size = l.length := rfl
  by_cases h1 : l.length = 0
  · have D : Hid (ParseR w l (.returned (.tuple #[.slice none 0 0, .int .i64 13])) w) := Lib.hid (parseR_text (.inl h1) (Fr.refl _ _))
    go_enter Tryz.func82, Tryz.ntmps82
    go_wp2
    go_ret2
    exact D.out
  · by_cases h2 : 700 < l.length
    · have D : Hid (ParseR w l (.returned (.tuple #[.slice none 0 0, .int .i64 13])) w) := Lib.hid (parseR_text (.inr (.inl h2)) (Fr.refl _ _))
      go_enter Tryz.func82, Tryz.ntmps82
      go_wp2
      go_ret2
      exact D.out
    · obtain ⟨i0, hi, hz0, hz1, hz2⟩ := info_parts info_u32
      have HI := Lib.hid hi
      have Z0 := Lib.hid hz0
      have Z1 := Lib.hid hz1
      have Z2 := Lib.hid hz2
      clear hi hz0 hz1 hz2
      have hl1 : 1 ≤ l.length := by omega
      have hl2 : l.length ≤ 700 := by omega
      have hl0 : ((l.length : Int) == 0) = false := by rw [beq_eq_false_iff_ne]; omega
      go_enter Tryz.func82, Tryz.ntmps82
      go_wp2_with fail
      go_loopw [4, 19, 5, 6, 7, 8] (fun s4 s19 _ _ _ _ wr => ∃ (k : Nat) (ao : Option Addr) (co : Nat) (U : List Nat), k ≤ l.length ∧ U.length ≤ k ∧ s19 = .int .i64 (k : Int) ∧ s4 = .slice ao U.length co ∧ val U = numOf (l.take k) ∧ Hid (∀ i, i < k → isDig (l[i]?.getD 0) = true) ∧ Hid (Nw wr w.heap.size ao co U) ∧ Hid (Fr [] w wr)) (fun _ x _ _ _ _ _ => l.length - (intOf x).toNat)
      case atStart => exact ⟨0, none, 0, [], by omega, by simp, rfl, rfl, rfl, Lib.hid (fun i h => by omega), Lib.hid (Nw.nil _ _), Lib.hid (Fr.refl _ _)⟩
      case round =>
        obtain ⟨k, ao, co, U, hk, hU, rfl, rfl, hV, hD, hN, hF⟩ := hrel
        by_cases hlt : k < l.length
        · have SK := run_str_at l k hlt
          have NX : Hid (isDig (l[k]?.getD 0) = true → ∀ i, i < k + 1 → isDig (l[i]?.getD 0) = true) := Lib.hid (fun he i hi => by
            by_cases h : i = k
            · subst h; exact he
            · exact hD.out i (by omega))
          have NE : Hid (isDig (l[k]?.getD 0) = false → ParseR w l (.returned (.tuple #[.slice none 0 0, .int .i64 13])) wr) := Lib.hid (fun he => parseR_text (.inr (.inr (allDig_not hlt he))) hF.out)
          have NS := Lib.hid (numOf_step hlt)
          generalize l[k]?.getD 0 = c at *
          obtain ⟨cn, hcn⟩ : ∃ cn, cn = c.toNat := ⟨_, rfl⟩
          rw [← hcn] at SK NS
          have DI : Hid (isDig c = decide (48 ≤ cn ∧ cn ≤ 57)) := Lib.hid (by rw [hcn]; rfl)
          have hcb : cn < 256 := by rw [hcn]; exact UInt8.toNat_lt c
          clear hcn hD
          by_cases c1 : cn < 48
          · have D := Lib.hid (NE.out (by rw [DI.out, decide_eq_false_iff_not]; omega))
            have c1I : (cn : Int) < 48 := by omega
            clear NX NE DI
            go_wp2
            go_ret2
            exact D.out
          · by_cases c2 : 57 < cn
            · have D := Lib.hid (NE.out (by rw [DI.out, decide_eq_false_iff_not]; omega))
              have c1I : ¬ (cn : Int) < 48 := by omega
              have c2I : (57 : Int) < (cn : Int) := by omega
              clear NX NE DI
              go_wp2
              go_ret2
              exact D.out
            · have S1 := Lib.hid (NX.out (by rw [DI.out, decide_eq_true_eq]; omega))
              have c1I : ¬ (cn : Int) < 48 := by omega
              have c2I : ¬ (57 : Int) < (cn : Int) := by omega
              obtain ⟨d, hd⟩ : ∃ d, d = cn - 48 := ⟨_, rfl⟩
              have e1 : (cn : Int) - 48 = (d : Int) := by omega
              have hd9 : d < 10 := by omega
              rw [← hd, ← hV] at NS
              have hUl : U.length ≤ 700 := by omega
              clear NX NE DI hd
              go_wp2_with fail
              go_loopw [39, 6, 7, 8] (fun s39 s6 _ _ wx => ∃ (C : List Nat) (i cy : Nat), i ≤ U.length ∧ s39 = .int .i64 (i : Int) ∧ s6 = .int .u64 (cy : Int) ∧ MulTen U C d i cy ∧ Hid (Nw wx w.heap.size ao co C) ∧ Hid (Fr [] w wx)) (fun x _ _ _ _ => U.length - (intOf x).toNat)
              case atStart => exact ⟨U, 0, d, by omega, rfl, rfl, MulTen.start U hd9, hN, hF⟩
              case round =>
                obtain ⟨C, i, cy, hi, rfl, rfl, hM, hC, hG⟩ := hrel
                have HLEN := Lib.hid hM.len
                by_cases hil : i < U.length
                · obtain ⟨g, rfl, hg1, hg2⟩ := hC.out.at (i := i) (by rw [HLEN.out]; exact hil)
                  have cx := hC.out.cell (i := i) (by rw [HLEN.out]; exact hil)
                  have fx := hC.out.free i
                  have ex : Hid (C[i]? = U[i]?) := Lib.hid (drop_get hM.dr)
                  rw [ex.out] at cx
                  have bx := lim_get hN.out.lim i
                  have MS := hM.step hN.out.lim hil rfl
                  have hc9 := hM.c1
                  generalize U[i]?.getD 0 = x at *
                  obtain ⟨T, hTe⟩ : ∃ T, T = x * 10 + cy := ⟨_, rfl⟩
                  rw [← hTe] at MS
                  have eI : (x : Int) * 10 + (cy : Int) = (T : Int) := by omega
                  have hTb : T < 42949672960 := by omega
                  have q1 : (T : Int) % 4294967296 = ((T % 4294967296 : Nat) : Int) := by omega
                  have q2 : (T : Int) / 4294967296 = ((T / 4294967296 : Nat) : Int) := by omega
                  have hz : T % 4294967296 < 4294967296 := Nat.mod_lt _ (by decide)
                  have NSS := Lib.hid (hC.out.set i (T % 4294967296) hz)
                  generalize T % 4294967296 = z at *
                  generalize T / 4294967296 = y at *
                  have GS : Hid (Fr [] w (wr.setCell ⟨g, i, none⟩ (.int .u32 (z : Int)))) := Lib.hid (hG.out.setCell (.inr hg1) _)
                  clear hM hTe hC hG ex
                  go_wp2
                  go_roundw
                  case rel => exact ⟨C.set i z, i + 1, y, by omega, by go_num, by first | rfl | exact congrArg _ q2, MS, NSS, GS⟩
                  case measure => simp [intOf]; omega
                · have hiu : i = U.length := by omega
                  subst hiu
                  have MD := Lib.hid hM.done
                  have hc9 := hM.c1
                  by_cases hc0 : cy = 0
                  · subst hc0
                    have VV : val C = numOf (l.take (k + 1)) := by
                      have := MD.out
                      rw [Nat.mul_zero, Nat.add_zero, ← NS.out] at this
                      exact this
                    clear hM MD
                    go_wp2
                    go_roundw
                    case rel => exact ⟨k + 1, ao, co, C, by omega, by rw [HLEN.out]; omega, by go_num, by rw [HLEN.out], VV, S1, hC, hG⟩
                    case measure => simp [intOf]; omega
                  · have hc0I : (0 : Int) < (cy : Int) := by omega
                    have hz : cy < 4294967296 := by omega
                    have VV : val (C ++ [cy]) = numOf (l.take (k + 1)) := by rw [val_snoc, MD.out, ← NS.out]
                    have OW := Lib.hid (nw_alloc hC.out (.cells #[.int .u32 (cy : Int)] 84))
                    rw [HLEN.out] at OW
                    have NW := Lib.hid (heap_alloc_new wr (.cells #[.int .u32 (cy : Int)] 84))
                    have hBs : w.heap.size ≤ (wr.alloc (.cells #[.int .u32 (cy : Int)] 84)).heap.size := by have := hG.out.size; rw [size_alloc]; omega
                    clear hM MD
                    go_wp2_with (at_builtin; refine wpList_append_lies _ rfl _ _ 34 rfl w.heap.size 84 i0 (.int .u32 0) 1 4 Tryz.underlying34 HI.out Z0.out Z1.out Z2.out rfl (by omega) (.slice ao U.length co) U.length (lc C) rfl OW.out ⟨wr.heap.size, 0, none⟩ 1 1 [.int .u32 (cy : Int)] rfl rfl (World.news_of_block NW.out) (by simp [Value.oneCell']) (by omega) (by unfold maxLen; omega) (by omega) hBs _ rfl ?_; intro g5 cap5 w5 own5 gr5 at5 lt5)
                    rw [← HLEN.out] at own5 gr5
                    have Q := Lib.hid (app_step hC.out hG.out (Nat.le_refl _) hz (by rw [HLEN.out]; omega) own5 gr5)
                    clear own5 gr5 at5
                    go_wp2
                    go_roundw
                    case rel => exact ⟨k + 1, _, _, C ++ [cy], by omega, by simp [HLEN.out]; omega, by go_num, by simp [HLEN.out], VV, S1, Lib.hid Q.out.1, Lib.hid Q.out.2⟩
                    case measure => simp [intOf]; omega
        · have hkl : k = l.length := by omega
          subst hkl
          rw [List.take_length] at hV
          have CC := Lib.hid (capped_c wr hN.out.in)
          rw [hV] at CC
          have AD := Lib.hid (allDig_of hD.out)
          have hok : ¬ (l.length = 0 ∨ 700 < l.length ∨ allDig l = false) := by
            rintro (h | h | h)
            · exact h1 h
            · exact h2 h
            · rw [AD.out] at h; cases h
          clear hD hN
          cases hf : fits (numOf l) with
          | true =>
            have D : Hid (∀ a6 c6 w6, Nw w6 wr.heap.size a6 c6 (lims (numOf l)) → Fr [] wr w6 → ParseR w l (.returned (.tuple #[.slice a6 (lims (numOf l)).length c6, .int .i64 0])) w6) := Lib.hid (fun a6 c6 w6 h1 h2 => parseR_ok hok hf (h1.base hF.out.size) (hF.out.same h2))
            rw [hf] at CC
            clear hf hok
            go_wp2_with fail
            refine CC.out.mono ?_
            rintro e w6 ⟨a6, c6, rfl, N6, F6⟩
            have D := Lib.hid (D.out a6 c6 w6 N6 F6)
            clear N6 F6 CC
            go_wp2
            go_ret2
            exact D.out
          | false =>
            have D : Hid (∀ w6, Fr [] wr w6 → ParseR w l (.returned (.tuple #[.slice none 0 0, .int .i64 11])) w6) := Lib.hid (fun w6 h2 => parseR_big hok hf (hF.out.same h2))
            rw [hf] at CC
            clear hf hok
            go_wp2_with fail
            refine CC.out.mono ?_
            rintro e w6 ⟨rfl, F6⟩
            have D := Lib.hid (D.out w6 F6)
            clear F6 CC
            go_wp2
            go_ret2
            exact D.out
end
section
open Go.ChangeShapes Go.WideShapes Go.RowKit Go.Shelf
variable {w w' w2 wr : World} {a b : Option Addr} {cap cap2 : Nat} {L M : List Nat} {B : Nat}
theorem fr_of_below (h : Below w.heap.size w w') : Fr [] w w' := ⟨h.os, h.tape, h.output, h.size, fun k hk _ => h.block k hk⟩
theorem heap_fr {S : List Nat} (h : Fr S w w') {k : Nat} {o : Obj} (hk : w.heap[k]? = some o) (hn : k ∉ S) : w'.heap[k]? = some o := h.at hk hn
def Tab (w : World) : Prop := Lib.TabIs Tryz.prog w "internal/strconv.uint64pow10" .u64 Lib.pow10Tab
theorem Tab.fr (h : Tab w) (hF : Fr [] w w') : Tab w' := by
  unfold Tab Lib.TabIs World.var? at *
  cases hg : (Tryz.prog).globalNamed "internal/strconv.uint64pow10" with
  | none => rw [hg] at h; simp at h
  | some g =>
    rw [hg] at h
    simp only [Option.bind_some] at h ⊢
    cases hb : w.heap[g]? with
    | none => rw [hb] at h; simp at h
    | some o => rw [heap_fr hF hb (by simp)]; rw [hb] at h; exact h
theorem itoa_c (w : World) (h : Tab w) (p : Nat) (hp : p < 1000000000) : Calls Tryz.prog 32 #[.int .i64 (p : Int)] w fun e w' => e = .returned (.string ⟨(Lib.decDigits p).toArray⟩) ∧ Fr [] w w' := by
  refine (Tryz.strconv_Itoa (p : Int) (by omega) (by omega) w h).mono ?_
  rintro e w' ⟨rfl, k, os, rfl⟩
  refine ⟨by rw [Lib.itoa_nonneg], fr_of_below (Lib.below_grow _ _ (Nat.le_refl _) k os)⟩
theorem repeatL_zeros (c : Nat) : Lib.repeatL [48] c = List.replicate c 48 := by
  induction c with
  | zero => rfl
  | succ c ih => rw [Lib.repeatL, ih, List.replicate_succ]; rfl
theorem repeat_c (w : World) (c : Nat) (hc : c ≤ 100) : Calls Tryz.prog 121 #[.string ⟨#[48]⟩, .int .i64 (c : Int)] w fun e w' => e = .returned (.string ⟨(List.replicate c 48).toArray⟩) ∧ Fr [] w w' := by
  refine (Tryz.strings_Repeat ⟨#[48]⟩ c w (by omega) (by simp [ByteArray.size]; omega)).mono ?_
  rintro e w' ⟨rfl, hB⟩
  refine ⟨?_, fr_of_below hB⟩
  rw [show (ByteArray.mk #[48]).data.toList = [48] from rfl, repeatL_zeros]
abbrev Pr := { x : Nat × Nat // x.2 < 1000000000 ∧ x.1 < 100000 }
def pr0 : Pr := ⟨(0, 0), by decide, by decide⟩
def came (f : Nat → Pr) (K : Nat) : Nat → List Pr
  | 0 => []
  | j + 1 => came f K j ++ [f (K - 1 - j)]
theorem came_len (f : Nat → Pr) (K j : Nat) : (came f K j).length = j := by
  induction j with
  | zero => rfl
  | succ j ih => simp [came, ih]
def outP (K : Nat) (l : List Pr) : List UInt8 := l.flatMap fun x => if x.1.1 + 1 < K then padD 9 x.1.2 else Lib.decDigits x.1.2
theorem outP_snoc (K : Nat) (l : List Pr) (x : Pr) : outP K (l ++ [x]) = outP K l ++ (if x.1.1 + 1 < K then padD 9 x.1.2 else Lib.decDigits x.1.2) := by simp [outP]
theorem padD_len (k r : Nat) : (padD k r).length = k := by
  induction k generalizing r with
  | zero => rfl
  | succ k ih => simp [padD, ih]
theorem outP_len (K : Nat) (l : List Pr) : (outP K l).length ≤ 9 * l.length := by
  induction l with
  | nil => simp [outP]
  | cons x l ih =>
    have e : outP K (x :: l) = (if x.1.1 + 1 < K then padD 9 x.1.2 else Lib.decDigits x.1.2) ++ outP K l := by simp [outP]
    rw [e, List.length_append, List.length_cons]
    have : (if x.1.1 + 1 < K then padD 9 x.1.2 else Lib.decDigits x.1.2).length ≤ 9 := by
      split
      · rw [padD_len]; exact Nat.le_refl _
      · exact dec_len (by decide) x.2.1
    omega
def prs (O : List Nat) (i : Nat) : Pr := if h : O[i]?.getD 0 < 1000000000 ∧ i < 100000 then ⟨(i, O[i]?.getD 0), h⟩ else pr0
theorem prs_at {O : List Nat} (hO : ∀ p, p ∈ O → p < 1000000000) (hl : O.length ≤ 100000) {i : Nat} (hi : i < O.length) : (prs O i).1 = (i, O[i]?.getD 0) := by
  unfold prs
  rw [dif_pos]
  refine ⟨?_, by omega⟩
  rw [List.getElem?_eq_getElem hi]
  exact hO _ (List.getElem_mem hi)
theorem outP_came {O : List Nat} (hO : ∀ p, p ∈ O → p < 1000000000) (hl : O.length ≤ 100000) (j : Nat) (hj : j ≤ O.length) : outP O.length (came (prs O) O.length j) = outOf (O.drop (O.length - j)) := by
  induction j with
  | zero => simp [came, outP, outOf]
  | succ j ih =>
    have hi : O.length - 1 - j < O.length := by omega
    rw [came, outP_snoc, ih (by omega), prs_at hO hl hi]
    have e : O.drop (O.length - (j + 1)) = O[O.length - 1 - j]?.getD 0 :: O.drop (O.length - j) := by
      rw [show O.length - (j + 1) = O.length - 1 - j by omega, List.drop_eq_getElem_cons hi, List.getElem?_eq_getElem hi, show O.length - 1 - j + 1 = O.length - j by omega]; rfl
    rw [e, outOf]
    congr 1
    simp only
    by_cases h0 : j = 0
    · rw [if_neg (by omega), if_pos (by rw [List.drop_eq_nil_iff]; omega)]
    · rw [if_pos (by omega), if_neg (by rw [List.drop_eq_nil_iff]; omega)]
def KeepO (BO n₁ : Nat) (W W' : World) : Prop := ∀ k, k < n₁ → k ≠ BO → W'.heap[k]? = W.heap[k]?
theorem KeepO.refl (BO n₁ : Nat) (W : World) : KeepO BO n₁ W W := fun _ _ _ => rfl
theorem KeepO.trans {BO n₁ : Nat} {A B C : World} (h : KeepO BO n₁ A B) (k : KeepO BO n₁ B C) : KeepO BO n₁ A C := fun i h1 h2 => (k i h1 h2).trans (h i h1 h2)
theorem KeepO.cell {BO n₁ : Nat} {W W' : World} (h : KeepO BO n₁ W W') {g j : Nat} (hg : g < n₁) (hn : g ≠ BO) : W'.cell? ⟨g, j, none⟩ = W.cell? ⟨g, j, none⟩ := World.cell?_of_block (w := W) (h g hg hn)
attribute [local go_sem] Oper.semAt_some
set_option maxRecDepth 100000 in
set_option maxHeartbeats 2000000 in
theorem backward1_in (F : Fence) (n : Nat) (hfn : F.fn 164) (hro : F.round = none) (hn : 1 ≤ n) (l Bs BO n₁ g K cap : Nat) (f : Nat → Pr) (hf : ∀ j, j < K → (f j).1.1 = j) (hK : K ≤ 100000) (hBs1 : Bs < n₁) (hBs2 : Bs ≠ BO) (hg1 : g < n₁) (hg2 : g ≠ BO) (J Jx : List Pr → World → Prop)
    (hY : ∀ pre (x : Pr) W, J pre W → pre.length < K → YieldAt F (n - 1) Tryz.prog l #[.int .i64 (x.1.1 : Int), .int .u32 (x.1.2 : Int)] W fun e W' =>
      (e = .returned (.bool true) ∧ J (pre ++ [x]) W' ∧ KeepO BO n₁ W W') ∨ (e = .returned (.bool false) ∧ Jx (pre ++ [x]) W'))
    (W : World) (hBs : W.cell? ⟨Bs, 0, none⟩ = some (.slice (some ⟨g, 0, none⟩) K cap)) (hc : ∀ j, j < K → W.cell? ⟨g, j, none⟩ = some (.int .u32 ((f j).1.2 : Int))) (h0 : J [] W) :
    CallsIn F n Tryz.prog 164 #[.func (.yield l) #[] #[], .pointer (some ⟨Bs, 0, none⟩)] W fun e W' => (∃ v, e = .returned v) ∧
      ((∃ ys, ys = came f K K ∧ J ys W') ∨ (∃ pre, True ∧ Jx pre W')) := by
  refine callsIn_of_wp Tryz.func164 rfl hfn ?_ hro
  simp only [Tryz.ntmps164, List.size_toArray, List.length_cons, List.length_nil, Nat.reduceAdd, Nat.reduceSub, Array.replicate_succ, Array.replicate_zero, List.push_toArray, List.append_toArray, List.nil_append, List.cons_append]
  gi_wp2
  gi_loopw [3] (fun i wr => ∃ j k : Nat, j + k = K ∧ i = .int .i64 ((k : Int) - 1) ∧ J (came f K j) wr ∧ KeepO BO n₁ W wr)
    (fun i _ => (intOf i + 1).toNat)
  case atStart => exact ⟨0, K, by omega, rfl, h0, KeepO.refl _ _ _⟩
  case round =>
    obtain ⟨j, k, hjk, rfl, hJs, hnx⟩ := hrel
    cases k with
    | zero =>
      rw [show (((0 : Nat) : Int) - 1) = -1 from rfl]
      obtain rfl : j = K := by omega
      gi_wp2
      go_end0
      exact ⟨⟨_, rfl⟩, .inl ⟨_, rfl, hJs⟩⟩
    | succ i =>
      rw [show (((i + 1 : Nat) : Int) - 1) = (i : Int) from by omega]
      have hlt : i < K := by omega
      have hcx := (hnx.cell hg1 hg2).trans (hc i hlt)
      have hbx := (hnx.cell hBs1 hBs2).trans hBs
      have hfi := hf i hlt
      obtain ⟨fn, tmps, assign, body, hy, hR⟩ := hY _ (f i) wr hJs (by rw [came_len]; omega)
      rw [hfi] at hy
      gi_wp2
      refine hR.mono ?_
      rintro e W3 (⟨rfl, hJ3, hk3⟩ | ⟨rfl, hJx3⟩)
      · gi_wp2
        go_roundw
        case rel => exact ⟨j + 1, i, by omega, rfl, by rw [came, show K - 1 - j = i by omega]; exact hJ3, hnx.trans hk3⟩
        case measure => simp [intOf]
      · gi_wp2
        refine bodyPost_ret (results_none rfl _ _ _) rfl ?_
        exact ⟨⟨_, rfl⟩, .inr ⟨_, trivial, hJx3⟩⟩
set_option maxHeartbeats 1000000 in
theorem backward_c (w : World) (a : Option Addr) (len cap : Nat) : Calls Tryz.prog 120 #[.slice a len cap] w fun e w' => e = .returned (.func (.func 164) #[] #[.pointer (some ⟨w.heap.size, 0, none⟩)]) ∧ w' = w.alloc (.cells #[.slice a len cap] 34) := by
  go_enter Tryz.func120, Tryz.ntmps120
  go_wp2
  go_ret
  exact ⟨rfl, rfl⟩
end
end Go.Proofs.YtcjkgnafpkkjmaaGreatDoor
