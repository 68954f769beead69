/- Reference 1: Parse. -/
import Derived.Test.YtladhmbidicncaaDoorRefT
namespace Go.Proofs.YtladhmbidicncaaDoor
open Go.ChangeShapes Go.WideShapes Go.RowKit
variable {w w' w2 wr : World} {a b : Option Addr} {cap cap2 : Nat} {L M : List Nat} {B : Nat}
def allDig (l : List UInt8) : Bool := l.all isDig
/-- The error's number of a text that is read. -/
def parseE (l : List UInt8) : Nat := if l.length = 0 ∨ 700 < l.length ∨ allDig l = false then 13 else if fits (numOf l) then 0 else 11
def ParseR (w : World) (l : List UInt8) (e : Ending) (w' : World) : Prop :=
  if parseE l = 0 then ∃ a cap, e = .returned (.tuple #[.slice a (lims (numOf l)).length cap, .int .i64 0]) ∧ Nw w' w.heap.size a cap (lims (numOf l)) ∧ Fr [] w w'
  else e = .returned (.tuple #[.slice none 0 0, .int .i64 (parseE l : Int)]) ∧ Fr [] w w'
theorem parseR_text {l : List UInt8} (h : l.length = 0 ∨ 700 < l.length ∨ allDig l = false) (hF : Fr [] w w') : ParseR w l (.returned (.tuple #[.slice none 0 0, .int .i64 13])) w' := by
  have e : parseE l = 13 := by unfold parseE; rw [if_pos h]
  unfold ParseR; rw [e, if_neg (by decide)]; exact ⟨rfl, hF⟩
theorem parseR_big {l : List UInt8} (h : ¬ (l.length = 0 ∨ 700 < l.length ∨ allDig l = false)) (hb : fits (numOf l) = false) (hF : Fr [] w w') : ParseR w l (.returned (.tuple #[.slice none 0 0, .int .i64 11])) w' := by
  have e : parseE l = 11 := by unfold parseE; rw [if_neg h, hb]; rfl
  unfold ParseR; rw [e, if_neg (by decide)]; exact ⟨rfl, hF⟩
theorem parseR_ok {l : List UInt8} (h : ¬ (l.length = 0 ∨ 700 < l.length ∨ allDig l = false)) (hb : fits (numOf l) = true) (hN : Nw w' w.heap.size a cap (lims (numOf l))) (hF : Fr [] w w') : ParseR w l (.returned (.tuple #[.slice a (lims (numOf l)).length cap, .int .i64 0])) w' := by
  have e : parseE l = 0 := by unfold parseE; rw [if_neg h, hb]; rfl
  unfold ParseR; rw [e, if_pos rfl]; exact ⟨a, cap, rfl, hN, hF⟩
theorem run_str_at (l : List UInt8) (i : Nat) (hi : i < l.length) (W : World) : (Instr.index 9 (.string ⟨l.toArray⟩) (.int .i64 (i : Int))).run Tryd.prog W = .ok (.int .u8 ((l[i]?.getD 0).toNat : Int)) W := by
  have h1 : (0 : Int) ≤ (i : Int) ∧ (i : Int) < ((ByteArray.mk l.toArray).size : Int) := by simp [ByteArray.size]; omega
  rw [run_index_string W 9 ⟨l.toArray⟩ .i64 (i : Int) Tryd.underlying9, dif_pos h1]
  have : (ByteArray.mk l.toArray)[(i : Int).toNat]'(by simp [ByteArray.size]; omega) = l[i] := rfl
  rw [this, List.getElem?_eq_getElem hi]; rfl
theorem allDig_take {l : List UInt8} (h : allDig l = true) (k : Nat) (hk : k < l.length) : isDig (l[k]?.getD 0) = true := by
  unfold allDig at h
  rw [List.all_eq_true] at h
  rw [List.getElem?_eq_getElem hk]
  exact h _ (List.getElem_mem hk)
theorem allDig_of {l : List UInt8} (h : ∀ i, i < l.length → isDig (l[i]?.getD 0) = true) : allDig l = true := by
  unfold allDig
  rw [List.all_eq_true]
  intro c hc
  obtain ⟨i, hi, rfl⟩ := List.mem_iff_getElem.1 hc
  have := h i hi
  rwa [List.getElem?_eq_getElem hi] at this
theorem allDig_not {l : List UInt8} {k : Nat} (hk : k < l.length) (h : isDig (l[k]?.getD 0) = false) : allDig l = false := by
  cases hd : allDig l with
  | false => rfl
  | true => have := allDig_take hd k hk; rw [h] at this; cases this
theorem take_get_succ {l : List UInt8} {k : Nat} (hk : k < l.length) : l.take (k + 1) = l.take k ++ [l[k]?.getD 0] := by
  rw [List.take_add_one, List.getElem?_eq_getElem hk]; rfl
theorem numOf_step {l : List UInt8} {k : Nat} (hk : k < l.length) : numOf (l.take (k + 1)) = numOf (l.take k) * 10 + ((l[k]?.getD 0).toNat - 48) := by
  rw [take_get_succ hk, numOf_snoc, Nat.mul_comm]
theorem numOf_lt {l : List UInt8} (h : allDig l = true) (k : Nat) (hk : k ≤ l.length) : numOf (l.take k) < 10 ^ k := by
  induction k with
  | zero => simp [numOf]
  | succ k ih =>
    have := ih (by omega)
    have hd := allDig_take h k (by omega)
    rw [numOf_step (by omega), Nat.pow_succ]
    unfold isDig at hd
    simp only [decide_eq_true_eq] at hd
    omega
theorem numOf_lens {l : List UInt8} (h : allDig l = true) (k : Nat) (hk : k ≤ l.length) (h7 : l.length ≤ 700) : (lims (numOf (l.take k))).length ≤ 88 := by
  rw [len_lims]
  have h1 := numOf_lt h k hk
  have h2 : ∀ m, k ≤ m → (10 : Nat) ^ k ≤ 10 ^ m := fun m hm => Nat.pow_le_pow_right (by decide) hm
  exact Nat.lt_of_lt_of_le h1 (Nat.le_trans (h2 700 (by omega)) (by decide +kernel))
/-- One limb in a block. -/
theorem in_one {W : World} {g x : Nat} (h : blk W g = some (.cells #[.int .u32 (x : Int)] 38 (0, 0))) (hx : x < 4294967296) : In W (some ⟨g, 0, none⟩) 1 [x] := by
  refine ⟨.inr ⟨g, 0, rfl, lt_size h, fun i hi => ?_⟩, lim_cons.2 ⟨hx, lim_nil⟩, by simp, by unfold maxLen; omega, by simp⟩
  have : i = 0 := by simp at hi; omega
  subst this
  exact cell_of h rfl
theorem isDig_iff {c : UInt8} : isDig c = true ↔ 48 ≤ c.toNat ∧ c.toNat ≤ 57 := by unfold isDig; simp
set_option maxRecDepth 100000 in
set_option maxHeartbeats 2000000 in
theorem r1parse_c (w : World) (l : List UInt8) (hsz : l.length ≤ 1000000) : Calls Tryd.prog 38 #[.string ⟨l.toArray⟩] w (ParseR w l) := by
  have hsize : (ByteArray.mk l.toArray).size = l.length := rfl
  by_cases h1 : l.length = 0
  · have D : Hid (ParseR w l (.returned (.tuple #[.slice none 0 0, .int .i64 13])) w) := Lib.hid (parseR_text (.inl h1) (Fr.refl _ _))
    go_enter Tryd.func38, Tryd.ntmps38
    go_wp2
    go_ret2
    exact D.out
  · by_cases h2 : 700 < l.length
    · have D : Hid (ParseR w l (.returned (.tuple #[.slice none 0 0, .int .i64 13])) w) := Lib.hid (parseR_text (.inr (.inl h2)) (Fr.refl _ _))
      go_enter Tryd.func38, Tryd.ntmps38
      go_wp2
      go_ret2
      exact D.out
    · have N0 : Hid (Nw (w.alloc (.cells #[] 38)) w.heap.size (some ⟨w.heap.size, 0, none⟩) 0 []) := Lib.hid (Nw.made w 0 0 (Nat.le_refl _) (by omega) (by omega))
      have F0 : Hid (Fr [] w (w.alloc (.cells #[] 38))) := Lib.hid ((Fr.refl [] w).alloc _)
      have hl1 : 1 ≤ l.length := by omega
      go_enter Tryd.func38, Tryd.ntmps38
      go_wp2_with fail
      go_loopw [5] (fun s5 wr => ∃ k : Nat, k ≤ l.length ∧ s5 = .int .i64 (k : Int) ∧ Hid (∀ i, i < k → isDig (l[i]?.getD 0) = true) ∧ wr = w.alloc (.cells #[] 38)) (fun x _ => l.length - (intOf x).toNat)
      case atStart => exact ⟨0, by omega, rfl, Lib.hid (fun i h => by omega), rfl⟩
      case round =>
        obtain ⟨k, hk, rfl, hD, rfl⟩ := hrel
        by_cases hlt : k < l.length
        · have SK := run_str_at l k hlt
          have NX : Hid (isDig (l[k]?.getD 0) = true → ∀ i, i < k + 1 → isDig (l[i]?.getD 0) = true) := Lib.hid (fun he i hi => by
            by_cases h : i = k
            · subst h; exact he
            · exact hD.out i (by omega))
          have NE : Hid (isDig (l[k]?.getD 0) = false → ParseR w l (.returned (.tuple #[.slice none 0 0, .int .i64 13])) (w.alloc (.cells #[] 38))) := Lib.hid (fun he => parseR_text (.inr (.inr (allDig_not hlt he))) F0.out)
          generalize l[k]?.getD 0 = c at *
          obtain ⟨cn, hcn⟩ : ∃ cn, cn = c.toNat := ⟨_, rfl⟩
          rw [← hcn] at SK
          have DI : Hid (isDig c = decide (48 ≤ cn ∧ cn ≤ 57)) := Lib.hid (by rw [hcn]; rfl)
          have hcb : cn < 256 := by rw [hcn]; exact UInt8.toNat_lt c
          clear hcn hD
          by_cases c1 : cn < 48
          · have D := Lib.hid (NE.out (by rw [DI.out, decide_eq_false_iff_not]; omega))
            have c1I : (cn : Int) < 48 := by omega
            clear NX NE DI
            go_wp2
            go_ret2
            exact D.out
          · by_cases c2 : 57 < cn
            · have D := Lib.hid (NE.out (by rw [DI.out, decide_eq_false_iff_not]; omega))
              have c1I : ¬ (cn : Int) < 48 := by omega
              have c2I : (57 : Int) < (cn : Int) := by omega
              clear NX NE DI
              go_wp2
              go_ret2
              exact D.out
            · have S1 := Lib.hid (NX.out (by rw [DI.out, decide_eq_true_eq]; omega))
              have c1I : ¬ (cn : Int) < 48 := by omega
              have c2I : ¬ (57 : Int) < (cn : Int) := by omega
              clear NX NE DI
              go_wp2
              go_roundw
              case rel => exact ⟨k + 1, by omega, by go_num, S1, by first | rfl | trivial⟩
              case measure => simp [intOf]; omega
        · have hkl : k = l.length := by omega
          subst hkl
          have AD := Lib.hid (allDig_of hD.out)
          clear hD
          go_wp2_with fail
          go_loopw [4, 6] (fun s4 s6 wr => ∃ (k : Nat) (ao : Option Addr) (co : Nat), k ≤ l.length ∧ s6 = .int .i64 (k : Int) ∧ s4 = .slice ao (lims (numOf (l.take k))).length co ∧ Hid (Nw wr w.heap.size ao co (lims (numOf (l.take k)))) ∧ Hid (Fr [] w wr)) (fun _ x _ => l.length - (intOf x).toNat)
          case atStart => exact ⟨0, _, _, by omega, rfl, rfl, N0, F0⟩
          case round =>
            obtain ⟨k, ao, co, hk, rfl, rfl, hN, hF⟩ := hrel
            by_cases hlt : k < l.length
            · have SK := run_str_at l k hlt
              have hdg := isDig_iff.1 (allDig_take AD.out k hlt)
              have NS := numOf_step hlt
              have LV := numOf_lens AD.out k hk (by omega)
              obtain ⟨V, hV⟩ : ∃ V, V = numOf (l.take k) := ⟨_, rfl⟩
              rw [← hV] at hN LV NS ⊢
              obtain ⟨cn, hcn⟩ : ∃ cn, cn = (l[k]?.getD 0).toNat := ⟨_, rfl⟩
              rw [← hcn] at SK hdg NS
              obtain ⟨d, hd⟩ : ∃ d, d = cn - 48 := ⟨_, rfl⟩
              rw [← hd] at NS
              have hd9 : d < 10 := by omega
              have ew1 : IntKind.u32.wrap (cn : Int) = (cn : Int) := by rw [IntKind.wrap_u32]; omega
              have ew2 : IntKind.u32.wrap ((cn : Int) - 48) = (d : Int) := by rw [IntKind.wrap_u32]; omega
              have NS := Lib.hid NS
              have CT : Hid (∀ W g, Fr [] wr W → blk W g = some (.cells #[.int .u32 10] 38 (0, 0)) → Calls Tryd.prog 23 #[.slice ao (lims V).length co, .slice (some ⟨g, 0, none⟩) 1 1] W (Gives W (lims (V * 10)))) := Lib.hid (fun W g h1 h2 => by
                have := r1times_c W (hN.out.keep h1).in (in_one (x := 10) h2 (by decide)) (by simp; omega)
                rwa [val_lims, lims_one] at this)
              have LT : (lims (V * 10)).length ≤ 100 := by
                rw [len_lims]
                have := len_lims.1 LV
                have e : (4294967296 : Nat) ^ 100 = 4294967296 ^ 88 * 4294967296 ^ 12 := by rw [← Nat.pow_add]
                rw [e]
                exact Nat.mul_lt_mul'' this (by decide)
              have CP : Hid (∀ W g a3 c3 B, In W a3 c3 (lims (V * 10)) → blk W g = some (.cells #[.int .u32 (d : Int)] 38 (0, 0)) → B = W → Calls Tryd.prog 41 #[.slice a3 (lims (V * 10)).length c3, .slice (some ⟨g, 0, none⟩) 1 1] W (Gives B (lims (V * 10 + d)))) := Lib.hid (fun W g a3 c3 B h1 h2 hB => by
                subst hB
                have := r1plus_c B h1 (in_one (x := d) h2 (by omega)) (by omega) (by simp)
                rwa [val_lims, lims_one] at this)
              clear hcn hd hV hdg LV LT
              go_wp2_with fail
              go_region_with (first | (go_at_call 23; refine Calls.mono (CT.out _ _ ?_ ?_) ?_; (· repeat (first | exact Fr.refl _ _ | apply Fr.drew | apply Fr.alloc)); (· simp [blk_alloc, blk_drew]); rintro e w3 ⟨a3, c3, rfl, h3, f3⟩) | (go_at_call 41; refine Calls.mono (CP.out _ _ _ _ _ ?_ ?_ rfl) ?_; (· exact h3.in.keep (by repeat (first | exact Fr.refl _ _ | apply Fr.drew | apply Fr.alloc))); (· first | (simp [blk_alloc]; done) | (refine f3.at ?_ (by simp); simp [blk_alloc, blk_drew])); rintro e w4 ⟨a4, c4, rfl, h4, f4⟩))
              all_goals
                have Q := Lib.hid (h4.base (B' := w.heap.size) (Nat.le_trans hF.out.size (Fr.size (S := []) (by repeat (first | exact Fr.refl _ _ | apply Fr.drew | apply Fr.alloc | (refine Fr.same ?_ f3))))))
                have G : Hid (Fr [] w w4) := Lib.hid (hF.out.same (by refine Fr.same ?_ f4; repeat (first | exact Fr.refl _ _ | apply Fr.drew | apply Fr.alloc | (refine Fr.same ?_ f3))))
                clear h4 f4 h3 f3 CT CP SK
                go_wp2
                go_roundw
                case rel => exact ⟨k + 1, a4, c4, by omega, by go_num, by rw [NS.out], by rw [NS.out]; exact Q, G⟩
                case measure => simp [intOf]; omega
            · have hkl : k = l.length := by omega
              subst hkl
              rw [List.take_length] at hN ⊢
              have CB := Lib.hid (r1big_c wr hN.out.in)
              rw [val_lims] at CB
              have hok : ¬ (l.length = 0 ∨ 700 < l.length ∨ allDig l = false) := by
                rintro (h | h | h)
                · exact h1 h
                · exact h2 h
                · rw [AD.out] at h; cases h
              cases hf : fits (numOf l) with
              | true =>
                have D : Hid (∀ W, Fr [] wr W → ParseR w l (.returned (.tuple #[.slice ao (lims (numOf l)).length co, .int .i64 0])) W) := Lib.hid (fun W hW => parseR_ok hok hf (hN.out.keep hW) (hF.out.same hW))
                rw [hf] at CB
                clear hf hN hF hok
                go_wp2_with fail
                refine CB.out.mono ?_
                rintro e w3 ⟨rfl, f3⟩
                have D := Lib.hid (D.out w3 f3)
                clear f3 CB
                go_wp2
                go_ret2
                exact D.out
              | false =>
                have D : Hid (∀ W, Fr [] wr W → ParseR w l (.returned (.tuple #[.slice none 0 0, .int .i64 11])) W) := Lib.hid (fun W hW => parseR_big hok hf (hF.out.same hW))
                rw [hf] at CB
                clear hf hN hF hok
                go_wp2_with fail
                refine CB.out.mono ?_
                rintro e w3 ⟨rfl, f3⟩
                have D := Lib.hid (D.out w3 f3)
                clear f3 CB
                go_wp2
                go_ret2
                exact D.out
end Go.Proofs.YtladhmbidicncaaDoor
