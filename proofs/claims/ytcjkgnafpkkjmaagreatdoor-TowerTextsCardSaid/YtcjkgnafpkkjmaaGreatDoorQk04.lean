/- The texts and numbers of numbers: a part of the walk. No condition. -/
import Derived.Test.YtcjkgnafpkkjmaaGreatDoorQk03
set_option linter.all false
namespace Go.Proofs.YtcjkgnafpkkjmaaGreatDoor
section
open Go.ChangeShapes Go.WideShapes Go.RowKit
variable {w w' w2 wr : World} {a b : Option Addr} {cap cap2 : Nat} {L M : List Nat} {B : Nat}
theorem wraps_u64 (n : Int) (h₀ : 0 ≤ n) (h₁ : n < 2 ^ 64) : IntKind.u64.wrap n = n := by rw [IntKind.wrap_u64]; omega
theorem or32 (R x : Nat) (hR : R < 4294967296) (hx : x < 4294967296) : bits BinOp.or IntKind.u64 ((R : Int) * 4294967296) (x : Int) = ((R * 4294967296 + x : Nat) : Int) := by
  rw [bits_join .u64 64 (by decide) wraps_u64 32 _ _ (by omega) (by omega) (by omega) (by omega) (by omega) (by omega)]
  omega
structure ShortInv (L : List Nat) (d : Nat) (O : List Nat) (k R : Nat) : Prop where
  len : O.length = L.length
  v : val (L.drop k) = val (O.drop k) * d + R
  r : R < d
theorem ShortInv.start (L : List Nat) (d : Nat) (hd : 0 < d) : ShortInv L d (nils L.length) L.length 0 :=
  ⟨len_nils _, by rw [List.drop_of_length_le (Nat.le_refl _), List.drop_of_length_le (by rw [len_nils]; exact Nat.le_refl _)]; simp [val], hd⟩
theorem ShortInv.step {d k R : Nat} {O : List Nat} (h : ShortInv L d O (k + 1) R) (hk : k < L.length) :
    ShortInv L d (O.set k ((R * 4294967296 + L[k]?.getD 0) / d)) k ((R * 4294967296 + L[k]?.getD 0) % d) := by
  refine ⟨by simp [h.len], ?_, Nat.mod_lt _ (by have := h.r; omega)⟩
  rw [val_drop L k, val_drop (O.set k _) k, List.getElem?_set_self (by rw [h.len]; exact hk), drop_set_succ]
  simp only [Option.getD_some]
  exact short_step h.v rfl
theorem ShortInv.done {d R : Nat} {O : List Nat} (h : ShortInv L d O 0 R) : val L / d = val O ∧ val L % d = R := by
  have := h.v
  simp only [List.drop_zero] at this
  exact div_of this h.r
def ShortR (w : World) (n d len : Nat) (e : Ending) (w' : World) : Prop := ∃ a cap O, e = .returned (.tuple #[.slice a O.length cap, .int .u32 ((n % d : Nat) : Int)]) ∧ O.length = len ∧ val O = n / d ∧ Nw w' w.heap.size a cap O ∧ Fr [] w w'
set_option maxHeartbeats 1000000 in
set_option maxRecDepth 100000 in
theorem lshort_c (w : World) (ha : In w a cap L) (d : Nat) (hd : 0 < d) (hd2 : d < 4294967296) : Calls Tryz.prog 95 #[.slice a L.length cap, .int .u32 (d : Int)] w (ShortR w (val L) d L.length) := by
  have hsm := ha.sm
  have HA := Lib.hid ha
  clear ha
  have MK : ∀ W : World, (Instr.makeSlice 34 (.int .i64 (L.length : Int)) (.int .i64 (L.length : Int))).run Tryz.prog W = .ok (.slice (some ⟨W.heap.size, 0, none⟩) L.length L.length) (W.alloc (.cells (lc (nils L.length)).toArray 84)) := fun W => run_u32s W L.length L.length (Nat.le_refl _) (by omega)
  have hdz : ((d : Int) == 0) = false := by simp; omega
  go_enter Tryz.func95, Tryz.ntmps95
  go_wp2_with fail
  have N0 : Hid (Nw (w.alloc (.cells (lc (nils L.length)).toArray 84)) w.heap.size (some ⟨w.heap.size, 0, none⟩) L.length (nils L.length)) := Lib.hid (Nw.made w _ _ (Nat.le_refl _) (Nat.le_refl _) (by omega))
  have F0 : Hid (Fr [] w (w.alloc (.cells (lc (nils L.length)).toArray 84))) := Lib.hid ((Fr.refl [] _).alloc _)
  go_loopw [8, 7, 9] (fun s8 s7 _ wr => ∃ (O : List Nat) (k R : Nat), k ≤ L.length ∧ s8 = .int .i64 ((k : Int) - 1) ∧ s7 = .int .u64 (R : Int) ∧ ShortInv L d O k R ∧ Hid (Nw wr w.heap.size (some ⟨w.heap.size, 0, none⟩) L.length O) ∧ Hid (Fr [] w wr)) (fun x _ _ _ => (intOf x + 1).toNat)
  case atStart => exact ⟨_, L.length, 0, Nat.le_refl _, rfl, rfl, ShortInv.start L d hd, N0, F0⟩
  case round =>
    obtain ⟨O, k, R, hk, rfl, rfl, hV, hN, hF⟩ := hrel
    have HLEN := Lib.hid hV.len
    cases k with
    | zero =>
      rw [show (((0 : Nat) : Int) - 1) = -1 from rfl]
      have HD := Lib.hid hV.done
      have hr := hV.r
      have D : Hid (ShortR w (val L) d L.length (.returned (.tuple #[.slice (some ⟨w.heap.size, 0, none⟩) L.length L.length, .int .u32 (R : Int)])) wr) := Lib.hid ⟨_, _, O, by rw [HD.out.2, HLEN.out], HLEN.out, HD.out.1.symm, hN.out, hF.out⟩
      clear hV HD
      go_wp2
      go_ret2
      exact D.out
    | succ k =>
      rw [show (((k + 1 : Nat) : Int) - 1) = (k : Int) from by omega]
      have hlt : k < L.length := by omega
      obtain ⟨xb, xo, rfl, xl, xc⟩ := (HA.out.keep hF.out).at hlt
      have bx := lim_get HA.out.lim k
      have hr := hV.r
      have VS := Lib.hid (hV.step hlt)
      obtain ⟨x, hx⟩ : ∃ x, x = L[k]?.getD 0 := ⟨_, rfl⟩
      rw [← hx] at xc bx VS
      have E := or32 R x (by omega) bx
      have hq := short_lt hr bx
      have hT : R * 4294967296 + x ≤ 18446744073709551615 := by omega
      obtain ⟨T, hTe⟩ : ∃ T, T = R * 4294967296 + x := ⟨_, rfl⟩
      rw [← hTe] at VS E hq hT
      have q1 : (T : Int) / (d : Int) = ((T / d : Nat) : Int) := by simp
      have q2 : (T : Int) % (d : Int) = ((T % d : Nat) : Int) := by simp
      have hp : k < O.length := by rw [HLEN.out]; omega
      have zc := hN.out.cell hp
      have fz := hN.out.free k
      generalize O[k]?.getD 0 = z at *
      generalize T / d = q at *
      generalize T % d = r at *
      have V1 := VS.out
      have NS := Lib.hid (hN.out.set k q hq)
      have FS : Hid (Fr [] w (wr.setCell ⟨w.heap.size, k, none⟩ (.int .u32 (q : Int)))) := Lib.hid (hF.out.setCell (.inr (Nat.le_refl _)) _)
      have zl := hN.out.lt.1
      have kk1 : (k : Int) < (L.length : Int) := by omega
      clear hx hTe VS hV hN hF hp
      go_wp2
      go_roundw
      case rel => exact ⟨_, k, r, by omega, rfl, congrArg _ q2, V1, NS, FS⟩
      case measure => simp [intOf]
theorem bits_or_comm (k : IntKind) (a b : Int) : bits .or k a b = bits .or k b a := by
  cases k <;> simp only [bits, BitVec.or_comm]
structure ShiftInv (L : List Nat) (p : Nat) (O : List Nat) (k c : Nat) : Prop where
  len : O.length = L.length + 1
  v : val (O.take k) + 4294967296 ^ k * c = val (L.take k) * p
  c1 : c < p
theorem ShiftInv.start (L : List Nat) (p : Nat) (hp : 0 < p) : ShiftInv L p (nils (L.length + 1)) 0 0 := ⟨len_nils _, by simp [val], hp⟩
theorem ShiftInv.step {p k c : Nat} {O : List Nat} (h : ShiftInv L p O k c) (hk : k < L.length) (hL : Lim L) :
    ShiftInv L p (O.set k ((L[k]?.getD 0 * p + c) % 4294967296)) (k + 1) ((L[k]?.getD 0 * p + c) / 4294967296) := by
  have hx := lim_get hL k
  have hc := h.c1
  refine ⟨by simp [h.len], ?_, ?_⟩
  · rw [take_set_succ _ _ _ (by rw [h.len]; omega), val_snoc, val_take_succ L k, Nat.pow_succ]
    have e : (O.take k).length = k := by simp [h.len]; omega
    rw [e, Nat.add_mul, ← h.v]
    have e2 := Nat.mod_add_div (L[k]?.getD 0 * p + c) 4294967296
    have e3 : 4294967296 ^ k * ((L[k]?.getD 0 * p + c) % 4294967296) + 4294967296 ^ k * 4294967296 * ((L[k]?.getD 0 * p + c) / 4294967296) = 4294967296 ^ k * (L[k]?.getD 0 * p + c) := by
      rw [Nat.mul_assoc, ← Nat.mul_add, e2]
    rw [Nat.mul_add] at e3
    rw [Nat.mul_assoc (4294967296 ^ k) (L[k]?.getD 0) p]
    omega
  · rw [Nat.div_lt_iff_lt_mul (by decide)]
    have : (L[k]?.getD 0 + 1) * p ≤ 4294967296 * p := Nat.mul_le_mul_right _ (by omega)
    rw [Nat.add_mul] at this
    rw [Nat.mul_comm p]
    omega
theorem ShiftInv.done {p c : Nat} {O : List Nat} (h : ShiftInv L p O L.length c) : val (O.set L.length c) = val L * p := by
  have h1 := take_set_succ O L.length c (by rw [h.len]; omega)
  rw [List.take_of_length_le (by simp [h.len])] at h1
  rw [h1, val_snoc]
  have e : (O.take L.length).length = L.length := by simp [h.len]
  rw [e, h.v, List.take_of_length_le (Nat.le_refl _)]
def ShiftR (w : World) (n p len : Nat) (e : Ending) (w' : World) : Prop := ∃ a cap O, e = .returned (.slice a O.length cap) ∧ O.length = len + 1 ∧ val O = n * p ∧ Nw w' w.heap.size a cap O ∧ Fr [] w w'
set_option maxHeartbeats 1000000 in
set_option maxRecDepth 100000 in
theorem lshift_c (w : World) (ha : In w a cap L) (hl99 : L.length ≤ 99999) (s : Nat) (hs : s < 32) : Calls Tryz.prog 128 #[.slice a L.length cap, .int .i64 (s : Int)] w (ShiftR w (val L) (2 ^ s) L.length) := by
  have hsm := ha.sm
  have HA := Lib.hid ha
  clear ha
  have MK : ∀ W : World, (Instr.makeSlice 34 (.int .i64 ((L.length : Int) + 1)) (.int .i64 ((L.length : Int) + 1))).run Tryz.prog W = .ok (.slice (some ⟨W.heap.size, 0, none⟩) (L.length + 1) (L.length + 1)) (W.alloc (.cells (lc (nils (L.length + 1))).toArray 84)) := fun W => by
    have := run_u32s W (L.length + 1) (L.length + 1) (Nat.le_refl _) (by omega)
    simpa using this
  have hp0 : 0 < 2 ^ s := Nat.pow_pos (by decide)
  have hp1 : 2 ^ s ≤ 2147483648 := by
    have := Nat.pow_le_pow_right (n := 2) (by decide) (show s ≤ 31 by omega)
    simpa using this
  obtain ⟨p, hp⟩ : ∃ p, p = 2 ^ s := ⟨_, rfl⟩
  have HP := Lib.hid hp
  rw [← hp] at hp0 hp1 ⊢
  clear hp
  go_enter Tryz.func128, Tryz.ntmps128
  go_wp2_with fail
  have N0 : Hid (Nw (w.alloc (.cells (lc (nils (L.length + 1))).toArray 84)) w.heap.size (some ⟨w.heap.size, 0, none⟩) (L.length + 1) (nils (L.length + 1))) := Lib.hid (Nw.made w _ _ (Nat.le_refl _) (Nat.le_refl _) (by omega))
  have F0 : Hid (Fr [] w (w.alloc (.cells (lc (nils (L.length + 1))).toArray 84))) := Lib.hid ((Fr.refl [] _).alloc _)
  go_loopw [16, 6, 7, 8, 9] (fun s16 s6 _ _ _ wr => ∃ (O : List Nat) (k c : Nat), k ≤ L.length ∧ s16 = .int .i64 (k : Int) ∧ s6 = .int .u64 (c : Int) ∧ ShiftInv L p O k c ∧ Hid (Nw wr w.heap.size (some ⟨w.heap.size, 0, none⟩) (L.length + 1) O) ∧ Hid (Fr [] w wr)) (fun x _ _ _ _ _ => L.length - (intOf x).toNat)
  case atStart => exact ⟨_, 0, 0, by omega, rfl, rfl, ShiftInv.start L p hp0, N0, F0⟩
  case round =>
    obtain ⟨O, k, c, hk, rfl, rfl, hV, hN, hF⟩ := hrel
    have HLEN := Lib.hid hV.len
    have hc1 := hV.c1
    by_cases hlt : k < L.length
    · obtain ⟨xb, xo, rfl, xl, xc⟩ := (HA.out.keep hF.out).at hlt
      have bx := lim_get HA.out.lim k
      have VS := Lib.hid (hV.step hlt HA.out.lim)
      obtain ⟨x, hx⟩ : ∃ x, x = L[k]?.getD 0 := ⟨_, rfl⟩
      rw [← hx] at xc bx VS
      obtain ⟨T, hTe⟩ : ∃ T, T = x * p + c := ⟨_, rfl⟩
      have hT : T ≤ 9223372036854775807 := by
        rw [hTe]
        have : x * p ≤ 4294967295 * 2147483648 := Nat.mul_le_mul (by omega) hp1
        omega
      have EI : IntKind.u64.wrap ((x : Int) * 2 ^ s) = ((x * p : Nat) : Int) := by
        have e : (x : Int) * 2 ^ s = ((x * p : Nat) : Int) := by rw [HP.out]; simp
        rw [e]
        exact wraps_u64 _ (by omega) (by omega)
      have E : bits BinOp.or IntKind.u64 (IntKind.u64.wrap ((x : Int) * 2 ^ s)) (c : Int) = (T : Int) := by
        rw [EI, bits_join .u64 64 (by decide) wraps_u64 s _ _ (by omega) (by rw [HP.out]; simp) (by omega) (by omega) (by rw [HP.out] at hc1; exact_mod_cast hc1) (by omega)]
        omega
      have E1 : bits BinOp.or IntKind.u64 (IntKind.u64.wrap (IntKind.u64.wrap (x : Int) * 2 ^ s)) (c : Int) = (T : Int) := by
        rw [wraps_u64 (x : Int) (by omega) (by omega)]; exact E
      rw [← hTe] at VS
      have hq : T % 4294967296 < 4294967296 := Nat.mod_lt _ (by decide)
      have q1 : (T : Int) % 4294967296 = ((T % 4294967296 : Nat) : Int) := by omega
      have q2 : (T : Int) / 4294967296 = ((T / 4294967296 : Nat) : Int) := by omega
      have hp : k < O.length := by rw [HLEN.out]; omega
      have zc := hN.out.cell hp
      have fz := hN.out.free k
      generalize O[k]?.getD 0 = z at *
      generalize T % 4294967296 = t at *
      generalize T / 4294967296 = c2 at *
      have V1 := VS.out
      have NS := Lib.hid (hN.out.set k t hq)
      have FS : Hid (Fr [] w (wr.setCell ⟨w.heap.size, k, none⟩ (.int .u32 (t : Int)))) := Lib.hid (hF.out.setCell (.inr (Nat.le_refl _)) _)
      have zl := hN.out.lt.1
      have kk1 : (k : Int) < (L.length : Int) := by omega
      clear hx hTe VS hV hN hF hp EI
      go_wp2
      go_roundw
      case rel => exact ⟨_, k + 1, c2, by omega, by go_num, rfl, V1, NS, FS⟩
      case measure => simp [intOf]; omega
    · have hkl : k = L.length := by omega
      subst hkl
      have HV := Lib.hid hV.done
      have hp : L.length < O.length := by rw [HLEN.out]; omega
      have zc := hN.out.cell hp
      have fz := hN.out.free L.length
      generalize O[L.length]?.getD 0 = z at *
      have hcb : c < 4294967296 := by omega
      have NS := Lib.hid (hN.out.set L.length c hcb)
      have FS : Hid (Fr [] w (wr.setCell ⟨w.heap.size, L.length, none⟩ (.int .u32 (c : Int)))) := Lib.hid (hF.out.setCell (.inr (Nat.le_refl _)) _)
      have zl := hN.out.lt.1
      have D : Hid (ShiftR w (val L) p L.length (.returned (.slice (some ⟨w.heap.size, 0, none⟩) (L.length + 1) (L.length + 1))) (wr.setCell ⟨w.heap.size, L.length, none⟩ (.int .u32 (c : Int)))) := Lib.hid ⟨_, _, O.set L.length c, by rw [List.length_set, HLEN.out], by rw [List.length_set, HLEN.out], HV.out, NS.out, FS.out⟩
      clear hV hN hF hp HV
      go_wp2
      go_ret
      exact D.out
structure BackInv (L : List Nat) (p : Nat) (C : List Nat) (k : Nat) : Prop where
  len : C.length = L.length
  t : C.take k = (shrL p L).take k
  dr : C.drop k = L.drop k
theorem BackInv.start (L : List Nat) (p : Nat) : BackInv L p L 0 := ⟨rfl, by simp, rfl⟩
theorem BackInv.step {p k : Nat} {C : List Nat} (h : BackInv L p C k) (hk : k < L.length) : BackInv L p (C.set k (((L[k]?.getD 0 + 4294967296 * L[k + 1]?.getD 0) / p) % 4294967296)) (k + 1) := by
  refine ⟨by simp [h.len], ?_, ?_⟩
  · rw [take_set_succ _ _ _ (by rw [h.len]; exact hk), h.t, ← shrL_get p L k hk, List.take_add_one, List.getElem?_eq_getElem (by rw [len_shrL]; exact hk)]
    simp
  · rw [drop_set_succ, ← List.drop_drop, h.dr, List.drop_drop]
theorem BackInv.done {p : Nat} {C : List Nat} (h : BackInv L p C L.length) : C = shrL p L := by
  have := h.t
  rwa [List.take_of_length_le (by rw [h.len]; exact Nat.le_refl _), List.take_of_length_le (by rw [len_shrL]; exact Nat.le_refl _)] at this
theorem BackInv.get {p k : Nat} {C : List Nat} (h : BackInv L p C k) (i : Nat) (hi : k ≤ i) : C[i]? = L[i]? := by
  have e1 : (C.drop k)[i - k]? = (L.drop k)[i - k]? := by rw [h.dr]
  simpa [List.getElem?_drop, show k + (i - k) = i by omega] using e1
theorem or32' (R x : Nat) (hR : R < 4294967296) (hx : x < 4294967296) : bits BinOp.or IntKind.u64 (x : Int) ((R : Int) * 4294967296) = ((x + 4294967296 * R : Nat) : Int) := by
  rw [bits_or_comm, or32 R x hR hx]; omega
def BackR (w : World) (g cap : Nat) (L : List Nat) (p : Nat) (e : Ending) (w' : World) : Prop := e = .returned (.slice (some ⟨g, 0, none⟩) L.length cap) ∧ Nw w' g (some ⟨g, 0, none⟩) cap (shrL p L) ∧ Fr [g] w w'
set_option maxHeartbeats 1000000 in
set_option maxRecDepth 100000 in
theorem lback_c (w : World) (g : Nat) (ha : Nw w g (some ⟨g, 0, none⟩) cap L) (s : Nat) (hs : s < 32) : Calls Tryz.prog 132 #[.slice (some ⟨g, 0, none⟩) L.length cap, .int .i64 (s : Int)] w (BackR w g cap L (2 ^ s)) := by
  have hsm := ha.sm
  have HA := Lib.hid ha
  clear ha
  have hp0 : 0 < 2 ^ s := Nat.pow_pos (by decide)
  obtain ⟨p, hp⟩ : ∃ p, p = 2 ^ s := ⟨_, rfl⟩
  have HP := Lib.hid hp
  rw [← hp] at hp0 ⊢
  clear hp
  go_enter Tryz.func132, Tryz.ntmps132
  go_wp2_with fail
  go_loopw [9, 5, 6] (fun s9 _ _ wr => ∃ (C : List Nat) (k : Nat), k ≤ L.length ∧ s9 = .int .i64 (k : Int) ∧ BackInv L p C k ∧ Hid (Nw wr g (some ⟨g, 0, none⟩) cap C) ∧ Hid (Fr [g] w wr)) (fun x _ _ _ => L.length - (intOf x).toNat)
  case atStart => exact ⟨L, 0, by omega, rfl, BackInv.start L p, HA, Lib.hid (Fr.refl _ _)⟩
  case round =>
    obtain ⟨C, k, hk, rfl, hV, hN, hF⟩ := hrel
    have HLEN := Lib.hid hV.len
    by_cases hlt : k < L.length
    · have hp : k < C.length := by rw [HLEN.out]; exact hlt
      have zc := hN.out.cell hp
      have fz := hN.out.free k
      have zl := hN.out.lt.1
      have bx := lim_get HA.out.lim k
      have by_ := lim_get HA.out.lim (k + 1)
      have e1 := hV.get k (Nat.le_refl _)
      have e2 := hV.get (k + 1) (by omega)
      rw [e1] at zc
      have CY : Hid (∀ W (hW : Fr [] wr W), Calls Tryz.prog 98 #[.slice (some ⟨g, 0, none⟩) L.length cap, .int .i64 ((k : Int) + 1)] W fun e w' => e = .returned (.int .u32 ((L[k + 1]?.getD 0 : Nat) : Int)) ∧ W = w') := Lib.hid (fun W hW => by
        have := lat_c W (hN.out.keep hW).in (k + 1)
        rw [HLEN.out, e2] at this
        exact this)
      have VS := Lib.hid (hV.step hlt)
      obtain ⟨x, hx⟩ : ∃ x, x = L[k]?.getD 0 := ⟨_, rfl⟩
      obtain ⟨y, hy⟩ : ∃ y, y = L[k + 1]?.getD 0 := ⟨_, rfl⟩
      rw [← hx] at zc bx VS
      rw [← hy] at CY by_ VS
      have E := or32' y x by_ bx
      obtain ⟨T, hTe⟩ : ∃ T, T = x + 4294967296 * y := ⟨_, rfl⟩
      have hT : T ≤ 18446744073709551615 := by omega
      rw [← hTe] at VS E
      have f0 : Fr [] wr wr.drew := (Fr.refl _ _).drew
      have kk1 : (k : Int) < (L.length : Int) := by omega
      have kk0 : (0 : Int) ≤ (k : Int) := by omega
      have ew : IntKind.i64.wrap ((k : Int) + 1) = (k : Int) + 1 := IntWalk.i64_in _ (by omega)
      have hq : T / p % 4294967296 < 4294967296 := Nat.mod_lt _ (by decide)
      generalize hQ : T / p % 4294967296 = q at *
      have HQ := Lib.hid hQ
      have NS := Lib.hid (fun W (hW : Fr [] wr W) => (hN.out.keep hW).set k q hq)
      have FS : Hid (∀ W, Fr [] wr W → Fr [g] w (W.setCell ⟨g, k, none⟩ (.int .u32 (q : Int)))) := Lib.hid (fun W hW => (hF.out.trans hW (by simp)).setCell (by simp) _)
      have q1 : (T : Int) / 2 ^ s % 4294967296 = (q : Int) := by rw [← HQ.out, HP.out]; simp
      have V1 := VS.out
      clear hx hy hTe VS hV hN hF hp e1 e2 hQ
      go_wp2_with fail
      go_quiet ((go_at_call 98; exact Calls.quiet_of_same ((CY.out _ (by first | exact (Fr.refl _ _).drewN _ | exact (Fr.refl _ _).drew | exact Fr.refl _ _)).mono fun e w' h => ⟨h.1, h.2.symm⟩)))
      go_wp2
      go_roundw
      case rel => exact ⟨_, k + 1, by omega, by go_num, V1, Lib.hid (NS.out _ ((Fr.refl _ _).drewN _)), Lib.hid (FS.out _ ((Fr.refl _ _).drewN _))⟩
      case measure => simp [intOf]; omega
    · have hkl : k = L.length := by omega
      subst hkl
      have HV := Lib.hid hV.done
      have D : Hid (BackR w g cap L p (.returned (.slice (some ⟨g, 0, none⟩) L.length cap)) wr) := Lib.hid ⟨rfl, by rw [← HV.out]; exact hN.out, hF.out⟩
      clear hV hN hF HV
      go_wp2
      go_ret
      exact D.out
structure GuessInv (T u2 v1 v2 q r : Nat) : Prop where
  e : q * v1 + r = T
  mx : ∀ k, k < 4294967296 → k * (v1 * 4294967296 + v2) ≤ T * 4294967296 + u2 → k ≤ q
  r1 : r < 4294967296
structure GuessOk (T u2 v1 v2 q : Nat) : Prop where
  lt : q < 4294967296
  le : q * (v1 * 4294967296 + v2) ≤ T * 4294967296 + u2
  mx : ∀ k, k < 4294967296 → k * (v1 * 4294967296 + v2) ≤ T * 4294967296 + u2 → k ≤ q
theorem guess_start {T u2 v1 v2 k : Nat} (hu2 : u2 < 4294967296) (hle : k * (v1 * 4294967296 + v2) ≤ T * 4294967296 + u2) : k * v1 ≤ T := by
  have e : k * (v1 * 4294967296 + v2) = k * v1 * 4294967296 + k * v2 := by rw [Nat.mul_add, Nat.mul_assoc]
  rw [e] at hle
  generalize k * v1 = A at *
  generalize k * v2 = C at *
  omega
theorem GuessInv.start {T u2 v1 v2 : Nat} (h1 : 0 < v1) (h2 : v1 < 4294967296) (hu2 : u2 < 4294967296) : GuessInv T u2 v1 v2 (T / v1) (T % v1) :=
  ⟨by rw [Nat.mul_comm]; exact Nat.div_add_mod _ _, fun k _ hle => (Nat.le_div_iff_mul_le h1).2 (guess_start hu2 hle), Nat.lt_trans (Nat.mod_lt _ h1) h2⟩
theorem guess_key {T q r v1 v2 : Nat} (e : q * v1 + r = T) : q * (v1 * 4294967296 + v2) + r * 4294967296 = T * 4294967296 + q * v2 := by
  subst e
  rw [Nat.mul_add, Nat.add_mul, ← Nat.mul_assoc]
  omega
theorem GuessInv.down {T u2 v1 v2 q r : Nat} (h : GuessInv T u2 v1 v2 q r) (ht : 4294967296 ≤ q ∨ r * 4294967296 + u2 < q * v2) : 0 < q ∧ (q - 1) * v1 + (r + v1) = T ∧
    (∀ k, k < 4294967296 → k * (v1 * 4294967296 + v2) ≤ T * 4294967296 + u2 → k ≤ q - 1) := by
  have hq : 0 < q := by
    rcases Nat.eq_zero_or_pos q with h0 | h0
    · subst h0; simp at ht
    · exact h0
  refine ⟨hq, ?_, fun k hk hle => ?_⟩
  · have : (q - 1) * v1 + v1 = q * v1 := by rw [← Nat.succ_mul]; congr 1; omega
    have := h.e
    omega
  · have h1 := h.mx k hk hle
    rcases Nat.lt_or_ge k q with h2 | h2
    · omega
    · have : k = q := by omega
      subst this
      have := guess_key (v2 := v2) h.e
      omega
theorem GuessInv.exit {T u2 v1 v2 q r : Nat} (h : GuessInv T u2 v1 v2 q r) (h1 : q < 4294967296) (h2 : q * v2 ≤ r * 4294967296 + u2) : GuessOk T u2 v1 v2 q := by
  refine ⟨h1, ?_, h.mx⟩
  have := guess_key (v2 := v2) h.e
  omega
theorem guess_break {T u2 v1 v2 q r : Nat} (e : q * v1 + r = T) (mx : ∀ k, k < 4294967296 → k * (v1 * 4294967296 + v2) ≤ T * 4294967296 + u2 → k ≤ q)
    (hr : 4294967296 ≤ r) (h0 : T < v1 * 4294967296 + 4294967296) (h2 : v2 < 4294967296) : GuessOk T u2 v1 v2 q := by
  have hq : q < 4294967296 := by
    have h4 : q * v1 < 4294967296 * v1 := by omega
    exact Nat.lt_of_mul_lt_mul_right h4
  refine ⟨hq, ?_, mx⟩
  have h5 := guess_key (v2 := v2) e
  have h6 : q * v2 ≤ 4294967296 * 4294967296 := Nat.mul_le_mul (by omega) (by omega)
  have h7 : 4294967296 * 4294967296 ≤ r * 4294967296 := Nat.mul_le_mul_right _ hr
  omega
def GuessR (w : World) (T u2 v1 v2 : Nat) (e : Ending) (w' : World) : Prop := ∃ q : Nat, e = .returned (.int .u64 (q : Int)) ∧ GuessOk T u2 v1 v2 q ∧ Fr [] w w'
theorem i64w (x : Int) (y : Nat) (h : x = y) (hb : y ≤ 1000000) : IntKind.i64.wrap x = (y : Int) := by rw [h]; exact IntWalk.i64_in _ (by omega)
set_option maxHeartbeats 2000000 in
set_option maxRecDepth 100000 in
theorem lguess_w (w : World) (g gv lu cu cv N j i0 i1 i2 m1 m2 u0 u1 u2 v1 v2 : Nat)
    (c0 : w.cell? ⟨g, i0, none⟩ = some (.int .u32 (u0 : Int))) (c1 : w.cell? ⟨g, i1, none⟩ = some (.int .u32 (u1 : Int))) (c2 : w.cell? ⟨g, i2, none⟩ = some (.int .u32 (u2 : Int)))
    (d1 : w.cell? ⟨gv, m1, none⟩ = some (.int .u32 (v1 : Int))) (d2 : w.cell? ⟨gv, m2, none⟩ = some (.int .u32 (v2 : Int)))
    (e0 : i0 = j + N) (e1 : i1 + 1 = i0) (e2 : i2 + 2 = i0) (f1 : m1 + 1 = N) (f2 : m2 + 2 = N) (hlu : i0 < lu) (hlu2 : lu ≤ 100000) (hN : N ≤ 100000)
    (b0 : u0 < 4294967296) (b1 : u1 < 4294967296) (b2 : u2 < 4294967296) (b3 : v1 < 4294967296) (b4 : v2 < 4294967296) (hv1 : 0 < v1) (h01 : u0 ≤ v1) (gl : g < w.heap.size) (gvl : gv < w.heap.size) :
    Calls Tryz.prog 129 #[.slice (some ⟨g, 0, none⟩) lu cu, .slice (some ⟨gv, 0, none⟩) N cv, .int .i64 (j : Int)] w (GuessR w (u0 * 4294967296 + u1) u2 v1 v2) := by
  have s1 : IntKind.i64.wrap ((j : Int) + (N : Int)) = (i0 : Int) := i64w _ _ (by omega) (by omega)
  have s2 : IntKind.i64.wrap ((i0 : Int) - 1) = (i1 : Int) := i64w _ _ (by omega) (by omega)
  have s3 : IntKind.i64.wrap ((i0 : Int) - 2) = (i2 : Int) := i64w _ _ (by omega) (by omega)
  have s4 : IntKind.i64.wrap ((N : Int) - 1) = (m1 : Int) := i64w _ _ (by omega) (by omega)
  have s5 : IntKind.i64.wrap ((N : Int) - 2) = (m2 : Int) := i64w _ _ (by omega) (by omega)
  have E1 := or32 u0 u1 b0 b1
  have ld0 : (0 : Int) ≤ (i0 : Int) := by omega
  have ld1 : (0 : Int) ≤ (i1 : Int) := by omega
  have ld2 : (0 : Int) ≤ (i2 : Int) := by omega
  have ld3 : (0 : Int) ≤ (m1 : Int) := by omega
  have ld4 : (0 : Int) ≤ (m2 : Int) := by omega
  have lu0 : (i0 : Int) < (lu : Int) := by omega
  have lu1 : (i1 : Int) < (lu : Int) := by omega
  have lu2 : (i2 : Int) < (lu : Int) := by omega
  have lv1 : (m1 : Int) < (N : Int) := by omega
  have lv2 : (m2 : Int) < (N : Int) := by omega
  have hT : u0 * 4294967296 + u1 ≤ 18446744073709551615 := by omega
  have hT2 : u0 * 4294967296 + u1 < v1 * 4294967296 + 4294967296 := by omega
  obtain ⟨T, hTe⟩ : ∃ T, T = u0 * 4294967296 + u1 := ⟨_, rfl⟩
  rw [← hTe] at E1 hT hT2 ⊢
  have G0 : GuessInv T u2 v1 v2 (T / v1) (T % v1) := GuessInv.start hv1 b3 b2
  have HT2 := Lib.hid hT2
  have KK : ∀ q r, GuessInv T u2 v1 v2 q r → q ≤ T := fun q r h => by
    have := h.e
    have h2 : q * 1 ≤ q * v1 := Nat.mul_le_mul_left _ hv1
    omega
  have KK' := Lib.hid KK
  clear KK
  have q1 : (T : Int) / (v1 : Int) = ((T / v1 : Nat) : Int) := by simp
  have q2 : (T : Int) % (v1 : Int) = ((T % v1 : Nat) : Int) := by simp
  have w0 : IntKind.u64.wrap ((T / v1 : Nat) : Int) = ((T / v1 : Nat) : Int) := by
    have h := Nat.div_le_self T v1
    generalize T / v1 = z at h ⊢
    exact wraps_u64 _ (by omega) (by omega)
  generalize T / v1 = q0 at *
  generalize T % v1 = r0 at *
  have hz : ((v1 : Int) == 0) = false := by simp; omega
  clear e0 e1 e2 f1 f2 hTe hT2
  go_enter Tryz.func129, Tryz.ntmps129
  go_wp2_with fail
  go_quiet (fail)
  go_wp2_with fail
  go_quiet (fail)
  go_wp2_with fail
  go_loopw [9, 10] (fun s9 s10 wr => ∃ q r : Nat, s9 = .int .u64 (q : Int) ∧ s10 = .int .u64 (r : Int) ∧ GuessInv T u2 v1 v2 q r ∧ Fr [] w wr) (fun x _ _ => (intOf x).toNat)
  case atStart => exact ⟨q0, r0, by first | rfl | exact congrArg _ w0, by first | rfl | exact congrArg _ q2, G0, by first | exact ((Fr.refl _ _).drewN _).drewN _ | exact (Fr.refl _ _).drewN _⟩
  case round =>
    obtain ⟨q, r, rfl, rfl, hG, hF⟩ := hrel
    have c0 : wr.cell? ⟨g, i0, none⟩ = some (.int .u32 (u0 : Int)) := by rw [cell_fr hF gl (by simp)]; exact c0
    have c2 : wr.cell? ⟨g, i2, none⟩ = some (.int .u32 (u2 : Int)) := by rw [cell_fr hF gl (by simp)]; exact c2
    have d1 : wr.cell? ⟨gv, m1, none⟩ = some (.int .u32 (v1 : Int)) := by rw [cell_fr hF gvl (by simp)]; exact d1
    have d2 : wr.cell? ⟨gv, m2, none⟩ = some (.int .u32 (v2 : Int)) := by rw [cell_fr hF gvl (by simp)]; exact d2
    have hqT := KK'.out q r hG
    have hr1 := hG.r1
    have E2 := or32 r u2 hr1 b2
    obtain ⟨R, hR⟩ : ∃ R, R = r * 4294967296 + u2 := ⟨_, rfl⟩
    have HR := Lib.hid hR
    rw [← hR] at E2
    clear hR c1
    have NEXT : Hid ((4294967296 ≤ q ∨ R < q * v2) → 0 < q ∧ (4294967296 ≤ r + v1 → GuessOk T u2 v1 v2 (q - 1)) ∧ (r + v1 < 4294967296 → GuessInv T u2 v1 v2 (q - 1) (r + v1))) := Lib.hid (fun ht => by
      obtain ⟨h1, h2, h3⟩ := hG.down (by rw [← HR.out]; exact ht)
      exact ⟨h1, fun h4 => guess_break h2 h3 h4 HT2.out b4, fun h4 => ⟨h2, h3, h4⟩⟩)
    by_cases hqB : 4294967296 ≤ q
    · have hd : decide ((4294967296 : Int) ≤ (q : Int)) = true := by simpa using (show (4294967296 : Int) ≤ (q : Int) by omega)
      obtain ⟨n1, n2, n3⟩ := NEXT.out (.inl hqB)
      have n2 := Lib.hid n2
      have n3 := Lib.hid n3
      obtain ⟨p, hp⟩ : ∃ p, p = q - 1 := ⟨_, rfl⟩
      have ep : (q : Int) - 1 = (p : Int) := by omega
      have hq0 : (0 : Int) < (q : Int) := by omega
      have hpq : p < q := by omega
      rw [← hp] at n2 n3
      clear NEXT hG hp
      by_cases hb : 4294967296 ≤ r + v1
      · have hbI : (4294967296 : Int) ≤ (r : Int) + (v1 : Int) := by omega
        have D : Hid (∀ W, Fr [] wr W → GuessR w T u2 v1 v2 (.returned (.int .u64 (p : Int))) W) := Lib.hid (fun W hW => ⟨p, rfl, n2.out hb, hF.same hW⟩)
        clear n2 n3 hb
        go_wp2_with fail
        go_quiet (fail)
        go_wp2
        go_ret
        exact D.out _ ((Fr.refl _ _).drewN _)
      · have hbb : decide ((4294967296 : Int) ≤ (r : Int) + (v1 : Int)) = false := by simp; omega
        have hbI2 : (r : Int) + (v1 : Int) < 4294967296 := by omega
        have G1 := n3.out (by omega)
        clear n2 n3 hb
        go_wp2_with fail
        go_quiet (fail)
        go_wp2
        go_roundw
        case rel => exact ⟨p, r + v1, rfl, by rw [Int.natCast_add], G1, hF.drewN _⟩
        case measure => simp [intOf]; omega
    · have hd : decide ((4294967296 : Int) ≤ (q : Int)) = false := by simp; omega
      have hql : q < 4294967296 := by omega
      obtain ⟨Q, hQ⟩ : ∃ Q, Q = q * v2 := ⟨_, rfl⟩
      have hQb : Q ≤ 18446744065119617025 := by rw [hQ]; exact Nat.le_trans (Nat.mul_le_mul (show q ≤ 4294967295 by omega) (show v2 ≤ 4294967295 by omega)) (by decide)
      have hQI : (q : Int) * (v2 : Int) = (Q : Int) := by rw [hQ]; simp
      have HQ := Lib.hid hQ
      clear hQ
      by_cases hc : R < Q
      · have hcI : (R : Int) < (Q : Int) := by omega
        have hcb : decide ((R : Int) < (Q : Int)) = true := by simpa using hcI
        obtain ⟨n1, n2, n3⟩ := NEXT.out (.inr (by rw [← HQ.out]; exact hc))
        have n2 := Lib.hid n2
        have n3 := Lib.hid n3
        obtain ⟨p, hp⟩ : ∃ p, p = q - 1 := ⟨_, rfl⟩
        have ep : (q : Int) - 1 = (p : Int) := by omega
        have hq0 : (0 : Int) < (q : Int) := by omega
        have hpq : p < q := by omega
        rw [← hp] at n2 n3
        clear NEXT hG hp
        by_cases hb : 4294967296 ≤ r + v1
        · have hbI : (4294967296 : Int) ≤ (r : Int) + (v1 : Int) := by omega
          have D : Hid (∀ W, Fr [] wr W → GuessR w T u2 v1 v2 (.returned (.int .u64 (p : Int))) W) := Lib.hid (fun W hW => ⟨p, rfl, n2.out hb, hF.same hW⟩)
          clear n2 n3 hb
          go_wp2_with fail
          go_quiet (fail)
          go_wp2
          go_ret
          exact D.out _ ((Fr.refl _ _).drewN _)
        · have hbb : decide ((4294967296 : Int) ≤ (r : Int) + (v1 : Int)) = false := by simp; omega
          have hbI2 : (r : Int) + (v1 : Int) < 4294967296 := by omega
          have G1 := n3.out (by omega)
          clear n2 n3 hb
          go_wp2_with fail
          go_quiet (fail)
          go_wp2
          go_roundw
          case rel => exact ⟨p, r + v1, rfl, by rw [Int.natCast_add], G1, hF.drewN _⟩
          case measure => simp [intOf]; omega
      · have hcI : ¬ (R : Int) < (Q : Int) := by omega
        have hcb : decide ((R : Int) < (Q : Int)) = false := by simpa using hcI
        have D : Hid (∀ W, Fr [] wr W → GuessR w T u2 v1 v2 (.returned (.int .u64 (q : Int))) W) := Lib.hid (fun W hW => ⟨q, rfl, hG.exit hql (by rw [← HQ.out, ← HR.out]; omega), hF.same hW⟩)
        clear NEXT hG
        go_wp2_with fail
        go_quiet (fail)
        go_wp2
        go_ret
        exact D.out _ ((Fr.refl _ _).drewN _)
end
end Go.Proofs.YtcjkgnafpkkjmaaGreatDoor
