/- Limbs: a division by one limb; shifts. -/
import Derived.Test.YtjdanblijcdllaaGreatDoorLimbC
set_option linter.all false
namespace Go.Proofs.YtjdanblijcdllaaGreatDoor
open Go.ChangeShapes Go.WideShapes Go.RowKit
variable {w w' w2 wr : World} {a b : Option Addr} {cap cap2 : Nat} {L M : List Nat} {B : Nat}
theorem wraps_u64 (n : Int) (h₀ : 0 ≤ n) (h₁ : n < 2 ^ 64) : IntKind.u64.wrap n = n := by rw [IntKind.wrap_u64]; omega
theorem or32 (R x : Nat) (hR : R < 4294967296) (hx : x < 4294967296) : bits BinOp.or IntKind.u64 ((R : Int) * 4294967296) (x : Int) = ((R * 4294967296 + x : Nat) : Int) := by
  rw [bits_join .u64 64 (by decide) wraps_u64 32 _ _ (by omega) (by omega) (by omega) (by omega) (by omega) (by omega)]
  omega
/-- A division by one limb, from above. -/
structure ShortInv (L : List Nat) (d : Nat) (O : List Nat) (k R : Nat) : Prop where
  len : O.length = L.length
  v : val (L.drop k) = val (O.drop k) * d + R
  r : R < d
theorem ShortInv.start (L : List Nat) (d : Nat) (hd : 0 < d) : ShortInv L d (nils L.length) L.length 0 :=
  ⟨len_nils _, by rw [List.drop_of_length_le (Nat.le_refl _), List.drop_of_length_le (by rw [len_nils]; exact Nat.le_refl _)]; simp [val], hd⟩
theorem ShortInv.step {d k R : Nat} {O : List Nat} (h : ShortInv L d O (k + 1) R) (hk : k < L.length) :
    ShortInv L d (O.set k ((R * 4294967296 + L[k]?.getD 0) / d)) k ((R * 4294967296 + L[k]?.getD 0) % d) := by
  refine ⟨by simp [h.len], ?_, Nat.mod_lt _ (by have := h.r; omega)⟩
  rw [val_drop L k, val_drop (O.set k _) k, List.getElem?_set_self (by rw [h.len]; exact hk), drop_set_succ]
  simp only [Option.getD_some]
  exact short_step h.v rfl
theorem ShortInv.done {d R : Nat} {O : List Nat} (h : ShortInv L d O 0 R) : val L / d = val O ∧ val L % d = R := by
  have := h.v
  simp only [List.drop_zero] at this
  exact div_of this h.r
def ShortR (w : World) (n d len : Nat) (e : Ending) (w' : World) : Prop := ∃ a cap O, e = .returned (.tuple #[.slice a O.length cap, .int .u32 ((n % d : Nat) : Int)]) ∧ O.length = len ∧ val O = n / d ∧ Nw w' w.heap.size a cap O ∧ Fr [] w w'
set_option maxHeartbeats 1000000 in
set_option maxRecDepth 100000 in
theorem lshort_c (w : World) (ha : In w a cap L) (d : Nat) (hd : 0 < d) (hd2 : d < 4294967296) : Calls Tryz.prog 142 #[.slice a L.length cap, .int .u32 (d : Int)] w (ShortR w (val L) d L.length) := by
  have hsm := ha.sm
  have HA := Lib.hid ha
  clear ha
  have MK : ∀ W : World, (Instr.makeSlice 23 (.int .i64 (L.length : Int)) (.int .i64 (L.length : Int))).run Tryz.prog W = .ok (.slice (some ⟨W.heap.size, 0, none⟩) L.length L.length) (W.alloc (.cells (lc (nils L.length)).toArray 108)) := fun W => run_u32s W L.length L.length (Nat.le_refl _) (by omega)
  have hdz : ((d : Int) == 0) = false := by simp; omega
  go_enter Tryz.func142, Tryz.ntmps142
  go_wp2_with fail
  have N0 : Hid (Nw (w.alloc (.cells (lc (nils L.length)).toArray 108)) w.heap.size (some ⟨w.heap.size, 0, none⟩) L.length (nils L.length)) := Lib.hid (Nw.made w _ _ (Nat.le_refl _) (Nat.le_refl _) (by omega))
  have F0 : Hid (Fr [] w (w.alloc (.cells (lc (nils L.length)).toArray 108))) := Lib.hid ((Fr.refl [] _).alloc _)
  go_loopw [8, 7, 9] (fun s8 s7 _ wr => ∃ (O : List Nat) (k R : Nat), k ≤ L.length ∧ s8 = .int .i64 ((k : Int) - 1) ∧ s7 = .int .u64 (R : Int) ∧ ShortInv L d O k R ∧ Hid (Nw wr w.heap.size (some ⟨w.heap.size, 0, none⟩) L.length O) ∧ Hid (Fr [] w wr)) (fun x _ _ _ => (intOf x + 1).toNat)
  case atStart => exact ⟨_, L.length, 0, Nat.le_refl _, rfl, rfl, ShortInv.start L d hd, N0, F0⟩
  case round =>
    obtain ⟨O, k, R, hk, rfl, rfl, hV, hN, hF⟩ := hrel
    have HLEN := Lib.hid hV.len
    cases k with
    | zero =>
      rw [show (((0 : Nat) : Int) - 1) = -1 from rfl]
      have HD := Lib.hid hV.done
      have hr := hV.r
      have D : Hid (ShortR w (val L) d L.length (.returned (.tuple #[.slice (some ⟨w.heap.size, 0, none⟩) L.length L.length, .int .u32 (R : Int)])) wr) := Lib.hid ⟨_, _, O, by rw [HD.out.2, HLEN.out], HLEN.out, HD.out.1.symm, hN.out, hF.out⟩
      clear hV HD
      go_wp2
      go_ret2
      exact D.out
    | succ k =>
      rw [show (((k + 1 : Nat) : Int) - 1) = (k : Int) from by omega]
      have hlt : k < L.length := by omega
      obtain ⟨xb, xo, rfl, xl, xc⟩ := (HA.out.keep hF.out).at hlt
      have bx := lim_get HA.out.lim k
      have hr := hV.r
      have VS := Lib.hid (hV.step hlt)
      obtain ⟨x, hx⟩ : ∃ x, x = L[k]?.getD 0 := ⟨_, rfl⟩
      rw [← hx] at xc bx VS
      have E := or32 R x (by omega) bx
      have hq := short_lt hr bx
      have hT : R * 4294967296 + x ≤ 18446744073709551615 := by omega
      obtain ⟨T, hTe⟩ : ∃ T, T = R * 4294967296 + x := ⟨_, rfl⟩
      rw [← hTe] at VS E hq hT
      have q1 : (T : Int) / (d : Int) = ((T / d : Nat) : Int) := by simp
      have q2 : (T : Int) % (d : Int) = ((T % d : Nat) : Int) := by simp
      have hp : k < O.length := by rw [HLEN.out]; omega
      have zc := hN.out.cell hp
      have fz := hN.out.free k
      generalize O[k]?.getD 0 = z at *
      generalize T / d = q at *
      generalize T % d = r at *
      have V1 := VS.out
      have NS := Lib.hid (hN.out.set k q hq)
      have FS : Hid (Fr [] w (wr.setCell ⟨w.heap.size, k, none⟩ (.int .u32 (q : Int)))) := Lib.hid (hF.out.setCell (.inr (Nat.le_refl _)) _)
      have zl := hN.out.lt.1
      have kk1 : (k : Int) < (L.length : Int) := by omega
      clear hx hTe VS hV hN hF hp
      go_wp2
      go_roundw
      case rel => exact ⟨_, k, r, by omega, rfl, congrArg _ q2, V1, NS, FS⟩
      case measure => simp [intOf]
/-! ### Shifts -/
theorem bits_or_comm (k : IntKind) (a b : Int) : bits .or k a b = bits .or k b a := by
  cases k <;> simp only [bits, BitVec.or_comm]
/-- A shift by so many bits, from below. -/
structure ShiftInv (L : List Nat) (p : Nat) (O : List Nat) (k c : Nat) : Prop where
  len : O.length = L.length + 1
  v : val (O.take k) + 4294967296 ^ k * c = val (L.take k) * p
  c1 : c < p
theorem ShiftInv.start (L : List Nat) (p : Nat) (hp : 0 < p) : ShiftInv L p (nils (L.length + 1)) 0 0 := ⟨len_nils _, by simp [val], hp⟩
theorem ShiftInv.step {p k c : Nat} {O : List Nat} (h : ShiftInv L p O k c) (hk : k < L.length) (hL : Lim L) :
    ShiftInv L p (O.set k ((L[k]?.getD 0 * p + c) % 4294967296)) (k + 1) ((L[k]?.getD 0 * p + c) / 4294967296) := by
  have hx := lim_get hL k
  have hc := h.c1
  refine ⟨by simp [h.len], ?_, ?_⟩
  · rw [take_set_succ _ _ _ (by rw [h.len]; omega), val_snoc, val_take_succ L k, Nat.pow_succ]
    have e : (O.take k).length = k := by simp [h.len]; omega
    rw [e, Nat.add_mul, ← h.v]
    have e2 := Nat.mod_add_div (L[k]?.getD 0 * p + c) 4294967296
    have e3 : 4294967296 ^ k * ((L[k]?.getD 0 * p + c) % 4294967296) + 4294967296 ^ k * 4294967296 * ((L[k]?.getD 0 * p + c) / 4294967296) = 4294967296 ^ k * (L[k]?.getD 0 * p + c) := by
      rw [Nat.mul_assoc, ← Nat.mul_add, e2]
    rw [Nat.mul_add] at e3
    rw [Nat.mul_assoc (4294967296 ^ k) (L[k]?.getD 0) p]
    omega
  · rw [Nat.div_lt_iff_lt_mul (by decide)]
    have : (L[k]?.getD 0 + 1) * p ≤ 4294967296 * p := Nat.mul_le_mul_right _ (by omega)
    rw [Nat.add_mul] at this
    rw [Nat.mul_comm p]
    omega
theorem ShiftInv.done {p c : Nat} {O : List Nat} (h : ShiftInv L p O L.length c) : val (O.set L.length c) = val L * p := by
  have h1 := take_set_succ O L.length c (by rw [h.len]; omega)
  rw [List.take_of_length_le (by simp [h.len])] at h1
  rw [h1, val_snoc]
  have e : (O.take L.length).length = L.length := by simp [h.len]
  rw [e, h.v, List.take_of_length_le (Nat.le_refl _)]
def ShiftR (w : World) (n p len : Nat) (e : Ending) (w' : World) : Prop := ∃ a cap O, e = .returned (.slice a O.length cap) ∧ O.length = len + 1 ∧ val O = n * p ∧ Nw w' w.heap.size a cap O ∧ Fr [] w w'
set_option maxHeartbeats 1000000 in
set_option maxRecDepth 100000 in
theorem lshift_c (w : World) (ha : In w a cap L) (hl99 : L.length ≤ 99999) (s : Nat) (hs : s < 32) : Calls Tryz.prog 174 #[.slice a L.length cap, .int .i64 (s : Int)] w (ShiftR w (val L) (2 ^ s) L.length) := by
  have hsm := ha.sm
  have HA := Lib.hid ha
  clear ha
  have MK : ∀ W : World, (Instr.makeSlice 23 (.int .i64 ((L.length : Int) + 1)) (.int .i64 ((L.length : Int) + 1))).run Tryz.prog W = .ok (.slice (some ⟨W.heap.size, 0, none⟩) (L.length + 1) (L.length + 1)) (W.alloc (.cells (lc (nils (L.length + 1))).toArray 108)) := fun W => by
    have := run_u32s W (L.length + 1) (L.length + 1) (Nat.le_refl _) (by omega)
    simpa using this
  have hp0 : 0 < 2 ^ s := Nat.pow_pos (by decide)
  have hp1 : 2 ^ s ≤ 2147483648 := by
    have := Nat.pow_le_pow_right (n := 2) (by decide) (show s ≤ 31 by omega)
    simpa using this
  obtain ⟨p, hp⟩ : ∃ p, p = 2 ^ s := ⟨_, rfl⟩
  have HP := Lib.hid hp
  rw [← hp] at hp0 hp1 ⊢
  clear hp
  go_enter Tryz.func174, Tryz.ntmps174
  go_wp2_with fail
  have N0 : Hid (Nw (w.alloc (.cells (lc (nils (L.length + 1))).toArray 108)) w.heap.size (some ⟨w.heap.size, 0, none⟩) (L.length + 1) (nils (L.length + 1))) := Lib.hid (Nw.made w _ _ (Nat.le_refl _) (Nat.le_refl _) (by omega))
  have F0 : Hid (Fr [] w (w.alloc (.cells (lc (nils (L.length + 1))).toArray 108))) := Lib.hid ((Fr.refl [] _).alloc _)
  go_loopw [16, 6, 7, 8, 9] (fun s16 s6 _ _ _ wr => ∃ (O : List Nat) (k c : Nat), k ≤ L.length ∧ s16 = .int .i64 (k : Int) ∧ s6 = .int .u64 (c : Int) ∧ ShiftInv L p O k c ∧ Hid (Nw wr w.heap.size (some ⟨w.heap.size, 0, none⟩) (L.length + 1) O) ∧ Hid (Fr [] w wr)) (fun x _ _ _ _ _ => L.length - (intOf x).toNat)
  case atStart => exact ⟨_, 0, 0, by omega, rfl, rfl, ShiftInv.start L p hp0, N0, F0⟩
  case round =>
    obtain ⟨O, k, c, hk, rfl, rfl, hV, hN, hF⟩ := hrel
    have HLEN := Lib.hid hV.len
    have hc1 := hV.c1
    by_cases hlt : k < L.length
    · obtain ⟨xb, xo, rfl, xl, xc⟩ := (HA.out.keep hF.out).at hlt
      have bx := lim_get HA.out.lim k
      have VS := Lib.hid (hV.step hlt HA.out.lim)
      obtain ⟨x, hx⟩ : ∃ x, x = L[k]?.getD 0 := ⟨_, rfl⟩
      rw [← hx] at xc bx VS
      obtain ⟨T, hTe⟩ : ∃ T, T = x * p + c := ⟨_, rfl⟩
      have hT : T ≤ 9223372036854775807 := by
        rw [hTe]
        have : x * p ≤ 4294967295 * 2147483648 := Nat.mul_le_mul (by omega) hp1
        omega
      have EI : IntKind.u64.wrap ((x : Int) * 2 ^ s) = ((x * p : Nat) : Int) := by
        have e : (x : Int) * 2 ^ s = ((x * p : Nat) : Int) := by rw [HP.out]; simp
        rw [e]
        exact wraps_u64 _ (by omega) (by omega)
      have E : bits BinOp.or IntKind.u64 (IntKind.u64.wrap ((x : Int) * 2 ^ s)) (c : Int) = (T : Int) := by
        rw [EI, bits_join .u64 64 (by decide) wraps_u64 s _ _ (by omega) (by rw [HP.out]; simp) (by omega) (by omega) (by rw [HP.out] at hc1; exact_mod_cast hc1) (by omega)]
        omega
      have E1 : bits BinOp.or IntKind.u64 (IntKind.u64.wrap (IntKind.u64.wrap (x : Int) * 2 ^ s)) (c : Int) = (T : Int) := by
        rw [wraps_u64 (x : Int) (by omega) (by omega)]; exact E
      rw [← hTe] at VS
      have hq : T % 4294967296 < 4294967296 := Nat.mod_lt _ (by decide)
      have q1 : (T : Int) % 4294967296 = ((T % 4294967296 : Nat) : Int) := by omega
      have q2 : (T : Int) / 4294967296 = ((T / 4294967296 : Nat) : Int) := by omega
      have hp : k < O.length := by rw [HLEN.out]; omega
      have zc := hN.out.cell hp
      have fz := hN.out.free k
      generalize O[k]?.getD 0 = z at *
      generalize T % 4294967296 = t at *
      generalize T / 4294967296 = c2 at *
      have V1 := VS.out
      have NS := Lib.hid (hN.out.set k t hq)
      have FS : Hid (Fr [] w (wr.setCell ⟨w.heap.size, k, none⟩ (.int .u32 (t : Int)))) := Lib.hid (hF.out.setCell (.inr (Nat.le_refl _)) _)
      have zl := hN.out.lt.1
      have kk1 : (k : Int) < (L.length : Int) := by omega
      clear hx hTe VS hV hN hF hp EI
      go_wp2
      go_roundw
      case rel => exact ⟨_, k + 1, c2, by omega, by go_num, rfl, V1, NS, FS⟩
      case measure => simp [intOf]; omega
    · have hkl : k = L.length := by omega
      subst hkl
      have HV := Lib.hid hV.done
      have hp : L.length < O.length := by rw [HLEN.out]; omega
      have zc := hN.out.cell hp
      have fz := hN.out.free L.length
      generalize O[L.length]?.getD 0 = z at *
      have hcb : c < 4294967296 := by omega
      have NS := Lib.hid (hN.out.set L.length c hcb)
      have FS : Hid (Fr [] w (wr.setCell ⟨w.heap.size, L.length, none⟩ (.int .u32 (c : Int)))) := Lib.hid (hF.out.setCell (.inr (Nat.le_refl _)) _)
      have zl := hN.out.lt.1
      have D : Hid (ShiftR w (val L) p L.length (.returned (.slice (some ⟨w.heap.size, 0, none⟩) (L.length + 1) (L.length + 1))) (wr.setCell ⟨w.heap.size, L.length, none⟩ (.int .u32 (c : Int)))) := Lib.hid ⟨_, _, O.set L.length c, by rw [List.length_set, HLEN.out], by rw [List.length_set, HLEN.out], HV.out, NS.out, FS.out⟩
      clear hV hN hF hp HV
      go_wp2
      go_ret
      exact D.out
/-- A shift to the right, in place. -/
structure BackInv (L : List Nat) (p : Nat) (C : List Nat) (k : Nat) : Prop where
  len : C.length = L.length
  t : C.take k = (shrL p L).take k
  dr : C.drop k = L.drop k
theorem BackInv.start (L : List Nat) (p : Nat) : BackInv L p L 0 := ⟨rfl, by simp, rfl⟩
theorem BackInv.step {p k : Nat} {C : List Nat} (h : BackInv L p C k) (hk : k < L.length) : BackInv L p (C.set k (((L[k]?.getD 0 + 4294967296 * L[k + 1]?.getD 0) / p) % 4294967296)) (k + 1) := by
  refine ⟨by simp [h.len], ?_, ?_⟩
  · rw [take_set_succ _ _ _ (by rw [h.len]; exact hk), h.t, ← shrL_get p L k hk, List.take_add_one, List.getElem?_eq_getElem (by rw [len_shrL]; exact hk)]
    simp
  · rw [drop_set_succ, ← List.drop_drop, h.dr, List.drop_drop]
theorem BackInv.done {p : Nat} {C : List Nat} (h : BackInv L p C L.length) : C = shrL p L := by
  have := h.t
  rwa [List.take_of_length_le (by rw [h.len]; exact Nat.le_refl _), List.take_of_length_le (by rw [len_shrL]; exact Nat.le_refl _)] at this
theorem BackInv.get {p k : Nat} {C : List Nat} (h : BackInv L p C k) (i : Nat) (hi : k ≤ i) : C[i]? = L[i]? := by
  have e1 : (C.drop k)[i - k]? = (L.drop k)[i - k]? := by rw [h.dr]
  simpa [List.getElem?_drop, show k + (i - k) = i by omega] using e1
theorem or32' (R x : Nat) (hR : R < 4294967296) (hx : x < 4294967296) : bits BinOp.or IntKind.u64 (x : Int) ((R : Int) * 4294967296) = ((x + 4294967296 * R : Nat) : Int) := by
  rw [bits_or_comm, or32 R x hR hx]; omega
def BackR (w : World) (g cap : Nat) (L : List Nat) (p : Nat) (e : Ending) (w' : World) : Prop := e = .returned (.slice (some ⟨g, 0, none⟩) L.length cap) ∧ Nw w' g (some ⟨g, 0, none⟩) cap (shrL p L) ∧ Fr [g] w w'
set_option maxHeartbeats 1000000 in
set_option maxRecDepth 100000 in
theorem lback_c (w : World) (g : Nat) (ha : Nw w g (some ⟨g, 0, none⟩) cap L) (s : Nat) (hs : s < 32) : Calls Tryz.prog 178 #[.slice (some ⟨g, 0, none⟩) L.length cap, .int .i64 (s : Int)] w (BackR w g cap L (2 ^ s)) := by
  have hsm := ha.sm
  have HA := Lib.hid ha
  clear ha
  have hp0 : 0 < 2 ^ s := Nat.pow_pos (by decide)
  obtain ⟨p, hp⟩ : ∃ p, p = 2 ^ s := ⟨_, rfl⟩
  have HP := Lib.hid hp
  rw [← hp] at hp0 ⊢
  clear hp
  go_enter Tryz.func178, Tryz.ntmps178
  go_wp2_with fail
  go_loopw [9, 5, 6] (fun s9 _ _ wr => ∃ (C : List Nat) (k : Nat), k ≤ L.length ∧ s9 = .int .i64 (k : Int) ∧ BackInv L p C k ∧ Hid (Nw wr g (some ⟨g, 0, none⟩) cap C) ∧ Hid (Fr [g] w wr)) (fun x _ _ _ => L.length - (intOf x).toNat)
  case atStart => exact ⟨L, 0, by omega, rfl, BackInv.start L p, HA, Lib.hid (Fr.refl _ _)⟩
  case round =>
    obtain ⟨C, k, hk, rfl, hV, hN, hF⟩ := hrel
    have HLEN := Lib.hid hV.len
    by_cases hlt : k < L.length
    · have hp : k < C.length := by rw [HLEN.out]; exact hlt
      have zc := hN.out.cell hp
      have fz := hN.out.free k
      have zl := hN.out.lt.1
      have bx := lim_get HA.out.lim k
      have by_ := lim_get HA.out.lim (k + 1)
      have e1 := hV.get k (Nat.le_refl _)
      have e2 := hV.get (k + 1) (by omega)
      rw [e1] at zc
      have CY : Hid (∀ W (hW : Fr [] wr W), Calls Tryz.prog 145 #[.slice (some ⟨g, 0, none⟩) L.length cap, .int .i64 ((k : Int) + 1)] W fun e w' => e = .returned (.int .u32 ((L[k + 1]?.getD 0 : Nat) : Int)) ∧ W = w') := Lib.hid (fun W hW => by
        have := lat_c W (hN.out.keep hW).in (k + 1)
        rw [HLEN.out, e2] at this
        exact this)
      have VS := Lib.hid (hV.step hlt)
      obtain ⟨x, hx⟩ : ∃ x, x = L[k]?.getD 0 := ⟨_, rfl⟩
      obtain ⟨y, hy⟩ : ∃ y, y = L[k + 1]?.getD 0 := ⟨_, rfl⟩
      rw [← hx] at zc bx VS
      rw [← hy] at CY by_ VS
      have E := or32' y x by_ bx
      obtain ⟨T, hTe⟩ : ∃ T, T = x + 4294967296 * y := ⟨_, rfl⟩
      have hT : T ≤ 18446744073709551615 := by omega
      rw [← hTe] at VS E
      have f0 : Fr [] wr wr.drew := (Fr.refl _ _).drew
      have kk1 : (k : Int) < (L.length : Int) := by omega
      have kk0 : (0 : Int) ≤ (k : Int) := by omega
      have ew : IntKind.i64.wrap ((k : Int) + 1) = (k : Int) + 1 := IntWalk.i64_in _ (by omega)
      have hq : T / p % 4294967296 < 4294967296 := Nat.mod_lt _ (by decide)
      generalize hQ : T / p % 4294967296 = q at *
      have HQ := Lib.hid hQ
      have NS := Lib.hid (fun W (hW : Fr [] wr W) => (hN.out.keep hW).set k q hq)
      have FS : Hid (∀ W, Fr [] wr W → Fr [g] w (W.setCell ⟨g, k, none⟩ (.int .u32 (q : Int)))) := Lib.hid (fun W hW => (hF.out.trans hW (by simp)).setCell (by simp) _)
      have q1 : (T : Int) / 2 ^ s % 4294967296 = (q : Int) := by rw [← HQ.out, HP.out]; simp
      have V1 := VS.out
      clear hx hy hTe VS hV hN hF hp e1 e2 hQ
      go_wp2_with fail
      go_quiet ((go_at_call 145; exact Calls.quiet_of_same ((CY.out _ (by first | exact (Fr.refl _ _).drewN _ | exact (Fr.refl _ _).drew | exact Fr.refl _ _)).mono fun e w' h => ⟨h.1, h.2.symm⟩)))
      go_wp2
      go_roundw
      case rel => exact ⟨_, k + 1, by omega, by go_num, V1, Lib.hid (NS.out _ ((Fr.refl _ _).drewN _)), Lib.hid (FS.out _ ((Fr.refl _ _).drewN _))⟩
      case measure => simp [intOf]; omega
    · have hkl : k = L.length := by omega
      subst hkl
      have HV := Lib.hid hV.done
      have D : Hid (BackR w g cap L p (.returned (.slice (some ⟨g, 0, none⟩) L.length cap)) wr) := Lib.hid ⟨rfl, by rw [← HV.out]; exact hN.out, hF.out⟩
      clear hV hN hF HV
      go_wp2
      go_ret
      exact D.out
end Go.Proofs.YtjdanblijcdllaaGreatDoor
