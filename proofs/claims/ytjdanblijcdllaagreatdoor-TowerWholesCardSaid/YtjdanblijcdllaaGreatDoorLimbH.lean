/- Limbs: the divisor taken away, and given back. -/
import Derived.Test.YtjdanblijcdllaaGreatDoorLimbG
set_option linter.all false
namespace Go.Proofs.YtjdanblijcdllaaGreatDoor
open Go.ChangeShapes Go.WideShapes Go.RowKit
variable {w w' w2 wr : World} {a b : Option Addr} {cap cap2 : Nat} {L M : List Nat} {B : Nat}
theorem get_drop (U : List Nat) (j i : Nat) : (U.drop j)[i]?.getD 0 = U[i + j]?.getD 0 := by rw [List.getElem?_drop, Nat.add_comm]
theorem drop_set_ge (C : List Nat) (j i z : Nat) : (C.set (i + j) z).drop j = (C.drop j).set i z := by
  rw [List.drop_set, if_neg (by omega)]; congr 1; omega
/-- The window of so many limbs from one on. -/
def win (U : List Nat) (j n : Nat) : Nat := val ((U.drop j).take n)
theorem win_succ (U : List Nat) (j i : Nat) : win U j (i + 1) = win U j i + 4294967296 ^ i * U[i + j]?.getD 0 := by
  unfold win; rw [val_take_succ, get_drop]
theorem win_set (C : List Nat) (j i z : Nat) (h : i + j < C.length) : win (C.set (i + j) z) j (i + 1) = win C j i + 4294967296 ^ i * z := by
  unfold win
  have e : ((C.drop j).take i).length = i := by simp; omega
  rw [drop_set_ge, take_set_succ _ _ _ (by simp; omega), val_snoc, e]
structure TakeInv (U V : List Nat) (j q : Nat) (C : List Nat) (i c b : Nat) : Prop where
  len : C.length = U.length
  lo : C.take j = U.take j
  hi : ∀ k, i + j ≤ k → C[k]? = U[k]?
  v : win C j i + q * val (V.take i) = win U j i + 4294967296 ^ i * (c + b)
  c1 : c < 4294967296
  b1 : b ≤ 1
theorem TakeInv.start (U V : List Nat) (j q : Nat) : TakeInv U V j q U 0 0 0 := ⟨rfl, rfl, fun _ _ => rfl, by simp [win, val], by decide, by omega⟩
theorem take_set_lo (C : List Nat) (j k z : Nat) (h : j ≤ k) : (C.set k z).take j = C.take j := by
  rw [List.take_set, List.set_eq_of_length_le (by simp; omega)]
theorem TakeInv.step {U V C : List Nat} {j q i c b x y : Nat} (h : TakeInv U V j q C i c b) (hU : Lim U) (hV : Lim V) (hq : q < 4294967296) (hx : x = U[i + j]?.getD 0) (hy : y = V[i]?.getD 0) (hl : i + j < U.length) :
    TakeInv U V j q (C.set (i + j) ((x + 4294967296 - (q * y + c) % 4294967296 - b) % 4294967296)) (i + 1) ((q * y + c) / 4294967296) (bw x ((q * y + c) % 4294967296) b) := by
  have hxb := lim_get hU (i + j)
  have hyb := lim_get hV i
  rw [← hx] at hxb
  rw [← hy] at hyb
  have hb1 := h.b1
  have hc := (mul_carry hq hyb (show 0 < 4294967296 by decide) h.c1).2
  rw [Nat.add_zero] at hc
  refine ⟨by simp [h.len], by rw [take_set_lo _ _ _ _ (by omega)]; exact h.lo, fun k hk => by rw [List.getElem?_set_ne (by omega)]; exact h.hi k (by omega), ?_, hc, bw_le _ _ _⟩
  rw [win_set _ _ _ _ (by rw [h.len]; exact hl), win_succ, val_take_succ, ← hx, ← hy, Nat.pow_succ]
  refine take_step h.v ?_
  have : (q * y + c) % 4294967296 < 4294967296 := Nat.mod_lt _ (by decide)
  generalize (q * y + c) % 4294967296 = m at *
  unfold bw
  split <;> omega
theorem TakeInv.done {U V C : List Nat} {j q n c b x : Nat} (h : TakeInv U V j q C n c b) (hn : V.length = n) (hU : Lim U) (hx : x = U[n + j]?.getD 0) (hl : n + j < U.length) :
    (C.set (n + j) ((x + 4294967296 - c - b) % 4294967296)).length = U.length ∧ (C.set (n + j) ((x + 4294967296 - c - b) % 4294967296)).take j = U.take j ∧ (∀ k, n + 1 + j ≤ k → (C.set (n + j) ((x + 4294967296 - c - b) % 4294967296))[k]? = U[k]?) ∧
    win (C.set (n + j) ((x + 4294967296 - c - b) % 4294967296)) j (n + 1) + q * val V = win U j (n + 1) + 4294967296 ^ (n + 1) * bw x c b := by
  have hxb := lim_get hU (n + j)
  rw [← hx] at hxb
  have hb1 := h.b1
  have hc1 := h.c1
  refine ⟨by simp [h.len], by rw [take_set_lo _ _ _ _ (by omega)]; exact h.lo, fun k hk => by rw [List.getElem?_set_ne (by omega)]; exact h.hi k (by omega), ?_⟩
  rw [win_set _ _ _ _ (by rw [h.len]; exact hl), win_succ, ← hx, Nat.pow_succ]
  have hv := h.v
  rw [List.take_of_length_le (by omega)] at hv
  have hz : (x + 4294967296 - c - b) % 4294967296 + (c + b) = x + 4294967296 * bw x c b := by unfold bw; split <;> omega
  generalize (x + 4294967296 - c - b) % 4294967296 = z at *
  generalize 4294967296 ^ n = P at *
  have e : P * (z + (c + b)) = P * (x + 4294967296 * bw x c b) := by rw [hz]
  rw [Nat.mul_add, Nat.mul_add, Nat.mul_add, ← Nat.mul_assoc] at e
  rw [Nat.mul_add] at hv
  omega
structure GiveInv (U V : List Nat) (j : Nat) (C : List Nat) (i c : Nat) : Prop where
  len : C.length = U.length
  lo : C.take j = U.take j
  hi : ∀ k, i + j ≤ k → C[k]? = U[k]?
  v : win C j i + 4294967296 ^ i * c = win U j i + val (V.take i)
  c1 : c ≤ 1
theorem GiveInv.start (U V : List Nat) (j : Nat) : GiveInv U V j U 0 0 := ⟨rfl, rfl, fun _ _ => rfl, by simp [win, val], by decide⟩
theorem GiveInv.step {U V C : List Nat} {j i c x y : Nat} (h : GiveInv U V j C i c) (hU : Lim U) (hV : Lim V) (hx : x = U[i + j]?.getD 0) (hy : y = V[i]?.getD 0) (hl : i + j < U.length) :
    GiveInv U V j (C.set (i + j) ((x + y + c) % 4294967296)) (i + 1) ((x + y + c) / 4294967296) := by
  have hxb := lim_get hU (i + j)
  have hyb := lim_get hV i
  rw [← hx] at hxb
  rw [← hy] at hyb
  have hc := h.c1
  refine ⟨by simp [h.len], by rw [take_set_lo _ _ _ _ (by omega)]; exact h.lo, fun k hk => by rw [List.getElem?_set_ne (by omega)]; exact h.hi k (by omega), ?_, by omega⟩
  rw [win_set _ _ _ _ (by rw [h.len]; exact hl), win_succ, val_take_succ, ← hx, ← hy, Nat.pow_succ]
  exact add_step h.v
theorem GiveInv.done {U V C : List Nat} {j n c x : Nat} (h : GiveInv U V j C n c) (hn : V.length = n) (hx : x = U[n + j]?.getD 0) (hl : n + j < U.length) :
    (C.set (n + j) ((x + c) % 4294967296)).length = U.length ∧ (C.set (n + j) ((x + c) % 4294967296)).take j = U.take j ∧ (∀ k, n + 1 + j ≤ k → (C.set (n + j) ((x + c) % 4294967296))[k]? = U[k]?) ∧
    win (C.set (n + j) ((x + c) % 4294967296)) j (n + 1) + 4294967296 ^ (n + 1) * ((x + c) / 4294967296) = win U j (n + 1) + val V := by
  refine ⟨by simp [h.len], by rw [take_set_lo _ _ _ _ (by omega)]; exact h.lo, fun k hk => by rw [List.getElem?_set_ne (by omega)]; exact h.hi k (by omega), ?_⟩
  rw [win_set _ _ _ _ (by rw [h.len]; exact hl), win_succ, ← hx, Nat.pow_succ]
  have hv := h.v
  rw [List.take_of_length_le (by omega)] at hv
  have := add_step (x := x) (y := 0) hv
  simpa using this
/-- A part of the dividend is another one. -/
structure Win (U V : List Nat) (j n : Nat) (C : List Nat) : Prop where
  len : C.length = U.length
  lo : C.take j = U.take j
  hi : ∀ k, n + 1 + j ≤ k → C[k]? = U[k]?
def TakeR (w : World) (B g cu : Nat) (U V : List Nat) (j q : Nat) (e : Ending) (w' : World) : Prop := ∃ C bo, e = .returned (.bool (decide (bo ≠ 0))) ∧ Win U V j V.length C ∧ win C j (V.length + 1) + q * val V = win U j (V.length + 1) + 4294967296 ^ (V.length + 1) * bo ∧ Nw w' B (some ⟨g, 0, none⟩) cu C ∧ Fr [g] w w'
set_option maxHeartbeats 2000000 in
set_option maxRecDepth 100000 in
theorem ltake_c (w : World) (g gv cu cv : Nat) (U V : List Nat) (hu : Nw w B (some ⟨g, 0, none⟩) cu U) (hv : Nw w B (some ⟨gv, 0, none⟩) cv V) (hne : gv ≠ g) (j q : Nat) (hq : q < 4294967296) (hj : V.length + j < U.length) :
    Calls Tryz.prog 176 #[.slice (some ⟨g, 0, none⟩) U.length cu, .slice (some ⟨gv, 0, none⟩) V.length cv, .int .i64 (j : Int), .int .u64 (q : Int)] w (TakeR w B g cu U V j q) := by
  have hsu := hu.sm
  have hg := hu.lt
  have HU := Lib.hid hu
  have HV := Lib.hid hv
  clear hu hv
  obtain ⟨n, hn⟩ : ∃ n, n = V.length := ⟨_, rfl⟩
  have HN := Lib.hid hn
  obtain ⟨lu, hlu⟩ : ∃ lu, lu = U.length := ⟨_, rfl⟩
  have HLU := Lib.hid hlu
  have D : Hid (∀ C bo w', Win U V j n C → win C j (n + 1) + q * val V = win U j (n + 1) + 4294967296 ^ (n + 1) * bo → Nw w' B (some ⟨g, 0, none⟩) cu C → Fr [g] w w' → TakeR w B g cu U V j q (.returned (.bool (decide (bo ≠ 0)))) w') := Lib.hid (fun C bo w' h1 h2 h3 h4 => ⟨C, bo, rfl, by rw [← hn]; exact h1, by rw [← hn]; exact h2, h3, h4⟩)
  rw [← hn] at hj ⊢
  rw [← hlu] at hsu hj ⊢
  clear hn hlu
  go_enter Tryz.func176, Tryz.ntmps176
  go_wp2_with fail
  go_loopw [17, 9, 10, 11, 12, 13] (fun s17 s9 s10 _ _ _ wr => ∃ (C : List Nat) (i c bo : Nat), i ≤ n ∧ s17 = .int .i64 (i : Int) ∧ s9 = .int .u64 (c : Int) ∧ s10 = .int .u32 (bo : Int) ∧ TakeInv U V j q C i c bo ∧ Hid (Nw wr B (some ⟨g, 0, none⟩) cu C) ∧ Hid (Fr [g] w wr)) (fun x _ _ _ _ _ _ => n - (intOf x).toNat)
  case atStart => exact ⟨U, 0, 0, 0, by omega, rfl, rfl, rfl, TakeInv.start U V j q, HU, Lib.hid (Fr.refl _ _)⟩
  case round =>
    obtain ⟨C, i, c, bo, hi, rfl, rfl, rfl, hT, hN, hF⟩ := hrel
    have hb1 := hT.b1
    have hc1 := hT.c1
    have HLEN : Hid (C.length = lu) := Lib.hid (by rw [hT.len, HLU.out])
    have zl := hN.out.lt.1
    by_cases hlt : i < n
    · have hp : i + j < C.length := by rw [HLEN.out]; omega
      have zc := hN.out.cell hp
      have fz := hN.out.free (i + j)
      rw [hT.hi (i + j) (Nat.le_refl _)] at zc
      have yc := ((HV.out.frg hF.out (by simpa using hne)).cell (i := i) (by rw [← HN.out]; exact hlt))
      have yl := (HV.out.frg hF.out (by simpa using hne)).lt.1
      have bx := lim_get HU.out.lim (i + j)
      have by_ := lim_get HV.out.lim i
      obtain ⟨x, hx⟩ : ∃ x, x = U[i + j]?.getD 0 := ⟨_, rfl⟩
      obtain ⟨y, hy⟩ : ∃ y, y = V[i]?.getD 0 := ⟨_, rfl⟩
      have TS := hT.step HU.out.lim HV.out.lim hq hx hy (by rw [← HLU.out]; omega)
      rw [← hx] at zc bx
      rw [← hy] at yc by_
      obtain ⟨P, hP⟩ : ∃ P : Nat, P = q * y := ⟨_, rfl⟩
      have hPb : P ≤ 18446744065119617025 := by rw [hP]; exact Nat.le_trans (Nat.mul_le_mul (show q ≤ 4294967295 by omega) (show y ≤ 4294967295 by omega)) (by decide)
      have hPI : (q : Int) * (y : Int) = (P : Int) := by rw [hP]; simp
      rw [← hP] at TS
      have q1 : ((P : Int) + c) % 4294967296 = (((P + c) % 4294967296 : Nat) : Int) := by omega
      have q2 : ((P : Int) + c) / 4294967296 = (((P + c) / 4294967296 : Nat) : Int) := by omega
      have hm : (P + c) % 4294967296 < 4294967296 := Nat.mod_lt _ (by decide)
      generalize (P + c) % 4294967296 = m at *
      generalize (P + c) / 4294967296 = c2 at *
      have CS := Lib.hid (fun W => sub32_c x m bo W bx hm hb1)
      have hz : (x + 4294967296 - m - bo) % 4294967296 < 4294967296 := Nat.mod_lt _ (by decide)
      generalize (x + 4294967296 - m - bo) % 4294967296 = z at *
      generalize bw x m bo = b2 at *
      have NS := Lib.hid (hN.out.set (i + j) z hz)
      have FS : Hid (Fr [g] w (wr.setCell ⟨g, i + j, none⟩ (.int .u32 (z : Int)))) := Lib.hid (hF.out.setCell (by simp) _)
      clear hx hy hP hT hN hF hp hz D
      go_wp2_with (go_at_call 179; refine (CS.out _).mono ?_; rintro e w' ⟨rfl, rfl⟩)
      go_roundw
      case rel => exact ⟨_, i + 1, c2, b2, by omega, by go_num, rfl, rfl, TS, NS, FS⟩
      case measure => simp [intOf]; omega
    · have hin : i = n := by omega
      subst hin
      have hp : i + j < C.length := by rw [HLEN.out]; omega
      have zc := hN.out.cell hp
      have fz := hN.out.free (i + j)
      rw [hT.hi (i + j) (Nat.le_refl _)] at zc
      have bx := lim_get HU.out.lim (i + j)
      obtain ⟨x, hx⟩ : ∃ x, x = U[i + j]?.getD 0 := ⟨_, rfl⟩
      have TD := Lib.hid (hT.done HN.out.symm HU.out.lim hx (by rw [← HLU.out]; omega))
      rw [← hx] at zc bx
      have CS := Lib.hid (fun W => sub32_c x c bo W bx hc1 hb1)
      have hz : (x + 4294967296 - c - bo) % 4294967296 < 4294967296 := Nat.mod_lt _ (by decide)
      generalize (x + 4294967296 - c - bo) % 4294967296 = z at *
      generalize bw x c bo = b2 at *
      rw [Nat.add_comm i j] at zc fz
      have E := Lib.hid (D.out (C.set (i + j) z) b2 (wr.setCell ⟨g, i + j, none⟩ (.int .u32 (z : Int))) ⟨TD.out.1, TD.out.2.1, TD.out.2.2.1⟩ TD.out.2.2.2 (hN.out.set (i + j) z hz) (hF.out.setCell (by simp) _))
      rw [Nat.add_comm i j] at E
      clear hx hT hN hF hp hz TD D
      go_wp2_with (go_at_call 179; refine (CS.out _).mono ?_; rintro e w' ⟨rfl, rfl⟩)
      go_ret
      have e0 : ((b2 : Int) != 0) = decide (b2 ≠ 0) := by rw [Bool.eq_iff_iff]; simp
      rw [← e0] at E
      exact E.out
def GiveR (w : World) (B g cu : Nat) (U V : List Nat) (j : Nat) (e : Ending) (w' : World) : Prop := ∃ C bo, e = .returned (.tuple #[]) ∧ Win U V j V.length C ∧ win C j (V.length + 1) + 4294967296 ^ (V.length + 1) * bo = win U j (V.length + 1) + val V ∧ Nw w' B (some ⟨g, 0, none⟩) cu C ∧ Fr [g] w w'
set_option maxHeartbeats 2000000 in
set_option maxRecDepth 100000 in
theorem lgive_c (w : World) (g gv cu cv : Nat) (U V : List Nat) (hu : Nw w B (some ⟨g, 0, none⟩) cu U) (hv : Nw w B (some ⟨gv, 0, none⟩) cv V) (hne : gv ≠ g) (j : Nat) (hj : V.length + j < U.length) :
    Calls Tryz.prog 177 #[.slice (some ⟨g, 0, none⟩) U.length cu, .slice (some ⟨gv, 0, none⟩) V.length cv, .int .i64 (j : Int)] w (GiveR w B g cu U V j) := by
  have hsu := hu.sm
  have hg := hu.lt
  have HU := Lib.hid hu
  have HV := Lib.hid hv
  clear hu hv
  obtain ⟨n, hn⟩ : ∃ n, n = V.length := ⟨_, rfl⟩
  have HN := Lib.hid hn
  obtain ⟨lu, hlu⟩ : ∃ lu, lu = U.length := ⟨_, rfl⟩
  have HLU := Lib.hid hlu
  have D : Hid (∀ C bo w', Win U V j n C → win C j (n + 1) + 4294967296 ^ (n + 1) * bo = win U j (n + 1) + val V → Nw w' B (some ⟨g, 0, none⟩) cu C → Fr [g] w w' → GiveR w B g cu U V j (.returned (.tuple #[])) w') := Lib.hid (fun C bo w' h1 h2 h3 h4 => ⟨C, bo, rfl, by rw [← hn]; exact h1, by rw [← hn]; exact h2, h3, h4⟩)
  rw [← hn] at hj ⊢
  rw [← hlu] at hsu hj ⊢
  clear hn hlu
  go_enter Tryz.func177, Tryz.ntmps177
  go_wp2_with fail
  go_loopw [11, 6, 7, 8] (fun s11 s6 _ _ wr => ∃ (C : List Nat) (i c : Nat), i ≤ n ∧ s11 = .int .i64 (i : Int) ∧ s6 = .int .u32 (c : Int) ∧ GiveInv U V j C i c ∧ Hid (Nw wr B (some ⟨g, 0, none⟩) cu C) ∧ Hid (Fr [g] w wr)) (fun x _ _ _ _ => n - (intOf x).toNat)
  case atStart => exact ⟨U, 0, 0, by omega, rfl, rfl, GiveInv.start U V j, HU, Lib.hid (Fr.refl _ _)⟩
  case round =>
    obtain ⟨C, i, c, hi, rfl, rfl, hT, hN, hF⟩ := hrel
    have hc1 := hT.c1
    have HLEN : Hid (C.length = lu) := Lib.hid (by rw [hT.len, HLU.out])
    have zl := hN.out.lt.1
    by_cases hlt : i < n
    · have hp : i + j < C.length := by rw [HLEN.out]; omega
      have zc := hN.out.cell hp
      have fz := hN.out.free (i + j)
      rw [hT.hi (i + j) (Nat.le_refl _)] at zc
      have yc := ((HV.out.frg hF.out (by simpa using hne)).cell (i := i) (by rw [← HN.out]; exact hlt))
      have yl := (HV.out.frg hF.out (by simpa using hne)).lt.1
      have bx := lim_get HU.out.lim (i + j)
      have by_ := lim_get HV.out.lim i
      obtain ⟨x, hx⟩ : ∃ x, x = U[i + j]?.getD 0 := ⟨_, rfl⟩
      obtain ⟨y, hy⟩ : ∃ y, y = V[i]?.getD 0 := ⟨_, rfl⟩
      have TS := hT.step HU.out.lim HV.out.lim hx hy (by rw [← HLU.out]; omega)
      rw [← hx] at zc bx
      rw [← hy] at yc by_
      have CS := Lib.hid (fun W => add32_c x y c W bx by_ hc1)
      have hz : (x + y + c) % 4294967296 < 4294967296 := Nat.mod_lt _ (by decide)
      generalize (x + y + c) % 4294967296 = z at *
      generalize (x + y + c) / 4294967296 = c2 at *
      have NS := Lib.hid (hN.out.set (i + j) z hz)
      have FS : Hid (Fr [g] w (wr.setCell ⟨g, i + j, none⟩ (.int .u32 (z : Int)))) := Lib.hid (hF.out.setCell (by simp) _)
      clear hx hy hT hN hF hp hz D
      go_wp2_with (go_at_call 144; refine (CS.out _).mono ?_; rintro e w' ⟨rfl, rfl⟩)
      go_roundw
      case rel => exact ⟨_, i + 1, c2, by omega, by go_num, rfl, TS, NS, FS⟩
      case measure => simp [intOf]; omega
    · have hin : i = n := by omega
      subst hin
      have hp : i + j < C.length := by rw [HLEN.out]; omega
      have zc := hN.out.cell hp
      have fz := hN.out.free (i + j)
      rw [hT.hi (i + j) (Nat.le_refl _)] at zc
      have bx := lim_get HU.out.lim (i + j)
      obtain ⟨x, hx⟩ : ∃ x, x = U[i + j]?.getD 0 := ⟨_, rfl⟩
      have TD := Lib.hid (hT.done HN.out.symm hx (by rw [← HLU.out]; omega))
      rw [← hx] at zc bx
      have q1 : ((x : Int) + c) % 4294967296 = (((x + c) % 4294967296 : Nat) : Int) := by omega
      have hz : (x + c) % 4294967296 < 4294967296 := Nat.mod_lt _ (by decide)
      generalize (x + c) % 4294967296 = z at *
      generalize (x + c) / 4294967296 = b2 at *
      rw [Nat.add_comm i j] at zc fz
      have E := Lib.hid (D.out (C.set (i + j) z) b2 (wr.setCell ⟨g, i + j, none⟩ (.int .u32 (z : Int))) ⟨TD.out.1, TD.out.2.1, TD.out.2.2.1⟩ TD.out.2.2.2 (hN.out.set (i + j) z hz) (hF.out.setCell (by simp) _))
      rw [Nat.add_comm i j] at E
      clear hx hT hN hF hp hz TD D
      go_wp2
      go_end0
      exact E.out
end Go.Proofs.YtjdanblijcdllaaGreatDoor
