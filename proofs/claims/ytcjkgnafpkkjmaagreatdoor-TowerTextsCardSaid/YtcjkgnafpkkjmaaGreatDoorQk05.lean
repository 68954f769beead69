/- The texts and numbers of numbers: a part of the walk. No condition. -/
import Derived.Test.YtcjkgnafpkkjmaaGreatDoorQk04
import Derived.Lib.BitFns
set_option linter.all false
namespace Go.Proofs.YtcjkgnafpkkjmaaGreatDoor
section
open Go.ChangeShapes Go.WideShapes Go.RowKit
variable {w w' w2 wr : World} {a b : Option Addr} {cap cap2 : Nat} {L M : List Nat} {B : Nat}
theorem get_drop (U : List Nat) (j i : Nat) : (U.drop j)[i]?.getD 0 = U[i + j]?.getD 0 := by rw [List.getElem?_drop, Nat.add_comm]
theorem drop_set_ge (C : List Nat) (j i z : Nat) : (C.set (i + j) z).drop j = (C.drop j).set i z := by
  rw [List.drop_set, if_neg (by omega)]; congr 1; omega
def win (U : List Nat) (j n : Nat) : Nat := val ((U.drop j).take n)
theorem win_succ (U : List Nat) (j i : Nat) : win U j (i + 1) = win U j i + 4294967296 ^ i * U[i + j]?.getD 0 := by
  unfold win; rw [val_take_succ, get_drop]
theorem win_set (C : List Nat) (j i z : Nat) (h : i + j < C.length) : win (C.set (i + j) z) j (i + 1) = win C j i + 4294967296 ^ i * z := by
  unfold win
  have e : ((C.drop j).take i).length = i := by simp; omega
  rw [drop_set_ge, take_set_succ _ _ _ (by simp; omega), val_snoc, e]
structure TakeInv (U V : List Nat) (j q : Nat) (C : List Nat) (i c b : Nat) : Prop where
  len : C.length = U.length
  lo : C.take j = U.take j
  hi : ∀ k, i + j ≤ k → C[k]? = U[k]?
  v : win C j i + q * val (V.take i) = win U j i + 4294967296 ^ i * (c + b)
  c1 : c < 4294967296
  b1 : b ≤ 1
theorem TakeInv.start (U V : List Nat) (j q : Nat) : TakeInv U V j q U 0 0 0 := ⟨rfl, rfl, fun _ _ => rfl, by simp [win, val], by decide, by omega⟩
theorem take_set_lo (C : List Nat) (j k z : Nat) (h : j ≤ k) : (C.set k z).take j = C.take j := by
  rw [List.take_set, List.set_eq_of_length_le (by simp; omega)]
theorem TakeInv.step {U V C : List Nat} {j q i c b x y : Nat} (h : TakeInv U V j q C i c b) (hU : Lim U) (hV : Lim V) (hq : q < 4294967296) (hx : x = U[i + j]?.getD 0) (hy : y = V[i]?.getD 0) (hl : i + j < U.length) :
    TakeInv U V j q (C.set (i + j) ((x + 4294967296 - (q * y + c) % 4294967296 - b) % 4294967296)) (i + 1) ((q * y + c) / 4294967296) (bw x ((q * y + c) % 4294967296) b) := by
  have hxb := lim_get hU (i + j)
  have hyb := lim_get hV i
  rw [← hx] at hxb
  rw [← hy] at hyb
  have hb1 := h.b1
  have hc := (mul_carry hq hyb (show 0 < 4294967296 by decide) h.c1).2
  rw [Nat.add_zero] at hc
  refine ⟨by simp [h.len], by rw [take_set_lo _ _ _ _ (by omega)]; exact h.lo, fun k hk => by rw [List.getElem?_set_ne (by omega)]; exact h.hi k (by omega), ?_, hc, bw_le _ _ _⟩
  rw [win_set _ _ _ _ (by rw [h.len]; exact hl), win_succ, val_take_succ, ← hx, ← hy, Nat.pow_succ]
  refine take_step h.v ?_
  have : (q * y + c) % 4294967296 < 4294967296 := Nat.mod_lt _ (by decide)
  generalize (q * y + c) % 4294967296 = m at *
  unfold bw
  split <;> omega
theorem TakeInv.done {U V C : List Nat} {j q n c b x : Nat} (h : TakeInv U V j q C n c b) (hn : V.length = n) (hU : Lim U) (hx : x = U[n + j]?.getD 0) (hl : n + j < U.length) :
    (C.set (n + j) ((x + 4294967296 - c - b) % 4294967296)).length = U.length ∧ (C.set (n + j) ((x + 4294967296 - c - b) % 4294967296)).take j = U.take j ∧ (∀ k, n + 1 + j ≤ k → (C.set (n + j) ((x + 4294967296 - c - b) % 4294967296))[k]? = U[k]?) ∧
    win (C.set (n + j) ((x + 4294967296 - c - b) % 4294967296)) j (n + 1) + q * val V = win U j (n + 1) + 4294967296 ^ (n + 1) * bw x c b := by
  have hxb := lim_get hU (n + j)
  rw [← hx] at hxb
  have hb1 := h.b1
  have hc1 := h.c1
  refine ⟨by simp [h.len], by rw [take_set_lo _ _ _ _ (by omega)]; exact h.lo, fun k hk => by rw [List.getElem?_set_ne (by omega)]; exact h.hi k (by omega), ?_⟩
  rw [win_set _ _ _ _ (by rw [h.len]; exact hl), win_succ, ← hx, Nat.pow_succ]
  have hv := h.v
  rw [List.take_of_length_le (by omega)] at hv
  have hz : (x + 4294967296 - c - b) % 4294967296 + (c + b) = x + 4294967296 * bw x c b := by unfold bw; split <;> omega
  generalize (x + 4294967296 - c - b) % 4294967296 = z at *
  generalize 4294967296 ^ n = P at *
  have e : P * (z + (c + b)) = P * (x + 4294967296 * bw x c b) := by rw [hz]
  rw [Nat.mul_add, Nat.mul_add, Nat.mul_add, ← Nat.mul_assoc] at e
  rw [Nat.mul_add] at hv
  omega
structure GiveInv (U V : List Nat) (j : Nat) (C : List Nat) (i c : Nat) : Prop where
  len : C.length = U.length
  lo : C.take j = U.take j
  hi : ∀ k, i + j ≤ k → C[k]? = U[k]?
  v : win C j i + 4294967296 ^ i * c = win U j i + val (V.take i)
  c1 : c ≤ 1
theorem GiveInv.start (U V : List Nat) (j : Nat) : GiveInv U V j U 0 0 := ⟨rfl, rfl, fun _ _ => rfl, by simp [win, val], by decide⟩
theorem GiveInv.step {U V C : List Nat} {j i c x y : Nat} (h : GiveInv U V j C i c) (hU : Lim U) (hV : Lim V) (hx : x = U[i + j]?.getD 0) (hy : y = V[i]?.getD 0) (hl : i + j < U.length) :
    GiveInv U V j (C.set (i + j) ((x + y + c) % 4294967296)) (i + 1) ((x + y + c) / 4294967296) := by
  have hxb := lim_get hU (i + j)
  have hyb := lim_get hV i
  rw [← hx] at hxb
  rw [← hy] at hyb
  have hc := h.c1
  refine ⟨by simp [h.len], by rw [take_set_lo _ _ _ _ (by omega)]; exact h.lo, fun k hk => by rw [List.getElem?_set_ne (by omega)]; exact h.hi k (by omega), ?_, by omega⟩
  rw [win_set _ _ _ _ (by rw [h.len]; exact hl), win_succ, val_take_succ, ← hx, ← hy, Nat.pow_succ]
  exact add_step h.v
theorem GiveInv.done {U V C : List Nat} {j n c x : Nat} (h : GiveInv U V j C n c) (hn : V.length = n) (hx : x = U[n + j]?.getD 0) (hl : n + j < U.length) :
    (C.set (n + j) ((x + c) % 4294967296)).length = U.length ∧ (C.set (n + j) ((x + c) % 4294967296)).take j = U.take j ∧ (∀ k, n + 1 + j ≤ k → (C.set (n + j) ((x + c) % 4294967296))[k]? = U[k]?) ∧
    win (C.set (n + j) ((x + c) % 4294967296)) j (n + 1) + 4294967296 ^ (n + 1) * ((x + c) / 4294967296) = win U j (n + 1) + val V := by
  refine ⟨by simp [h.len], by rw [take_set_lo _ _ _ _ (by omega)]; exact h.lo, fun k hk => by rw [List.getElem?_set_ne (by omega)]; exact h.hi k (by omega), ?_⟩
  rw [win_set _ _ _ _ (by rw [h.len]; exact hl), win_succ, ← hx, Nat.pow_succ]
  have hv := h.v
  rw [List.take_of_length_le (by omega)] at hv
  have := add_step (x := x) (y := 0) hv
  simpa using this
structure Win (U V : List Nat) (j n : Nat) (C : List Nat) : Prop where
  len : C.length = U.length
  lo : C.take j = U.take j
  hi : ∀ k, n + 1 + j ≤ k → C[k]? = U[k]?
def TakeR (w : World) (B g cu : Nat) (U V : List Nat) (j q : Nat) (e : Ending) (w' : World) : Prop := ∃ C bo, e = .returned (.bool (decide (bo ≠ 0))) ∧ Win U V j V.length C ∧ win C j (V.length + 1) + q * val V = win U j (V.length + 1) + 4294967296 ^ (V.length + 1) * bo ∧ Nw w' B (some ⟨g, 0, none⟩) cu C ∧ Fr [g] w w'
set_option maxHeartbeats 2000000 in
set_option maxRecDepth 100000 in
theorem ltake_c (w : World) (g gv cu cv : Nat) (U V : List Nat) (hu : Nw w B (some ⟨g, 0, none⟩) cu U) (hv : Nw w B (some ⟨gv, 0, none⟩) cv V) (hne : gv ≠ g) (j q : Nat) (hq : q < 4294967296) (hj : V.length + j < U.length) :
    Calls Tryz.prog 130 #[.slice (some ⟨g, 0, none⟩) U.length cu, .slice (some ⟨gv, 0, none⟩) V.length cv, .int .i64 (j : Int), .int .u64 (q : Int)] w (TakeR w B g cu U V j q) := by
  have hsu := hu.sm
  have hg := hu.lt
  have HU := Lib.hid hu
  have HV := Lib.hid hv
  clear hu hv
  obtain ⟨n, hn⟩ : ∃ n, n = V.length := ⟨_, rfl⟩
  have HN := Lib.hid hn
  obtain ⟨lu, hlu⟩ : ∃ lu, lu = U.length := ⟨_, rfl⟩
  have HLU := Lib.hid hlu
  have D : Hid (∀ C bo w', Win U V j n C → win C j (n + 1) + q * val V = win U j (n + 1) + 4294967296 ^ (n + 1) * bo → Nw w' B (some ⟨g, 0, none⟩) cu C → Fr [g] w w' → TakeR w B g cu U V j q (.returned (.bool (decide (bo ≠ 0)))) w') := Lib.hid (fun C bo w' h1 h2 h3 h4 => ⟨C, bo, rfl, by rw [← hn]; exact h1, by rw [← hn]; exact h2, h3, h4⟩)
  rw [← hn] at hj ⊢
  rw [← hlu] at hsu hj ⊢
  clear hn hlu
  go_enter Tryz.func130, Tryz.ntmps130
  go_wp2_with fail
  go_loopw [17, 9, 10, 11, 12, 13] (fun s17 s9 s10 _ _ _ wr => ∃ (C : List Nat) (i c bo : Nat), i ≤ n ∧ s17 = .int .i64 (i : Int) ∧ s9 = .int .u64 (c : Int) ∧ s10 = .int .u32 (bo : Int) ∧ TakeInv U V j q C i c bo ∧ Hid (Nw wr B (some ⟨g, 0, none⟩) cu C) ∧ Hid (Fr [g] w wr)) (fun x _ _ _ _ _ _ => n - (intOf x).toNat)
  case atStart => exact ⟨U, 0, 0, 0, by omega, rfl, rfl, rfl, TakeInv.start U V j q, HU, Lib.hid (Fr.refl _ _)⟩
  case round =>
    obtain ⟨C, i, c, bo, hi, rfl, rfl, rfl, hT, hN, hF⟩ := hrel
    have hb1 := hT.b1
    have hc1 := hT.c1
    have HLEN : Hid (C.length = lu) := Lib.hid (by rw [hT.len, HLU.out])
    have zl := hN.out.lt.1
    by_cases hlt : i < n
    · have hp : i + j < C.length := by rw [HLEN.out]; omega
      have zc := hN.out.cell hp
      have fz := hN.out.free (i + j)
      rw [hT.hi (i + j) (Nat.le_refl _)] at zc
      have yc := ((HV.out.frg hF.out (by simpa using hne)).cell (i := i) (by rw [← HN.out]; exact hlt))
      have yl := (HV.out.frg hF.out (by simpa using hne)).lt.1
      have bx := lim_get HU.out.lim (i + j)
      have by_ := lim_get HV.out.lim i
      obtain ⟨x, hx⟩ : ∃ x, x = U[i + j]?.getD 0 := ⟨_, rfl⟩
      obtain ⟨y, hy⟩ : ∃ y, y = V[i]?.getD 0 := ⟨_, rfl⟩
      have TS := hT.step HU.out.lim HV.out.lim hq hx hy (by rw [← HLU.out]; omega)
      rw [← hx] at zc bx
      rw [← hy] at yc by_
      obtain ⟨P, hP⟩ : ∃ P : Nat, P = q * y := ⟨_, rfl⟩
      have hPb : P ≤ 18446744065119617025 := by rw [hP]; exact Nat.le_trans (Nat.mul_le_mul (show q ≤ 4294967295 by omega) (show y ≤ 4294967295 by omega)) (by decide)
      have hPI : (q : Int) * (y : Int) = (P : Int) := by rw [hP]; simp
      rw [← hP] at TS
      have q1 : ((P : Int) + c) % 4294967296 = (((P + c) % 4294967296 : Nat) : Int) := by omega
      have q2 : ((P : Int) + c) / 4294967296 = (((P + c) / 4294967296 : Nat) : Int) := by omega
      have hm : (P + c) % 4294967296 < 4294967296 := Nat.mod_lt _ (by decide)
      generalize (P + c) % 4294967296 = m at *
      generalize (P + c) / 4294967296 = c2 at *
      have CS := Lib.hid (fun W => sub32_c x m bo W bx hm hb1)
      have hz : (x + 4294967296 - m - bo) % 4294967296 < 4294967296 := Nat.mod_lt _ (by decide)
      generalize (x + 4294967296 - m - bo) % 4294967296 = z at *
      generalize bw x m bo = b2 at *
      have NS := Lib.hid (hN.out.set (i + j) z hz)
      have FS : Hid (Fr [g] w (wr.setCell ⟨g, i + j, none⟩ (.int .u32 (z : Int)))) := Lib.hid (hF.out.setCell (by simp) _)
      clear hx hy hP hT hN hF hp hz D
      go_wp2_with (go_at_call 160; refine (CS.out _).mono ?_; rintro e w' ⟨rfl, rfl⟩)
      go_roundw
      case rel => exact ⟨_, i + 1, c2, b2, by omega, by go_num, rfl, rfl, TS, NS, FS⟩
      case measure => simp [intOf]; omega
    · have hin : i = n := by omega
      subst hin
      have hp : i + j < C.length := by rw [HLEN.out]; omega
      have zc := hN.out.cell hp
      have fz := hN.out.free (i + j)
      rw [hT.hi (i + j) (Nat.le_refl _)] at zc
      have bx := lim_get HU.out.lim (i + j)
      obtain ⟨x, hx⟩ : ∃ x, x = U[i + j]?.getD 0 := ⟨_, rfl⟩
      have TD := Lib.hid (hT.done HN.out.symm HU.out.lim hx (by rw [← HLU.out]; omega))
      rw [← hx] at zc bx
      have CS := Lib.hid (fun W => sub32_c x c bo W bx hc1 hb1)
      have hz : (x + 4294967296 - c - bo) % 4294967296 < 4294967296 := Nat.mod_lt _ (by decide)
      generalize (x + 4294967296 - c - bo) % 4294967296 = z at *
      generalize bw x c bo = b2 at *
      rw [Nat.add_comm i j] at zc fz
      have E := Lib.hid (D.out (C.set (i + j) z) b2 (wr.setCell ⟨g, i + j, none⟩ (.int .u32 (z : Int))) ⟨TD.out.1, TD.out.2.1, TD.out.2.2.1⟩ TD.out.2.2.2 (hN.out.set (i + j) z hz) (hF.out.setCell (by simp) _))
      rw [Nat.add_comm i j] at E
      clear hx hT hN hF hp hz TD D
      go_wp2_with (go_at_call 160; refine (CS.out _).mono ?_; rintro e w' ⟨rfl, rfl⟩)
      go_ret
      have e0 : ((b2 : Int) != 0) = decide (b2 ≠ 0) := by rw [Bool.eq_iff_iff]; simp
      rw [← e0] at E
      exact E.out
def GiveR (w : World) (B g cu : Nat) (U V : List Nat) (j : Nat) (e : Ending) (w' : World) : Prop := ∃ C bo, e = .returned (.tuple #[]) ∧ Win U V j V.length C ∧ win C j (V.length + 1) + 4294967296 ^ (V.length + 1) * bo = win U j (V.length + 1) + val V ∧ Nw w' B (some ⟨g, 0, none⟩) cu C ∧ Fr [g] w w'
set_option maxHeartbeats 2000000 in
set_option maxRecDepth 100000 in
theorem lgive_c (w : World) (g gv cu cv : Nat) (U V : List Nat) (hu : Nw w B (some ⟨g, 0, none⟩) cu U) (hv : Nw w B (some ⟨gv, 0, none⟩) cv V) (hne : gv ≠ g) (j : Nat) (hj : V.length + j < U.length) :
    Calls Tryz.prog 131 #[.slice (some ⟨g, 0, none⟩) U.length cu, .slice (some ⟨gv, 0, none⟩) V.length cv, .int .i64 (j : Int)] w (GiveR w B g cu U V j) := by
  have hsu := hu.sm
  have hg := hu.lt
  have HU := Lib.hid hu
  have HV := Lib.hid hv
  clear hu hv
  obtain ⟨n, hn⟩ : ∃ n, n = V.length := ⟨_, rfl⟩
  have HN := Lib.hid hn
  obtain ⟨lu, hlu⟩ : ∃ lu, lu = U.length := ⟨_, rfl⟩
  have HLU := Lib.hid hlu
  have D : Hid (∀ C bo w', Win U V j n C → win C j (n + 1) + 4294967296 ^ (n + 1) * bo = win U j (n + 1) + val V → Nw w' B (some ⟨g, 0, none⟩) cu C → Fr [g] w w' → GiveR w B g cu U V j (.returned (.tuple #[])) w') := Lib.hid (fun C bo w' h1 h2 h3 h4 => ⟨C, bo, rfl, by rw [← hn]; exact h1, by rw [← hn]; exact h2, h3, h4⟩)
  rw [← hn] at hj ⊢
  rw [← hlu] at hsu hj ⊢
  clear hn hlu
  go_enter Tryz.func131, Tryz.ntmps131
  go_wp2_with fail
  go_loopw [11, 6, 7, 8] (fun s11 s6 _ _ wr => ∃ (C : List Nat) (i c : Nat), i ≤ n ∧ s11 = .int .i64 (i : Int) ∧ s6 = .int .u32 (c : Int) ∧ GiveInv U V j C i c ∧ Hid (Nw wr B (some ⟨g, 0, none⟩) cu C) ∧ Hid (Fr [g] w wr)) (fun x _ _ _ _ => n - (intOf x).toNat)
  case atStart => exact ⟨U, 0, 0, by omega, rfl, rfl, GiveInv.start U V j, HU, Lib.hid (Fr.refl _ _)⟩
  case round =>
    obtain ⟨C, i, c, hi, rfl, rfl, hT, hN, hF⟩ := hrel
    have hc1 := hT.c1
    have HLEN : Hid (C.length = lu) := Lib.hid (by rw [hT.len, HLU.out])
    have zl := hN.out.lt.1
    by_cases hlt : i < n
    · have hp : i + j < C.length := by rw [HLEN.out]; omega
      have zc := hN.out.cell hp
      have fz := hN.out.free (i + j)
      rw [hT.hi (i + j) (Nat.le_refl _)] at zc
      have yc := ((HV.out.frg hF.out (by simpa using hne)).cell (i := i) (by rw [← HN.out]; exact hlt))
      have yl := (HV.out.frg hF.out (by simpa using hne)).lt.1
      have bx := lim_get HU.out.lim (i + j)
      have by_ := lim_get HV.out.lim i
      obtain ⟨x, hx⟩ : ∃ x, x = U[i + j]?.getD 0 := ⟨_, rfl⟩
      obtain ⟨y, hy⟩ : ∃ y, y = V[i]?.getD 0 := ⟨_, rfl⟩
      have TS := hT.step HU.out.lim HV.out.lim hx hy (by rw [← HLU.out]; omega)
      rw [← hx] at zc bx
      rw [← hy] at yc by_
      have CS := Lib.hid (fun W => add32_c x y c W bx by_ hc1)
      have hz : (x + y + c) % 4294967296 < 4294967296 := Nat.mod_lt _ (by decide)
      generalize (x + y + c) % 4294967296 = z at *
      generalize (x + y + c) / 4294967296 = c2 at *
      have NS := Lib.hid (hN.out.set (i + j) z hz)
      have FS : Hid (Fr [g] w (wr.setCell ⟨g, i + j, none⟩ (.int .u32 (z : Int)))) := Lib.hid (hF.out.setCell (by simp) _)
      clear hx hy hT hN hF hp hz D
      go_wp2_with (go_at_call 97; refine (CS.out _).mono ?_; rintro e w' ⟨rfl, rfl⟩)
      go_roundw
      case rel => exact ⟨_, i + 1, c2, by omega, by go_num, rfl, TS, NS, FS⟩
      case measure => simp [intOf]; omega
    · have hin : i = n := by omega
      subst hin
      have hp : i + j < C.length := by rw [HLEN.out]; omega
      have zc := hN.out.cell hp
      have fz := hN.out.free (i + j)
      rw [hT.hi (i + j) (Nat.le_refl _)] at zc
      have bx := lim_get HU.out.lim (i + j)
      obtain ⟨x, hx⟩ : ∃ x, x = U[i + j]?.getD 0 := ⟨_, rfl⟩
      have TD := Lib.hid (hT.done HN.out.symm hx (by rw [← HLU.out]; omega))
      rw [← hx] at zc bx
      have q1 : ((x : Int) + c) % 4294967296 = (((x + c) % 4294967296 : Nat) : Int) := by omega
      have hz : (x + c) % 4294967296 < 4294967296 := Nat.mod_lt _ (by decide)
      generalize (x + c) % 4294967296 = z at *
      generalize (x + c) / 4294967296 = b2 at *
      rw [Nat.add_comm i j] at zc fz
      have E := Lib.hid (D.out (C.set (i + j) z) b2 (wr.setCell ⟨g, i + j, none⟩ (.int .u32 (z : Int))) ⟨TD.out.1, TD.out.2.1, TD.out.2.2.1⟩ TD.out.2.2.2 (hN.out.set (i + j) z hz) (hF.out.setCell (by simp) _))
      rw [Nat.add_comm i j] at E
      clear hx hT hN hF hp hz TD D
      go_wp2
      go_end0
      exact E.out
end
section
theorem bitLen_bounds (x : Nat) (h0 : x ≠ 0) (h : x < 2 ^ 64) : 1 ≤ Lib.bitLen x ∧ 2 ^ (Lib.bitLen x - 1) ≤ x ∧ x < 2 ^ Lib.bitLen x := by
  induction x using Nat.strongRecOn with
  | _ x ih =>
    rw [Lib.bitLen_half x h0 h]
    by_cases h1 : x / 2 = 0
    · have hx : x = 1 := by omega
      subst hx
      decide
    · obtain ⟨i1, i2, i3⟩ := ih (x / 2) (by omega) h1 (by omega)
      refine ⟨by omega, ?_, ?_⟩
      · rw [show 1 + Lib.bitLen (x / 2) - 1 = (Lib.bitLen (x / 2) - 1) + 1 by omega, Nat.pow_succ]; omega
      · rw [Nat.add_comm, Nat.pow_succ]; omega
theorem lz_bounds (x : Nat) (h0 : x ≠ 0) (h : x < 4294967296) : ∃ s : Nat, (32 - (Lib.bitLen x : Int)) = (s : Int) ∧ s < 32 ∧ 2147483648 ≤ x * 2 ^ s ∧ x * 2 ^ s < 4294967296 := by
  obtain ⟨h1, h2, h3⟩ := bitLen_bounds x h0 (by omega)
  have h4 : Lib.bitLen x ≤ 32 := by
    rcases Nat.lt_or_ge 32 (Lib.bitLen x) with h5 | h5
    · have : 2 ^ 32 ≤ 2 ^ (Lib.bitLen x - 1) := Nat.pow_le_pow_right (by decide) (by omega)
      omega
    · exact h5
  refine ⟨32 - Lib.bitLen x, by omega, by omega, ?_, ?_⟩
  · have : 2 ^ (Lib.bitLen x - 1) * 2 ^ (32 - Lib.bitLen x) = 2 ^ 31 := by rw [← Nat.pow_add]; congr 1; omega
    have h5 : 2 ^ (Lib.bitLen x - 1) * 2 ^ (32 - Lib.bitLen x) ≤ x * 2 ^ (32 - Lib.bitLen x) := Nat.mul_le_mul_right _ h2
    omega
  · have : 2 ^ Lib.bitLen x * 2 ^ (32 - Lib.bitLen x) = 2 ^ 32 := by rw [← Nat.pow_add]; congr 1; omega
    have h5 : x * 2 ^ (32 - Lib.bitLen x) < 2 ^ Lib.bitLen x * 2 ^ (32 - Lib.bitLen x) := Nat.mul_lt_mul_of_pos_right h3 (Nat.pow_pos (by decide))
    omega
structure LongInv (A V : Nat) (O C : List Nat) (k : Nat) : Prop where
  v : A = val (O.drop k) * (4294967296 ^ k * V) + val C
  lt : val (C.drop k) < V
theorem zero_of_lt {V P X Y l : Nat} (h1 : X < V) (hV : V < P) (h2 : X = l + P * Y) : Y = 0 := by
  rcases Nat.eq_zero_or_pos Y with h0 | h0
  · exact h0
  · have : P * 1 ≤ P * Y := Nat.mul_le_mul_left _ h0
    omega
theorem window_lt {x X V : Nat} (h5 : x < 4294967296) (h1 : X < V) : x + 4294967296 * X < V * 4294967296 := by
  have h6 : (X + 1) * 4294967296 ≤ V * 4294967296 := Nat.mul_le_mul_right _ h1
  omega
theorem LongInv.window {A V : Nat} {O C : List Nat} {j n : Nat} (h : LongInv A V O C (j + 1)) (hC : Lim C) (hV : V < 4294967296 ^ n) :
    val (C.drop j) = win C j (n + 1) ∧ win C j (n + 1) < V * 4294967296 ∧ val (C.drop (j + (n + 1))) = 0 := by
  have h2 := val_take_drop (C.drop (j + 1)) n
  rw [List.drop_drop] at h2
  have h3 : val (C.drop (j + 1 + n)) = 0 := zero_of_lt h.lt hV h2
  have e : val (C.drop j) = win C j (n + 1) := by
    have h4 := val_take_drop (C.drop j) (n + 1)
    rw [List.drop_drop, show j + (n + 1) = j + 1 + n from Nat.add_right_comm j n 1 ▸ rfl, h3, Nat.mul_zero, Nat.add_zero] at h4
    exact h4
  refine ⟨e, ?_, by rw [show j + (n + 1) = j + 1 + n from Nat.add_right_comm j n 1 ▸ rfl]; exact h3⟩
  rw [← e, val_drop C j]
  exact window_lt (lim_get hC j) h.lt
theorem drop_eq_of_get {C D : List Nat} {k : Nat} (h : ∀ i, k ≤ i → C[i]? = D[i]?) : C.drop k = D.drop k := by
  apply List.ext_getElem?
  intro i
  rw [List.getElem?_drop, List.getElem?_drop]
  exact h _ (by omega)
theorem LongInv.next {A V : Nat} {O C D : List Nat} {j n : Nat} (h : LongInv A V O C (j + 1)) (hC : Lim C) (hV : V < 4294967296 ^ n) (hV0 : 0 < V) (hO : j < O.length) (hlo : D.take j = C.take j)
    (hhi : ∀ k, n + 1 + j ≤ k → D[k]? = C[k]?) (hw : win D j (n + 1) = win C j (n + 1) % V) : LongInv A V (O.set j (win C j (n + 1) / V)) D j := by
  obtain ⟨w1, w2, w3⟩ := h.window hC hV
  have hd : D.drop (j + (n + 1)) = C.drop (j + (n + 1)) := drop_eq_of_get fun i hi => hhi i (by omega)
  have hD : val (D.drop j) = win C j (n + 1) % V := by
    have h4 := val_take_drop (D.drop j) (n + 1)
    rw [List.drop_drop, hd, w3, Nat.mul_zero, Nat.add_zero] at h4
    rw [h4]; exact hw
  refine ⟨?_, by rw [hD]; exact Nat.mod_lt _ hV0⟩
  rw [h.v, val_drop (O.set j _) j, List.getElem?_set_self hO, drop_set_succ]
  simp only [Option.getD_some]
  rw [val_take_drop C j, val_take_drop D j, hlo, hD, w1]
  have e := Nat.div_add_mod (win C j (n + 1)) V
  generalize win C j (n + 1) / V = Q at *
  generalize win C j (n + 1) % V = r at *
  rw [← e]
  generalize val (O.drop (j + 1)) = X at *
  rw [Nat.pow_succ]
  generalize 4294967296 ^ j = P at *
  have e1 : X * (P * 4294967296 * V) = 4294967296 * X * (P * V) := by
    rw [Nat.mul_assoc P, Nat.mul_left_comm P, ← Nat.mul_assoc X, Nat.mul_comm X 4294967296]
  have e2 : P * (V * Q + r) = Q * (P * V) + P * r := by
    rw [Nat.mul_add, ← Nat.mul_assoc, Nat.mul_comm (P * V) Q]
  rw [e1, e2, Nat.add_mul]
  omega
theorem win_top (C : List Nat) (j n : Nat) : win C j (n + 3) = 4294967296 ^ n * ((C[n + 2 + j]?.getD 0 * 4294967296 + C[n + 1 + j]?.getD 0) * 4294967296 + C[n + j]?.getD 0) + win C j n := by
  rw [win_succ, win_succ, win_succ]
  simp only [Nat.pow_succ]
  generalize 4294967296 ^ n = P
  generalize C[n + 2 + j]?.getD 0 = x
  generalize C[n + 1 + j]?.getD 0 = y
  generalize C[n + j]?.getD 0 = z
  rw [Nat.mul_add, Nat.add_mul, Nat.mul_add]
  have e1 : P * (x * 4294967296 * 4294967296) = P * 4294967296 * 4294967296 * x := by
    rw [Nat.mul_assoc x, Nat.mul_comm x, ← Nat.mul_assoc, ← Nat.mul_assoc]
  have e2 : P * (y * 4294967296) = P * 4294967296 * y := by rw [Nat.mul_comm y, ← Nat.mul_assoc]
  rw [e1, e2]
  omega
theorem val_top (V : List Nat) (n : Nat) (h : V.length = n + 2) : val V = 4294967296 ^ n * (V[n + 1]?.getD 0 * 4294967296 + V[n]?.getD 0) + val (V.take n) := by
  have h1 := val_take_succ V (n + 1)
  rw [List.take_of_length_le (by omega), val_take_succ V n, Nat.pow_succ] at h1
  rw [h1]
  generalize 4294967296 ^ n = P
  generalize V[n + 1]?.getD 0 = y
  generalize V[n]?.getD 0 = z
  rw [Nat.mul_add]
  have e2 : P * (y * 4294967296) = P * 4294967296 * y := by rw [Nat.mul_comm y, ← Nat.mul_assoc]
  rw [e2]
  omega
theorem guess_serves {C V : List Nat} {j n q : Nat} (hV : Lim V) (hC : Lim C) (hn : V.length = n + 2) (hw : win C j (n + 3) < val V * 4294967296) (h1 : 0 < V[n + 1]?.getD 0) (hlen : n + j ≤ C.length)
    (h : GuessOk (C[n + 2 + j]?.getD 0 * 4294967296 + C[n + 1 + j]?.getD 0) (C[n + j]?.getD 0) (V[n + 1]?.getD 0) (V[n]?.getD 0) q) :
    win C j (n + 3) / val V ≤ q ∧ q ≤ win C j (n + 3) / val V + 1 := by
  rw [win_top, val_top V n hn] at hw ⊢
  have b1 : win C j n < 4294967296 ^ n := by
    unfold win
    have := val_lt (lim_take (lim_drop hC j) n)
    rwa [show ((C.drop j).take n).length = n by simp; omega] at this
  have b2 : val (V.take n) < 4294967296 ^ n := by
    have := val_lt (lim_take hV n)
    rwa [show (V.take n).length = n by simp; omega] at this
  exact guess_bounds b1 b2 h.le h.mx h.lt (by omega) hw
theorem top_le {C V : List Nat} {j n : Nat} (hV : Lim V) (hn : V.length = n + 2) (hw : win C j (n + 3) < val V * 4294967296) : C[n + 2 + j]?.getD 0 ≤ V[n + 1]?.getD 0 := by
  rw [win_top, val_top V n hn] at hw
  have b2 : val (V.take n) < 4294967296 ^ n := by
    have := val_lt (lim_take hV n)
    rwa [show (V.take n).length = n by simp; omega] at this
  have b3 := lim_get hV n
  generalize C[n + 2 + j]?.getD 0 = x at *
  generalize C[n + 1 + j]?.getD 0 = y at *
  generalize C[n + j]?.getD 0 = z at *
  generalize V[n + 1]?.getD 0 = v1 at *
  generalize V[n]?.getD 0 = v2 at *
  generalize val (V.take n) = t at *
  generalize win C j n = u at *
  have h2 : 4294967296 ^ n * ((x * 4294967296 + y) * 4294967296 + z) < 4294967296 ^ n * ((v1 * 4294967296 + v2 + 1) * 4294967296) := by
    have e : 4294967296 ^ n * ((v1 * 4294967296 + v2 + 1) * 4294967296) = (4294967296 ^ n * (v1 * 4294967296 + v2) + 4294967296 ^ n) * 4294967296 := by
      rw [← Nat.mul_assoc, Nat.mul_add (4294967296 ^ n) (v1 * 4294967296 + v2) 1, Nat.mul_one]
    rw [e]
    omega
  have := Nat.lt_of_mul_lt_mul_left h2
  omega
theorem lims_ge {m l : Nat} (h : (lims m).length = l + 1) : 4294967296 ^ l ≤ m := by
  rcases Nat.lt_or_ge m (4294967296 ^ l) with h1 | h1
  · have := len_lims.2 h1; omega
  · exact h1
theorem lims_top {m l : Nat} (h : (lims m).length = l + 1) : 4294967296 ^ l * (lims m)[l]?.getD 0 ≤ m ∧ m < 4294967296 ^ l * ((lims m)[l]?.getD 0 + 1) := by
  have h1 := val_take_succ (lims m) l
  rw [List.take_of_length_le (by omega), val_lims] at h1
  have h2 := val_lt (lim_take (lim_lims m) l)
  rw [show ((lims m).take l).length = l by simp; omega] at h2
  rw [Nat.mul_add, Nat.mul_one]
  omega
theorem shift_top {m l s x : Nat} (hl : (lims m).length = l + 2) (hx : x = (lims m)[l + 1]?.getD 0) (hs : s < 32) (h2 : 2147483648 ≤ x * 2 ^ s) (h3 : x * 2 ^ s < 4294967296) :
    4294967296 ^ (l + 1) * 2147483648 ≤ m * 2 ^ s ∧ m * 2 ^ s < 4294967296 ^ (l + 2) := by
  obtain ⟨t1, t2⟩ := lims_top (m := m) (l := l + 1) (by omega)
  rw [← hx] at t1 t2
  have hp : 0 < 2 ^ s := Nat.pow_pos (by decide)
  have hpq : 2 ^ s * 2 ^ (32 - s) = 4294967296 := by rw [← Nat.pow_add, show s + (32 - s) = 32 by omega]
  generalize 2 ^ s = p at *
  generalize 2 ^ (32 - s) = q at *
  have hxq : x < q := by
    rw [← hpq, Nat.mul_comm x] at h3
    exact Nat.lt_of_mul_lt_mul_left h3
  have hx1 : (x + 1) * p ≤ 4294967296 := by
    rw [← hpq, Nat.mul_comm p q]; exact Nat.mul_le_mul_right _ hxq
  rw [show l + 2 = (l + 1) + 1 from rfl, Nat.pow_succ 4294967296 (l + 1)]
  generalize 4294967296 ^ (l + 1) = P at *
  constructor
  · have e1 : P * 2147483648 ≤ P * (x * p) := Nat.mul_le_mul_left _ h2
    have e2 : P * x * p ≤ m * p := Nat.mul_le_mul_right _ t1
    rw [Nat.mul_assoc] at e2
    omega
  · have e1 : m * p < P * (x + 1) * p := Nat.mul_lt_mul_of_pos_right t2 hp
    have e2 : P * ((x + 1) * p) ≤ P * 4294967296 := Nat.mul_le_mul_left _ hx1
    rw [Nat.mul_assoc] at e1
    omega
theorem val_cut {V0 : List Nat} {l N : Nat} (hv : val V0 = N) (hN : N < 4294967296 ^ l) : val (V0.take l) = N := by
  have h1 := val_take_drop V0 l
  have h2 : val (V0.drop l) = 0 := by
    rcases Nat.eq_zero_or_pos (val (V0.drop l)) with h0 | h0
    · exact h0
    · have : 4294967296 ^ l * 1 ≤ 4294967296 ^ l * val (V0.drop l) := Nat.mul_le_mul_left _ h0
      omega
  rw [h2, Nat.mul_zero] at h1
  omega
theorem top_ge {V : List Nat} {l : Nat} (hV : Lim V) (hl : V.length = l + 1) (h : 4294967296 ^ l * 2147483648 ≤ val V) : 2147483648 ≤ V[l]?.getD 0 := by
  have h1 := val_take_succ V l
  rw [List.take_of_length_le (by omega)] at h1
  have h2 := val_lt (lim_take hV l)
  rw [show (V.take l).length = l by simp; omega] at h2
  generalize V[l]?.getD 0 = t at *
  have h3 : 4294967296 ^ l * 2147483648 < 4294967296 ^ l * (t + 1) := by rw [Nat.mul_add, Nat.mul_one]; omega
  have := Nat.lt_of_mul_lt_mul_left h3
  omega
theorem LongInv.start {n m l p : Nat} {U : List Nat} (hla : l + 2 ≤ (lims n).length) (hlb : (lims m).length = l + 2) (hp : 0 < p) (hU : val U = n * p) :
    LongInv (n * p) (m * p) (nils ((lims n).length - (l + 2) + 1)) U ((lims n).length - (l + 2) + 1) := by
  refine ⟨by rw [List.drop_of_length_le (by rw [len_nils]; exact Nat.le_refl _), hU]; simp [val], ?_⟩
  have h1 := val_take_drop U ((lims n).length - (l + 2) + 1)
  rw [hU] at h1
  have h2 : n < 4294967296 ^ (lims n).length := len_lims.1 (Nat.le_refl _)
  have h3 := lims_ge (m := m) (l := l + 1) (by omega)
  have h4 : 4294967296 ^ (lims n).length = 4294967296 ^ ((lims n).length - (l + 2) + 1) * 4294967296 ^ (l + 1) := by rw [← Nat.pow_add]; congr 1; omega
  rw [h4] at h2
  generalize 4294967296 ^ ((lims n).length - (l + 2) + 1) = P at *
  generalize 4294967296 ^ (l + 1) = Q at *
  have h5 : P * Q ≤ P * m := Nat.mul_le_mul_left _ h3
  have h6 : n * p < P * m * p := Nat.mul_lt_mul_of_pos_right (by omega) hp
  rw [Nat.mul_assoc] at h6
  have h7 : P * val (U.drop ((lims n).length - (l + 2) + 1)) < P * (m * p) := by omega
  exact Nat.lt_of_mul_lt_mul_left h7
theorem LongInv.done {n m p : Nat} {O C : List Nat} (h : LongInv (n * p) (m * p) O C 0) (hp : 0 < p) : val O = n / m ∧ val C / p = n % m ∧ val C < m * p := by
  have h1 := h.v
  have h2 := h.lt
  simp only [List.drop_zero, Nat.pow_zero, Nat.one_mul] at h1 h2
  obtain ⟨h3, h4⟩ := long_end hp h1 h2
  exact ⟨h3, h4, h2⟩
theorem given_back {W W1 W2 V Bn b b2 : Nat} (h1 : W1 + V = W % V + Bn * b) (h2 : W2 + Bn * b2 = W1 + V) (hW2 : W2 < Bn) (hV : 0 < V) (hVB : V ≤ Bn) : W2 = W % V := by
  have hm := Nat.mod_lt W hV
  rw [h1] at h2
  generalize W % V = r at *
  have hr : r < Bn := by omega
  rcases Nat.lt_trichotomy b b2 with hb | hb | hb
  · have : Bn * (b + 1) ≤ Bn * b2 := Nat.mul_le_mul_left _ hb
    rw [Nat.mul_add, Nat.mul_one] at this
    omega
  · subst hb; omega
  · have : Bn * (b2 + 1) ≤ Bn * b := Nat.mul_le_mul_left _ hb
    rw [Nat.mul_add, Nat.mul_one] at this
    omega
theorem win_lt {C : List Nat} {j n : Nat} (hC : Lim C) (h : n + j ≤ C.length) : win C j n < 4294967296 ^ n := by
  unfold win
  have := val_lt (lim_take (lim_drop hC j) n)
  rwa [show ((C.drop j).take n).length = n by simp; omega] at this
end
end Go.Proofs.YtcjkgnafpkkjmaaGreatDoor
