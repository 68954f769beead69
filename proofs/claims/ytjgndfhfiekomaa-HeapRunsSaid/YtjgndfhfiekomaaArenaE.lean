/- The arena: the search for a hole, and for an empty block. -/
import Derived.Test.YtjgndfhfiekomaaArenaD
set_option linter.all false
namespace Go.Proofs.Ytjgndfhfiekomaa
open Go.ChangeShapes Go.WideShapes Go.RowKit
variable {w : World} {b wb lb : Nat} {A : Ar}
/-- The first hole from a line on that has so many lines. -/
def findF (l : List (Bool × Bool)) (many : Int) : Nat → Nat → Option (Nat × Nat)
  | 0, _ => none
  | fuel + 1, i => if i < l.length then if many ≤ (hole l i : Int) - i then some (i, hole l i) else findF l many fuel (max (hole l i) (i + 1)) else none
def find (l : List (Bool × Bool)) (from_ : Nat) (many : Int) : Option (Nat × Nat) := findF l many (l.length - from_) from_
theorem findF_fuel (l : List (Bool × Bool)) (many : Int) (f g i : Nat) (hf : l.length - i ≤ f) (hg : l.length - i ≤ g) : findF l many f i = findF l many g i := by
  induction f generalizing g i with
  | zero =>
    cases g with
    | zero => rfl
    | succ g => simp only [findF]; rw [if_neg (by omega)]
  | succ f ih =>
    cases g with
    | zero => simp only [findF]; rw [if_neg (by omega)]
    | succ g =>
      simp only [findF]
      by_cases h : i < l.length
      · rw [if_pos h, if_pos h]
        split
        · rfl
        · exact ih g _ (by omega) (by omega)
      · rw [if_neg h, if_neg h]
theorem find_end (l : List (Bool × Bool)) (i : Nat) (many : Int) (h : l.length ≤ i) : find l i many = none := by
  unfold find; rw [show l.length - i = 0 by omega]; rfl
theorem find_yes (l : List (Bool × Bool)) (i : Nat) (many : Int) (h : i < l.length) (hm : many ≤ (hole l i : Int) - i) : find l i many = some (i, hole l i) := by
  unfold find; obtain ⟨f, hf⟩ : ∃ f, l.length - i = f + 1 := ⟨l.length - i - 1, by omega⟩
  rw [hf]; simp only [findF]; rw [if_pos h, if_pos hm]
theorem find_next (l : List (Bool × Bool)) (i : Nat) (many : Int) (h : i < l.length) (hm : ¬ many ≤ (hole l i : Int) - i) : find l i many = find l (max (hole l i) (i + 1)) many := by
  unfold find; obtain ⟨f, hf⟩ : ∃ f, l.length - i = f + 1 := ⟨l.length - i - 1, by omega⟩
  rw [hf]; simp only [findF]; rw [if_pos h, if_neg hm]
  exact findF_fuel l many _ _ _ (by omega) (by omega)
def findVal : Option (Nat × Nat) → Value
  | some (i, k) => .tuple #[.int .i64 i, .int .i64 k, .bool true]
  | none => .tuple #[.int .i64 0, .int .i64 0, .bool false]
theorem find_c (w : World) {m : Nat} (hA : ArAt w b wb lb A) (ok : A.Ok m) (f : Nat) (many : Int) (hf : f ≤ m * 16) (hm1 : 1 ≤ many) (hm2 : many ≤ 1048576) :
    Calls Try.prog 121 #[.pointer (some ⟨b, 0, none⟩), .int .i64 (f : Int), .int .i64 many] w fun e w' => e = .returned (findVal (find A.lines f many)) ∧ w = w' := by
  have h1 := ok.m1
  have h2 := ok.m2
  have hll := Lib.hid ok.ll
  have c1 := hA.c1
  rw [ok.ll] at c1
  have CH := Lib.hid (fun k hk => hole_c w hA ok k hk)
  clear hA ok
  go_enter Try.func121, Try.ntmps121
  go_wp2
  go_loop [9] (fun x => ∃ k : Nat, k ≤ m * 16 ∧ x = .int .i64 k ∧ Hid (find A.lines f many = find A.lines k many)) (fun x => m * 16 - (intOf x).toNat)
  case atStart => exact ⟨f, hf, rfl, Lib.hid rfl⟩
  case round =>
    obtain ⟨k, hk, rfl, hE⟩ := hrel
    by_cases hlt : k < m * 16
    · have hl := hole_le A.lines k (by rw [hll.out]; exact hk)
      rw [hll.out] at hl
      have CK := Lib.hid (CH.out k hk)
      obtain ⟨H, hH⟩ : ∃ H, H = hole A.lines k := ⟨_, rfl⟩
      have HH := Lib.hid hH
      rw [← hH] at CK hl
      clear hH
      by_cases hyes : many ≤ (H : Int) - k
      · have hfin : find A.lines f many = some (k, H) := by
          rw [hE.out, find_yes A.lines k many (by rw [hll.out]; exact hlt) (by rw [← HH.out]; exact hyes), ← HH.out]
        have hf2 := Lib.hid hfin
        clear hfin
        go_wp2_with (go_at_call 146; refine CK.out.mono ?_; rintro e w' ⟨rfl, rfl⟩)
        go_ret3
        rw [hf2.out]
        exact ⟨rfl, rfl⟩
      · have hfin : find A.lines f many = find A.lines (max H (k + 1)) many := by
          rw [hE.out, find_next A.lines k many (by rw [hll.out]; exact hlt) (by rw [← HH.out]; exact hyes), ← HH.out]
        have hf2 := Lib.hid hfin
        clear hfin
        by_cases hkH : k + 1 ≤ H
        · rw [show max H (k + 1) = H from by omega] at hf2
          go_wp2_with (go_at_call 146; refine CK.out.mono ?_; rintro e w' ⟨rfl, rfl⟩)
          go_round
          case rel => exact ⟨H, by omega, rfl, hf2⟩
          case measure => simp [intOf]; omega
        · rw [show max H (k + 1) = k + 1 from by omega] at hf2
          go_wp2_with (go_at_call 146; refine CK.out.mono ?_; rintro e w' ⟨rfl, rfl⟩)
          go_round
          case rel => exact ⟨k + 1, by omega, by go_num, hf2⟩
          case measure => simp [intOf]; omega
    · have hfin : find A.lines f many = none := by
        rw [hE.out, find_end A.lines k many (by rw [hll.out]; omega)]
      have hf2 := Lib.hid hfin
      clear hfin
      go_wp2
      go_ret3
      rw [hf2.out]
      exact ⟨rfl, rfl⟩
/-- The last of so many blocks that is empty. -/
def blockBelow (l : List (Bool × Bool)) : Nat → Option Nat
  | 0 => none
  | q + 1 => if freeOf l q = 16 then some q else blockBelow l q
def blockVal : Option Nat → Value
  | some q => .tuple #[.int .i64 ((q : Int) * 16), .int .i64 (((q : Int) + 1) * 16), .bool true]
  | none => .tuple #[.int .i64 0, .int .i64 0, .bool false]
theorem blockBelow_lt (l : List (Bool × Bool)) (n q : Nat) (h : blockBelow l n = some q) : q < n ∧ freeOf l q = 16 := by
  induction n with
  | zero => simp [blockBelow] at h
  | succ n ih =>
    simp only [blockBelow] at h
    split at h
    · simp at h; subst h; exact ⟨by omega, by assumption⟩
    · have := ih h; exact ⟨by omega, this.2⟩
theorem block_c (w : World) {m : Nat} (hA : ArAt w b wb lb A) (ok : A.Ok m) :
    Calls Try.prog 128 #[.pointer (some ⟨b, 0, none⟩)] w fun e w' => e = .returned (blockVal (blockBelow A.lines m)) ∧ Fr [] w w' := by
  have h1 := ok.m1
  have h2 := ok.m2
  have CB := Lib.hid (blocks_c w hA ok)
  have CF : Hid (∀ w', Fr [] w w' → ∀ q, q < m → _) := Lib.hid (fun w' (hF : Fr [] w w') q hq => free_yes w' (hA.fr hF (by simp) (by simp) (by simp)) ok q hq)
  clear hA ok
  go_enter Try.func128, Try.ntmps128
  go_wp2_with (go_at_call 84; refine CB.out.mono ?_; rintro e w' ⟨rfl, rfl⟩)
  go_loopw [5] (fun x wr => ∃ k : Nat, k ≤ m ∧ x = .int .i64 ((k : Int) - 1) ∧ Hid (blockBelow A.lines m = blockBelow A.lines k) ∧ Fr [] w wr) (fun x _ => (intOf x + 1).toNat)
  case atStart => exact ⟨m, Nat.le_refl _, rfl, Lib.hid rfl, Fr.refl _ _⟩
  case round =>
    obtain ⟨k, hk, rfl, hE, hF⟩ := hrel
    by_cases hz : k = 0
    · subst hz
      have hE2 : Hid (blockBelow A.lines m = none) := Lib.hid (by rw [hE.out]; rfl)
      clear hE
      go_wp2
      go_ret3
      rw [hE2.out]
      exact ⟨rfl, hF⟩
    · obtain ⟨q, rfl⟩ : ∃ q, k = q + 1 := ⟨k - 1, by omega⟩
      have CQ := Lib.hid (CF.out wr hF q (by omega))
      have he : blockBelow A.lines (q + 1) = if freeOf A.lines q = 16 then some q else blockBelow A.lines q := rfl
      rw [show ((q + 1 : Nat) : Int) - 1 = (q : Int) from by omega]
      by_cases h16 : freeOf A.lines q = 16
      · rw [if_pos h16] at he
        have hE2 : Hid (blockBelow A.lines m = some q) := Lib.hid (by rw [hE.out, he])
        rw [h16] at CQ
        clear he hE h16
        go_wp2_with (go_at_call 85; refine CQ.out.mono ?_; rintro e w' ⟨rfl, hF2⟩)
        go_ret3
        rw [hE2.out]
        exact ⟨rfl, hF.same hF2⟩
      · rw [if_neg h16] at he
        have hE2 : Hid (blockBelow A.lines m = blockBelow A.lines q) := Lib.hid (by rw [hE.out, he])
        have hb : ((freeOf A.lines q : Int) == 16) = false := by simp; omega
        clear he hE h16
        go_wp2_with (go_at_call 85; refine CQ.out.mono ?_; rintro e w' ⟨rfl, hF2⟩)
        go_roundw
        case rel => exact ⟨q, by omega, rfl, hE2, hF.same hF2⟩
        case measure => simp [intOf]
end Go.Proofs.Ytjgndfhfiekomaa
