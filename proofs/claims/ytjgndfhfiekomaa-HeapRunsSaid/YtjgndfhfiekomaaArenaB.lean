/- The arena: its inner functions (runs, holes, claims, counts). -/
import Derived.Test.YtjgndfhfiekomaaArena
import Derived.LoopTactic
import Derived.Deep.LoopGhost
set_option linter.all false
namespace Go.Proofs.Ytjgndfhfiekomaa
open Go.ChangeShapes Go.WideShapes Go.RowKit
variable {w : World} {b wb lb : Nat} {A : Ar}
/-- The run that begins at cell o of block b: so many words off its beginning. -/
theorem take_yes (w : World) (b o : Nat) (f t n : Int) (h0 : w.cell? ⟨b, o, none⟩ = some (.int .i64 f)) (h1 : w.cell? ⟨b, o + 1, none⟩ = some (.int .i64 t)) (hf : w.frozen? ⟨b, o, none⟩ = false)
    (b0 : 0 ≤ f) (b1 : f ≤ 1048576) (b2 : 0 ≤ t) (b3 : t ≤ 1048576) (b4 : 0 ≤ n) (b5 : n ≤ 1048576) (hn : n ≤ t - f) :
    Calls Try.prog 120 #[.pointer (some ⟨b, o, none⟩), .int .i64 n] w fun e w' => e = .returned (.tuple #[.int .i64 f, .bool true]) ∧ w' = (w.setCell ⟨b, o, none⟩ (.int .i64 (f + n))).drew := by
  go_enter Try.func120, Try.ntmps120
  go_wp2
  go_region
  go_wp2
  go_ret2
  exact ⟨rfl, rfl⟩
theorem take_no (w : World) (b o : Nat) (f t n : Int) (h0 : w.cell? ⟨b, o, none⟩ = some (.int .i64 f)) (h1 : w.cell? ⟨b, o + 1, none⟩ = some (.int .i64 t))
    (b0 : 0 ≤ f) (b1 : f ≤ 1048576) (b2 : 0 ≤ t) (b3 : t ≤ 1048576) (hn : t - f < n) :
    Calls Try.prog 120 #[.pointer (some ⟨b, o, none⟩), .int .i64 n] w fun e w' => e = .returned (.tuple #[.int .i64 0, .bool false]) ∧ w' = w.drew := by
  go_enter Try.func120, Try.ntmps120
  go_wp2
  go_region
  go_wp2
  go_ret2
  exact ⟨rfl, rfl⟩
/-- How far the hole that begins at a line goes. -/
def hole (l : List (Bool × Bool)) (from_ : Nat) : Nat := from_ + (((l.drop from_).take (16 - from_ % 16)).takeWhile fun x => !x.1).length
theorem takeWhile_lt {α : Type} (p : α → Bool) (l : List α) (j : Nat) (h : j ≤ (l.takeWhile p).length) : (j < (l.takeWhile p).length) ↔ ∃ x, l[j]? = some x ∧ p x = true := by
  induction l generalizing j with
  | nil => simp
  | cons a l ih =>
    by_cases ha : p a = true
    · rw [List.takeWhile_cons_of_pos ha] at h ⊢
      cases j with
      | zero => simp [ha]
      | succ j => simp at h ⊢; exact ih j h
    · rw [List.takeWhile_cons_of_neg ha] at h ⊢
      simp at h; subst h; simp [ha]
theorem hole_le (l : List (Bool × Bool)) (f : Nat) (h : f ≤ l.length) : hole l f ≤ l.length ∧ f ≤ hole l f ∧ hole l f ≤ f + (16 - f % 16) := by
  unfold hole
  have h1 := (List.takeWhile_prefix (fun x : Bool × Bool => !x.1) (l := (l.drop f).take (16 - f % 16))).length_le
  have h2 : ((l.drop f).take (16 - f % 16)).length ≤ l.length - f := by simp; omega
  have h3 : ((l.drop f).take (16 - f % 16)).length ≤ 16 - f % 16 := by simp; omega
  omega
theorem hole_test (l : List (Bool × Bool)) (f k : Nat) (h1 : f ≤ k) (h2 : k ≤ hole l f) : k < hole l f ↔ (k < l.length ∧ k / 16 = f / 16 ∧ tk l k = false) := by
  unfold hole at h2 ⊢
  obtain ⟨j, rfl⟩ : ∃ j, k = f + j := ⟨k - f, by omega⟩
  have := takeWhile_lt (fun x : Bool × Bool => !x.1) ((l.drop f).take (16 - f % 16)) j (by omega)
  rw [Nat.add_lt_add_iff_left, this]
  rw [List.getElem?_take]
  constructor
  · rintro ⟨x, hx, hp⟩
    split at hx
    · rename_i hj
      rw [List.getElem?_drop] at hx
      obtain ⟨hl, hx⟩ := List.getElem?_eq_some_iff.1 hx
      refine ⟨hl, by omega, ?_⟩
      simp [tk, hl, hx]; simpa using hp
    · simp at hx
  · rintro ⟨hl, hd, ht⟩
    rw [if_pos (by omega), List.getElem?_drop]
    refine ⟨l[f + j], by simp [hl], ?_⟩
    simpa [tk, hl] using ht
theorem hole_c (w : World) {m : Nat} (hA : ArAt w b wb lb A) (ok : A.Ok m) (f : Nat) (hf : f ≤ m * 16) :
    Calls Try.prog 146 #[.pointer (some ⟨b, 0, none⟩), .int .i64 (f : Int)] w fun e w' => e = .returned (.int .i64 (hole A.lines f)) ∧ w = w' := by
  have c1 := hA.c1
  rw [ok.ll] at c1
  have h1 := ok.m1
  have h2 := ok.m2
  have hle := hole_le A.lines f (by rw [ok.ll]; exact hf)
  rw [ok.ll] at hle
  obtain ⟨H, hH⟩ : ∃ H, H = hole A.lines f := ⟨_, rfl⟩
  have HT := Lib.hid (fun k (a : f ≤ k) => hole_test A.lines f k a)
  have HC := Lib.hid (fun i => hA.taken (i := i))
  rw [← hH] at HT hle ⊢
  have HL := Lib.hid ok.ll
  clear hH hA ok
  go_enter Try.func146, Try.ntmps146
  go_wp2
  go_loop [5] (fun t => ∃ k : Nat, f ≤ k ∧ k ≤ H ∧ t = .int .i64 k) (fun t => H - (intOf t).toNat)
  case atStart => exact ⟨f, by omega, by omega, rfl⟩
  case round =>
    obtain ⟨k, hk1, hk2, rfl⟩ := hrel
    have ht := HT.out k hk1 hk2
    rw [HL.out] at ht
    by_cases hlt : k < H
    · obtain ⟨a1, a2, a3⟩ := ht.1 hlt
      have hc := HC.out k (by rw [HL.out]; exact a1)
      rw [a3] at hc
      have e1 : ((k : Int) / 16 == (f : Int) / 16) = true := by simp; omega
      clear ht
      go_wp2
      go_round
      case rel => exact ⟨k + 1, by omega, by omega, by go_num⟩
      case measure => simp [intOf]; omega
    · have hkH : k = H := by omega
      by_cases b1 : k < m * 16
      · have hc := HC.out k (by rw [HL.out]; exact b1)
        by_cases b2 : k / 16 = f / 16
        · have b3 : tk A.lines k = true := by
            by_cases b3 : tk A.lines k = false
            · exact absurd (ht.2 ⟨b1, b2, b3⟩) hlt
            · simpa using b3
          rw [b3] at hc
          have e1 : ((k : Int) / 16 == (f : Int) / 16) = true := by simp; omega
          clear ht b2 b3
          subst hkH
          go_wp2
          go_ret
          exact ⟨rfl, rfl⟩
        · have e1 : ((k : Int) / 16 == (f : Int) / 16) = false := by simp; omega
          clear ht b2
          subst hkH
          go_wp2
          go_ret
          exact ⟨rfl, rfl⟩
      · clear ht
        subst hkH
        go_wp2
        go_ret
        exact ⟨rfl, rfl⟩
end Go.Proofs.Ytjgndfhfiekomaa
