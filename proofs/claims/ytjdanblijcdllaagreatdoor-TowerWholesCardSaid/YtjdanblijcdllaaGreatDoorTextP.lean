/- Decimal digits on paper: a text of parts of nine digits, a text digit by digit, a text read. No program in sight. -/
import Derived.Lib.ItoaMem
set_option linter.all false
namespace Go.Proofs.YtjdanblijcdllaaGreatDoor
open Lib
/-- So many digits of a number, with noughts ahead. -/
def padD : Nat → Nat → List UInt8
  | 0, _ => []
  | k + 1, r => padD k (r / 10) ++ [UInt8.ofNat (48 + r % 10)]
theorem dec_small {r : Nat} (h : r < 10) : decDigits r = [UInt8.ofNat (48 + r)] := decDigits_one h
theorem dec_big {r : Nat} (h : ¬ r < 10) : decDigits r = decDigits (r / 10) ++ [UInt8.ofNat (48 + r % 10)] := by rw [decDigits, dif_neg h]
theorem dec_split {q : Nat} (hq : 0 < q) (k r : Nat) (hr : r < 10 ^ k) : decDigits (q * 10 ^ k + r) = decDigits q ++ padD k r := by
  induction k generalizing r with
  | zero => have : r = 0 := by simpa using hr
            subst this; simp [padD]
  | succ k ih =>
    have hp : 0 < 10 ^ k := Nat.pow_pos (by decide)
    have h1 : q * 10 ^ (k + 1) = q * 10 ^ k * 10 := by rw [Nat.pow_succ, Nat.mul_assoc]
    have h2 : 0 < q * 10 ^ k := Nat.mul_pos hq hp
    rw [dec_big (by rw [h1]; omega), h1]
    have e1 : (q * 10 ^ k * 10 + r) / 10 = q * 10 ^ k + r / 10 := by omega
    have e2 : (q * 10 ^ k * 10 + r) % 10 = r % 10 := by omega
    rw [e1, e2, ih (r / 10) (by rw [Nat.pow_succ] at hr; omega), padD, List.append_assoc]
theorem padD_zero (k : Nat) : padD k 0 = List.replicate k 48 := by
  induction k with
  | zero => rfl
  | succ k ih => rw [padD, Nat.zero_div, ih, List.replicate_succ']; rfl
theorem dec_ne (r : Nat) : 0 < (decDigits r).length := by
  by_cases h : r < 10
  · rw [dec_small h]; simp
  · rw [dec_big h]; simp
theorem padD_eq (k r : Nat) (hk : 0 < k) (hr : r < 10 ^ k) : (decDigits r).length ≤ k ∧ padD k r = List.replicate (k - (decDigits r).length) 48 ++ decDigits r := by
  induction k generalizing r with
  | zero => omega
  | succ k ih =>
    by_cases h : r < 10
    · rw [dec_small h, padD, show r / 10 = 0 by omega, padD_zero, show r % 10 = r by omega]
      simp
    · have hr2 : r / 10 < 10 ^ k := by rw [Nat.pow_succ] at hr; omega
      have hk2 : 0 < k := by
        rcases Nat.eq_zero_or_pos k with h0 | h0
        · subst h0; simp at hr; omega
        · exact h0
      obtain ⟨h1, h2⟩ := ih (r / 10) hk2 hr2
      rw [dec_big h, padD, h2]
      simp only [List.length_append, List.length_cons, List.length_nil, List.append_assoc]
      refine ⟨by omega, ?_⟩
      congr 2
      omega
/-- Parts of nine digits, the lowest first. -/
def partsF : Nat → Nat → List Nat
  | 0, _ => []
  | k + 1, n => if n = 0 then [] else n % 1000000000 :: partsF k (n / 1000000000)
def parts (n : Nat) : List Nat := partsF n n
theorem partsF_big : ∀ (k j n : Nat), n ≤ k → n ≤ j → partsF k n = partsF j n := by
  intro k
  induction k with
  | zero => intro j n hk hj; obtain rfl : n = 0 := by omega
            cases j <;> simp [partsF]
  | succ k ih =>
    intro j n hk hj
    cases j with
    | zero => obtain rfl : n = 0 := by omega
              simp [partsF]
    | succ j =>
      unfold partsF
      by_cases h : n = 0
      · simp [h]
      · rw [if_neg h, if_neg h, ih j (n / 1000000000) (by omega) (by omega)]
theorem parts_zero : parts 0 = [] := rfl
theorem parts_pos {n : Nat} (h : n ≠ 0) : parts n = n % 1000000000 :: parts (n / 1000000000) := by
  unfold parts
  cases n with
  | zero => exact absurd rfl h
  | succ n => rw [partsF, if_neg h, partsF_big n ((n + 1) / 1000000000) _ (by omega) (by omega)]
theorem parts_nil {n : Nat} : parts n = [] ↔ n = 0 := by
  constructor
  · intro h
    by_cases h0 : n = 0
    · exact h0
    · rw [parts_pos h0] at h; simp at h
  · rintro rfl; rfl
theorem parts_lt (n : Nat) : ∀ p, p ∈ parts n → p < 1000000000 := by
  induction n using Nat.strongRecOn with
  | _ n ih =>
    by_cases h : n = 0
    · subst h; intro p hp; simp [parts_zero] at hp
    · rw [parts_pos h]
      intro p hp
      rcases List.mem_cons.1 hp with rfl | hp
      · exact Nat.mod_lt _ (by decide)
      · exact ih _ (by omega) p hp
/-- The text that parts tell: the last one plain, the others with nine digits. -/
def outOf : List Nat → List UInt8
  | [] => []
  | p :: l => outOf l ++ (if l = [] then decDigits p else padD 9 p)
theorem outOf_parts {n : Nat} (h : n ≠ 0) : outOf (parts n) = decDigits n := by
  induction n using Nat.strongRecOn with
  | _ n ih =>
    rw [parts_pos h, outOf]
    by_cases h0 : n / 1000000000 = 0
    · rw [h0, parts_zero, if_pos rfl]
      simp only [outOf, List.nil_append]
      congr 1; omega
    · rw [if_neg (fun he => h0 (parts_nil.1 he)), ih _ (by omega) h0, ← dec_split (by omega) 9 _ (by omega)]
      congr 1; omega
theorem parts_len (n : Nat) (k : Nat) (h : n < 1000000000 ^ k) : (parts n).length ≤ k := by
  induction k generalizing n with
  | zero => have : n = 0 := by simpa using h
            subst this; simp [parts_zero]
  | succ k ih =>
    by_cases h0 : n = 0
    · subst h0; simp [parts_zero]
    · rw [parts_pos h0, List.length_cons]
      have := ih (n / 1000000000) (by rw [Nat.pow_succ] at h; exact Nat.div_lt_of_lt_mul (by rw [Nat.mul_comm]; exact h))
      omega
/-- A text digit by digit, from behind: v is what is left. -/
def Popped (n v : Nat) (t : List UInt8) : Prop := if v = 0 then t = decDigits n else decDigits v ++ t = decDigits n
theorem Popped.start {n : Nat} (h : n ≠ 0) : Popped n n [] := by unfold Popped; rw [if_neg h]; simp
theorem Popped.step {n v : Nat} {t : List UInt8} (h : Popped n v t) (hv : v ≠ 0) : Popped n (v / 10) (UInt8.ofNat (48 + v % 10) :: t) := by
  unfold Popped at *
  rw [if_neg hv] at h
  by_cases h1 : v < 10
  · rw [if_pos (by omega), ← h, dec_small h1, show v % 10 = v by omega]; rfl
  · rw [if_neg (by omega), ← h, dec_big h1, List.append_assoc]; rfl
/-- The number that digits tell. -/
def numOf (s : List UInt8) : Nat := s.foldl (fun a c => 10 * a + (c.toNat - 48)) 0
theorem numOf_snoc (s : List UInt8) (c : UInt8) : numOf (s ++ [c]) = 10 * numOf s + (c.toNat - 48) := by simp [numOf]
def isDig (c : UInt8) : Bool := decide (48 ≤ c.toNat ∧ c.toNat ≤ 57)
theorem ofNat_dig {d : Nat} (h : d < 10) : (UInt8.ofNat (48 + d)).toNat = 48 + d := by
  rw [UInt8.toNat_ofNat']; omega
theorem dig_ofNat {d : Nat} (h : d < 10) : isDig (UInt8.ofNat (48 + d)) = true := by
  unfold isDig; rw [ofNat_dig h]; simp; omega
theorem numOf_dec (n : Nat) : numOf (decDigits n) = n := by
  induction n using Nat.strongRecOn with
  | _ n ih =>
    by_cases h : n < 10
    · rw [dec_small h]; simp [numOf]; omega
    · rw [dec_big h, numOf_snoc, ih _ (by omega), ofNat_dig (by omega)]; omega
theorem dec_dig (n : Nat) : ∀ c, c ∈ decDigits n → isDig c = true := by
  induction n using Nat.strongRecOn with
  | _ n ih =>
    by_cases h : n < 10
    · rw [dec_small h]; intro c hc; rw [List.mem_singleton.1 hc]; exact dig_ofNat h
    · rw [dec_big h]
      intro c hc
      rcases List.mem_append.1 hc with hc | hc
      · exact ih _ (by omega) c hc
      · rw [List.mem_singleton.1 hc]; exact dig_ofNat (by omega)
theorem numOf_zeros (k : Nat) (s : List UInt8) : numOf (List.replicate k 48 ++ s) = numOf s := by
  unfold numOf
  rw [List.foldl_append]
  congr 1
  induction k with
  | zero => rfl
  | succ k ih => rw [List.replicate_succ, List.foldl_cons]; simpa using ih
theorem dec_len {n k : Nat} (hk : 0 < k) (h : n < 10 ^ k) : (decDigits n).length ≤ k := (padD_eq k n hk h).1
theorem dec_head {n : Nat} (h : n ≠ 0) : (decDigits n)[0]? ≠ some 48 := by
  induction n using Nat.strongRecOn with
  | _ n ih =>
    by_cases h1 : n < 10
    · rw [dec_small h1]
      intro he
      simp only [List.getElem?_cons_zero, Option.some.injEq] at he
      have := congrArg UInt8.toNat he
      rw [ofNat_dig h1] at this
      have h48 : (48 : UInt8).toNat = 48 := rfl
      omega
    · rw [dec_big h1, List.getElem?_append_left (dec_ne _)]
      exact ih _ (by omega) (by omega)
end Go.Proofs.YtjdanblijcdllaaGreatDoor
