/- The texts and numbers of numbers: a part of the walk. No condition. -/
import Derived.Test.YtcjkgnafpkkjmaaGreatDoorRows
import Derived.WalkKit
import Derived.WalkLawsBesides
import Derived.WalkSpells
import Derived.Outline
import Derived.OpenShut
import Derived.OneCell
import Derived.Lib.Hide
import Derived.Deep.QuietTactic
import Derived.BigQuiet
import Derived.Laws.MakeOwn
import Derived.OwnWalk
import Derived.RegionTactic
import Derived.BigRegion
import Derived.Deep.RegionWith
import Derived.Deep.RegionLaw
import Derived.Deep.AppendLies
import Derived.LoopTactic
import Derived.Deep.LoopGhost
import Derived.Deep.Slices
import Derived.Deep.Fields
import Derived.ChangeSame
set_option linter.all false
namespace Go.Proofs.YtcjkgnafpkkjmaaGreatDoor
section
def val : List Nat → Nat
  | [] => 0
  | z :: l => z + 4294967296 * val l
def Lim (L : List Nat) : Prop := ∀ z, z ∈ L → z < 4294967296
def limsF : Nat → Nat → List Nat
  | 0, _ => []
  | k + 1, n => if n = 0 then [] else n % 4294967296 :: limsF k (n / 4294967296)
def lims (n : Nat) : List Nat := limsF n n
theorem limsF_big : ∀ (k j n : Nat), n ≤ k → n ≤ j → limsF k n = limsF j n := by
  intro k
  induction k with
  | zero => intro j n hk hj; obtain rfl : n = 0 := by omega
            cases j <;> simp [limsF]
  | succ k ih =>
    intro j n hk hj
    cases j with
    | zero => obtain rfl : n = 0 := by omega
              simp [limsF]
    | succ j =>
      unfold limsF
      by_cases h : n = 0
      · simp [h]
      · rw [if_neg h, if_neg h, ih j (n / 4294967296) (by omega) (by omega)]
theorem lims_zero : lims 0 = [] := rfl
theorem lims_pos {n : Nat} (h : n ≠ 0) : lims n = n % 4294967296 :: lims (n / 4294967296) := by
  unfold lims
  cases n with
  | zero => exact absurd rfl h
  | succ n =>
    rw [limsF, if_neg h, limsF_big n ((n + 1) / 4294967296) _ (by omega) (by omega)]
theorem val_lims (n : Nat) : val (lims n) = n := by
  induction n using Nat.strongRecOn with
  | _ n ih =>
    by_cases h : n = 0
    · subst h; rfl
    · rw [lims_pos h, val, ih _ (by omega)]; omega
theorem lim_nil : Lim [] := by intro z hz; simp at hz
theorem lim_cons {z : Nat} {l : List Nat} : Lim (z :: l) ↔ z < 4294967296 ∧ Lim l := by
  unfold Lim; simp
theorem lim_append {a b : List Nat} : Lim (a ++ b) ↔ Lim a ∧ Lim b := by
  unfold Lim; simp only [List.mem_append]; exact ⟨fun h => ⟨fun z hz => h z (.inl hz), fun z hz => h z (.inr hz)⟩, fun h z hz => hz.elim (h.1 z) (h.2 z)⟩
theorem lim_take {a : List Nat} (h : Lim a) (k : Nat) : Lim (a.take k) := fun z hz => h z (List.mem_of_mem_take hz)
theorem lim_drop {a : List Nat} (h : Lim a) (k : Nat) : Lim (a.drop k) := fun z hz => h z (List.mem_of_mem_drop hz)
theorem lim_get {a : List Nat} (h : Lim a) (i : Nat) : a[i]?.getD 0 < 4294967296 := by
  rcases Nat.lt_or_ge i a.length with hi | hi
  · rw [List.getElem?_eq_getElem hi]; exact h _ (List.getElem_mem hi)
  · rw [List.getElem?_eq_none hi]; simp
theorem lim_set {a : List Nat} (h : Lim a) (i v : Nat) (hv : v < 4294967296) : Lim (a.set i v) := by
  intro z hz
  rcases List.mem_or_eq_of_mem_set hz with hz | rfl
  · exact h z hz
  · exact hv
theorem lim_lims (n : Nat) : Lim (lims n) := by
  induction n using Nat.strongRecOn with
  | _ n ih =>
    by_cases h : n = 0
    · subst h; exact lim_nil
    · rw [lims_pos h]; exact lim_cons.2 ⟨by omega, ih _ (by omega)⟩
theorem lims_eq_nil {n : Nat} : lims n = [] ↔ n = 0 := by
  constructor
  · intro h
    by_cases h0 : n = 0
    · exact h0
    · rw [lims_pos h0] at h; simp at h
  · rintro rfl; rfl
def Top (L : List Nat) : Prop := ∀ i, L.length = i + 1 → L[i]?.getD 0 ≠ 0
theorem top_nil : Top [] := by intro i h; simp at h
theorem top_cons {z : Nat} {l : List Nat} (h : Top (z :: l)) : Top l := fun i hi => by
  have := h (i + 1) (by simp [hi]); simpa using this
theorem top_lims (n : Nat) : Top (lims n) := by
  induction n using Nat.strongRecOn with
  | _ n ih =>
    by_cases h : n = 0
    · subst h; exact top_nil
    · rw [lims_pos h]
      intro i hi
      cases i with
      | zero =>
        simp at hi
        simp only [List.getElem?_cons_zero, Option.getD_some]
        have := lims_eq_nil.1 hi
        omega
      | succ i =>
        simp only [List.length_cons] at hi
        have := ih _ (show n / 4294967296 < n by omega) i (by omega)
        simpa using this
theorem lims_val {L : List Nat} (h : Lim L) (ht : Top L) : lims (val L) = L := by
  induction L with
  | nil => rfl
  | cons z l ih =>
    obtain ⟨hz, hl⟩ := lim_cons.1 h
    have e := ih hl (top_cons ht)
    have hne : val (z :: l) ≠ 0 := by
      intro h0
      rw [val] at h0
      have h1 : val l = 0 := by omega
      rw [h1, lims_zero] at e
      subst e
      have := ht 0 rfl
      simp at this
      omega
    rw [lims_pos hne]
    have e1 : val (z :: l) % 4294967296 = z := by rw [val]; omega
    have e2 : val (z :: l) / 4294967296 = val l := by rw [val]; omega
    rw [e1, e2, e]
theorem val_append (a b : List Nat) : val (a ++ b) = val a + 4294967296 ^ a.length * val b := by
  induction a with
  | nil => simp [val]
  | cons z l ih =>
    simp only [List.cons_append, val, List.length_cons, ih, Nat.pow_succ]
    rw [Nat.mul_add, Nat.mul_comm (4294967296 ^ l.length) 4294967296, Nat.mul_assoc, Nat.add_assoc]
theorem val_lt {a : List Nat} (h : Lim a) : val a < 4294967296 ^ a.length := by
  induction a with
  | nil => simp [val]
  | cons z l ih =>
    obtain ⟨hz, hl⟩ := lim_cons.1 h
    have := ih hl
    simp only [val, List.length_cons, Nat.pow_succ]
    omega
theorem val_take_succ (a : List Nat) (k : Nat) : val (a.take (k + 1)) = val (a.take k) + 4294967296 ^ k * a[k]?.getD 0 := by
  rcases Nat.lt_or_ge k a.length with hk | hk
  · rw [List.take_add_one, List.getElem?_eq_getElem hk]
    simp only [Option.toList_some, Option.getD_some]
    rw [val_append]
    have : (a.take k).length = k := by simp; omega
    rw [this]; simp [val]
  · rw [List.take_of_length_le (by omega), List.take_of_length_le hk, List.getElem?_eq_none hk]; simp
theorem len_lims {n k : Nat} : (lims n).length ≤ k ↔ n < 4294967296 ^ k := by
  induction k generalizing n with
  | zero =>
    simp only [Nat.le_zero, List.length_eq_zero_iff, Nat.pow_zero, lims_eq_nil]; omega
  | succ k ih =>
    by_cases h : n = 0
    · subst h; simp only [lims_zero, List.length_nil]
      have : 0 < 4294967296 ^ (k + 1) := Nat.pow_pos (by decide)
      omega
    · rw [lims_pos h, List.length_cons, Nat.pow_succ]
      have := @ih (n / 4294967296)
      have e : n / 4294967296 < 4294967296 ^ k ↔ n < 4294967296 ^ k * 4294967296 := Nat.div_lt_iff_lt_mul (by decide)
      omega
theorem lims_len_le {n m : Nat} (h : n ≤ m) : (lims n).length ≤ (lims m).length := by
  rw [len_lims]
  have := (@len_lims m (lims m).length).1 (Nat.le_refl _)
  omega
theorem lims_len_lt {n m : Nat} (h : (lims n).length < (lims m).length) : n < m := by
  rcases Nat.lt_or_ge n m with h1 | h1
  · exact h1
  · have := lims_len_le h1; omega
theorem val_take_zeros (a : List Nat) (k : Nat) (h : ∀ i, k ≤ i → i < a.length → a[i]?.getD 0 = 0) : val (a.take k) = val a := by
  induction a generalizing k with
  | nil => simp
  | cons z l ih =>
    cases k with
    | zero =>
      have h0 := h 0 (by omega) (by simp)
      simp at h0
      have h1 := ih 0 (fun i _ hi => by have := h (i + 1) (by omega) (by simpa using hi); simpa using this)
      simp only [List.take_zero, val] at h1 ⊢
      omega
    | succ k =>
      have h1 := ih k (fun i hk hi => by have := h (i + 1) (by omega) (by simpa using hi); simpa using this)
      rw [List.take_succ_cons, val, val, h1]
theorem trim_done {a : List Nat} (hl : Lim a) (k : Nat) (hk : k ≤ a.length) (h : ∀ i, k ≤ i → i < a.length → a[i]?.getD 0 = 0) (ht : k = 0 ∨ a[k - 1]?.getD 0 ≠ 0) : a.take k = lims (val a) := by
  rw [← val_take_zeros a k h, lims_val (lim_take hl k)]
  intro i hi
  have : i + 1 = k := by simp at hi; omega
  subst this
  rw [List.getElem?_take_of_lt (by omega)]
  simpa using ht
theorem pow_pos' (k : Nat) : 0 < 4294967296 ^ k := Nat.pow_pos (by decide)
theorem val_snoc (a : List Nat) (z : Nat) : val (a ++ [z]) = val a + 4294967296 ^ a.length * z := by
  rw [val_append]; simp [val]
theorem val_drop (a : List Nat) (k : Nat) : val (a.drop k) = a[k]?.getD 0 + 4294967296 * val (a.drop (k + 1)) := by
  rcases Nat.lt_or_ge k a.length with hk | hk
  · rw [List.drop_eq_getElem_cons hk, val, List.getElem?_eq_getElem hk]; rfl
  · rw [List.drop_eq_nil_of_le hk, List.drop_eq_nil_of_le (by omega), List.getElem?_eq_none hk]; rfl
theorem val_take_drop (a : List Nat) (k : Nat) : val a = val (a.take k) + 4294967296 ^ k * val (a.drop k) := by
  rcases Nat.lt_or_ge k a.length with hk | hk
  · have := val_append (a.take k) (a.drop k)
    rw [List.take_append_drop] at this
    rwa [show (a.take k).length = k by simp; omega] at this
  · rw [List.take_of_length_le hk, List.drop_eq_nil_of_le hk]; simp [val]
theorem add_step {P o c x y A B : Nat} (h : o + P * c = A + B) : (o + P * ((x + y + c) % 4294967296)) + P * 4294967296 * ((x + y + c) / 4294967296) = (A + P * x) + (B + P * y) := by
  have e := Nat.mod_add_div (x + y + c) 4294967296
  have e2 : P * ((x + y + c) % 4294967296) + P * 4294967296 * ((x + y + c) / 4294967296) = P * (x + y + c) := by
    rw [Nat.mul_assoc, ← Nat.mul_add, e]
  rw [Nat.mul_add, Nat.mul_add] at e2
  omega
theorem lims_len_pos {n : Nat} : 0 < (lims n).length ↔ n ≠ 0 := by
  constructor
  · rintro h rfl; simp [lims_zero] at h
  · intro h; rw [lims_pos h]; simp
theorem val_lt_of {a b : List Nat} (ha : Lim a) (hl : a.length = b.length) (i : Nat) (hs : a.drop (i + 1) = b.drop (i + 1)) (hi : i < a.length) (hx : a[i]?.getD 0 < b[i]?.getD 0) : val a < val b := by
  rw [val_take_drop a i, val_take_drop b i, val_drop a i, val_drop b i, hs]
  have h1 := val_lt (lim_take ha i)
  have h2 : (a.take i).length = i := by simp; omega
  rw [h2] at h1
  have hp := pow_pos' i
  generalize 4294967296 ^ i = P at *
  have h3 : P * (a[i]?.getD 0 + 1 + 4294967296 * val (b.drop (i + 1))) ≤ P * (b[i]?.getD 0 + 4294967296 * val (b.drop (i + 1))) := Nat.mul_le_mul_left _ (by omega)
  simp only [Nat.mul_add, Nat.mul_one] at h3 ⊢
  omega
def cmpN (a b : Nat) : Int := if a < b then -1 else if b < a then 1 else 0
theorem short_step {R x d q r A : Nat} (hA : A = q * d + R) (hr : r = (R * 4294967296 + x) % d) : x + 4294967296 * A = ((R * 4294967296 + x) / d + 4294967296 * q) * d + r := by
  subst hr
  have := Nat.div_add_mod (R * 4294967296 + x) d
  rw [Nat.add_mul, Nat.mul_assoc, Nat.mul_comm ((R * 4294967296 + x) / d) d]
  rw [hA, Nat.mul_add]
  omega
theorem short_lt {R x d : Nat} (hR : R < d) (hx : x < 4294967296) : (R * 4294967296 + x) / d < 4294967296 := by
  rw [Nat.div_lt_iff_lt_mul (by omega)]
  have : (R + 1) * 4294967296 ≤ d * 4294967296 := Nat.mul_le_mul_right _ (by omega)
  omega
theorem shr_step (p q z l0 rest : Nat) (hp : 0 < p) (hpq : p * q = 4294967296) (hz : z < 4294967296) :
    ((z + 4294967296 * l0) / p) % 4294967296 + 4294967296 * ((l0 + 4294967296 * rest) / p) = (z + 4294967296 * (l0 + 4294967296 * rest)) / p := by
  have e1 : ∀ v : Nat, (z + 4294967296 * v) / p = z / p + q * v := fun v => by
    rw [← hpq, Nat.mul_assoc, Nat.add_mul_div_left _ _ hp]
  rw [e1, e1]
  have e2 : (l0 + 4294967296 * rest) / p = l0 / p + q * rest := by
    rw [← hpq, Nat.mul_assoc, Nat.add_mul_div_left _ _ hp]
  rw [e2]
  have hzq : z / p < q := by rw [Nat.div_lt_iff_lt_mul hp, Nat.mul_comm]; omega
  have e3 : q * l0 = 4294967296 * (l0 / p) + q * (l0 % p) := by
    have h := Nat.div_add_mod l0 p
    have : q * l0 = q * (p * (l0 / p) + l0 % p) := by rw [h]
    rw [this, Nat.mul_add, ← Nat.mul_assoc, Nat.mul_comm q p, hpq]
  have e4 : q * (l0 % p) + q ≤ 4294967296 := by
    have h1 : l0 % p + 1 ≤ p := Nat.mod_lt _ hp
    have h2 : q * (l0 % p + 1) ≤ q * p := Nat.mul_le_mul_left _ h1
    rw [Nat.mul_add, Nat.mul_one, Nat.mul_comm q p, hpq] at h2
    exact h2
  have e5 : (z / p + q * l0) % 4294967296 = z / p + q * (l0 % p) := by
    rw [e3, ← Nat.add_assoc, Nat.add_right_comm, Nat.add_mul_mod_self_left, Nat.mod_eq_of_lt (by omega)]
  rw [e5, Nat.mul_add, ← Nat.mul_assoc 4294967296 q rest, Nat.mul_comm 4294967296 q, Nat.mul_add q l0, e3, ← Nat.mul_assoc q 4294967296 rest]
  omega
def shrL (p : Nat) : List Nat → List Nat
  | [] => []
  | z :: l => ((z + 4294967296 * l.head?.getD 0) / p) % 4294967296 :: shrL p l
theorem val_head (l : List Nat) : val l = l.head?.getD 0 + 4294967296 * val l.tail := by
  cases l <;> simp [val]
theorem val_shrL (p q : Nat) (hp : 0 < p) (hpq : p * q = 4294967296) (a : List Nat) (h : Lim a) : val (shrL p a) = val a / p := by
  induction a with
  | nil => simp [shrL, val]
  | cons z l ih =>
    obtain ⟨hz, hl⟩ := lim_cons.1 h
    rw [shrL, val, ih hl, val, val_head l]
    exact shr_step p q z _ _ hp hpq hz
theorem len_shrL (p : Nat) (a : List Nat) : (shrL p a).length = a.length := by
  induction a with
  | nil => rfl
  | cons z l ih => simp [shrL, ih]
theorem shrL_get (p : Nat) (a : List Nat) (i : Nat) (hi : i < a.length) : (shrL p a)[i]?.getD 0 = ((a[i]?.getD 0 + 4294967296 * a[i + 1]?.getD 0) / p) % 4294967296 := by
  induction a generalizing i with
  | nil => simp at hi
  | cons z l ih =>
    cases i with
    | zero => cases l <;> simp [shrL]
    | succ i => simpa [shrL] using ih i (by simpa using hi)
theorem guess_bounds {P U3 U' V2 V' q : Nat} (hU : U' < P) (hV : V' < P) (hq : q * V2 ≤ U3) (hmax : ∀ k, k < 4294967296 → k * V2 ≤ U3 → k ≤ q) (hqB : q < 4294967296) (hV2 : 4294967296 ≤ V2)
    (hUV : P * U3 + U' < (P * V2 + V') * 4294967296) : (P * U3 + U') / (P * V2 + V') ≤ q ∧ q ≤ (P * U3 + U') / (P * V2 + V') + 1 := by
  have hP : 0 < P := by omega
  have hVp : 0 < P * V2 + V' := by have := Nat.mul_pos hP (show 0 < V2 by omega); omega
  generalize hQ : (P * U3 + U') / (P * V2 + V') = Q
  have hQ1 : Q * (P * V2 + V') ≤ P * U3 + U' := by rw [← hQ]; exact Nat.div_mul_le_self _ _
  have hQ2 : Q < 4294967296 := by rw [← hQ, Nat.div_lt_iff_lt_mul hVp, Nat.mul_comm 4294967296]; exact hUV
  constructor
  · refine hmax Q hQ2 ?_
    have h1 : P * (Q * V2) ≤ Q * (P * V2 + V') := by rw [Nat.mul_add, Nat.mul_left_comm]; omega
    have h2 : P * (Q * V2) < P * (U3 + 1) := by rw [Nat.mul_add]; omega
    have := Nat.lt_of_mul_lt_mul_left h2
    omega
  · rcases Nat.eq_zero_or_pos q with h0 | h0
    · omega
    · have : (q - 1) * (P * V2 + V') ≤ P * U3 + U' := by
        have h1 : (q - 1) * (P * V2 + V') ≤ (q - 1) * (P * (V2 + 1)) := Nat.mul_le_mul_left _ (by rw [Nat.mul_add]; omega)
        have h2 : (q - 1) * (V2 + 1) ≤ U3 := by
          have : (q - 1) * (V2 + 1) + (V2 + 1) = q * (V2 + 1) := by
            rw [← Nat.succ_mul]; congr 1; omega
          rw [Nat.mul_add q] at this
          omega
        have h3 : (q - 1) * (P * (V2 + 1)) = P * ((q - 1) * (V2 + 1)) := Nat.mul_left_comm _ _ _
        have h4 : P * ((q - 1) * (V2 + 1)) ≤ P * U3 := Nat.mul_le_mul_left _ h2
        omega
      have h5 : q - 1 ≤ Q := by rw [← hQ]; exact (Nat.le_div_iff_mul_le hVp).2 this
      omega
theorem mul_carry {x y z c : Nat} (hx : x < 4294967296) (hy : y < 4294967296) (hz : z < 4294967296) (hc : c < 4294967296) : x * y + z + c < 18446744073709551616 ∧ (x * y + z + c) / 4294967296 < 4294967296 := by
  have h : x * y ≤ 4294967295 * 4294967295 := Nat.mul_le_mul (by omega) (by omega)
  omega
theorem take_step {P o c w x z q A V b' A' : Nat} (h : o + q * V = A + P * (c + w)) (hz : z + (q * x + c) % 4294967296 + w = b' * 4294967296 + A') :
    (o + P * z) + q * (V + P * x) = (A + P * A') + P * 4294967296 * ((q * x + c) / 4294967296 + b') := by
  have e := Nat.mod_add_div (q * x + c) 4294967296
  have e1 : q * (P * x) = P * (q * x) := Nat.mul_left_comm _ _ _
  have e2 : P * ((q * x + c) % 4294967296) + P * 4294967296 * ((q * x + c) / 4294967296) = P * (q * x + c) := by
    rw [Nat.mul_assoc, ← Nat.mul_add, e]
  have e3 : P * (z + (q * x + c) % 4294967296 + w) = P * (b' * 4294967296 + A') := by rw [hz]
  have e4 : P * (b' * 4294967296) = P * 4294967296 * b' := by rw [Nat.mul_comm b', Nat.mul_assoc]
  rw [Nat.mul_add] at e2
  rw [Nat.mul_add, Nat.mul_add, Nat.mul_add, e4] at e3
  rw [Nat.mul_add, e1, Nat.mul_add (P * 4294967296)]
  rw [Nat.mul_add] at h
  omega
theorem digit_ok {W W' V q b Bn : Nat} (h : W' + q * V = W + Bn * b) (hW' : W' < Bn) (hV : 0 < V) (h1 : W / V ≤ q) (h2 : q ≤ W / V + 1) :
    (b = 0 ∧ q = W / V ∧ W' = W % V) ∨ (b ≠ 0 ∧ q = W / V + 1 ∧ W' + V = W % V + Bn * b) := by
  have e := Nat.div_add_mod W V
  have hm := Nat.mod_lt W hV
  rw [Nat.mul_comm] at e
  rcases Nat.lt_or_ge (W / V) q with hq | hq
  · right
    have hq' : q = W / V + 1 := by omega
    refine ⟨?_, hq', ?_⟩
    · rintro rfl
      rw [hq', Nat.add_mul] at h
      omega
    · rw [hq', Nat.add_mul] at h
      omega
  · left
    have hq' : q = W / V := by omega
    have h3 : W' = W % V + Bn * b := by rw [hq'] at h; omega
    refine ⟨?_, hq', ?_⟩
    · rcases Nat.eq_zero_or_pos b with h0 | h0
      · exact h0
      · have : Bn ≤ Bn * b := Nat.le_mul_of_pos_right _ h0
        omega
    · rcases Nat.eq_zero_or_pos b with h0 | h0
      · rw [h3, h0]; simp
      · have : Bn ≤ Bn * b := Nat.le_mul_of_pos_right _ h0
        omega
theorem div_of {a q v r : Nat} (h : a = q * v + r) (hr : r < v) : a / v = q ∧ a % v = r := by
  subst h
  rw [Nat.mul_comm q v]
  constructor
  · rw [Nat.mul_add_div (by omega), Nat.div_eq_of_lt hr]; simp
  · rw [Nat.mul_add_mod]; exact Nat.mod_eq_of_lt hr
theorem long_end {a b s q u : Nat} (hs : 0 < s) (h : a * s = q * (b * s) + u) (hu : u < b * s) : q = a / b ∧ u / s = a % b := by
  have h1 : u = (a % b) * s ∧ q = a / b := by
    have hb : 0 < b := by rcases Nat.eq_zero_or_pos b with h0 | h0; (subst h0; simp at hu); exact h0
    have e := Nat.div_add_mod a b
    have hm := Nat.mod_lt a hb
    have e2 : a * s = (a / b) * (b * s) + (a % b) * s := by
      rw [← Nat.mul_assoc, ← Nat.add_mul, Nat.mul_comm (a / b) b, e]
    have hr : (a % b) * s < b * s := Nat.mul_lt_mul_of_pos_right hm hs
    have d1 := div_of h hu
    have d2 := div_of e2 hr
    exact ⟨d1.2.symm.trans d2.2, d1.1.symm.trans d2.1⟩
  refine ⟨h1.2, ?_⟩
  rw [h1.1, Nat.mul_div_cancel _ hs]
theorem drop_get {C D : List Nat} {k : Nat} (h : C.drop k = D.drop k) : C[k]? = D[k]? := by
  have := congrArg (fun l : List Nat => l[0]?) h
  simpa using this
theorem take_set_succ (C : List Nat) (k z : Nat) (hk : k < C.length) : (C.set k z).take (k + 1) = C.take k ++ [z] := by
  rw [List.take_add_one, List.getElem?_set_self hk, List.take_set]
  simp only [Option.toList_some]
  congr 1
  exact List.set_eq_of_length_le (by simp; omega)
theorem drop_set_succ (C : List Nat) (k z : Nat) : (C.set k z).drop (k + 1) = C.drop (k + 1) := by
  rw [List.drop_set_of_lt (by omega)]
end
section
open Go.ChangeShapes Go.WideShapes Go.RowKit
theorem ret_int {k : IntKind} {a b : Int} (h : a = b) : Ending.returned (.int k a) = .returned (.int k b) := by rw [h]
theorem ret_bool {a b : Bool} (h : a = b) : Ending.returned (.bool a) = .returned (.bool b) := by rw [h]
def blk (w : World) (k : Nat) : Option Obj := w.heap[k]?
theorem cell_of {w : World} {b i : Nat} {c : Array Value} {t : TypeId} {v : Value} (h : blk w b = some (.cells c t (0, 0))) (hv : c[i]? = some v) : w.cell? ⟨b, i, none⟩ = some v := by
  unfold blk at h
  simp [World.cell?, h, hv]
theorem free_of {w : World} {b i : Nat} {c : Array Value} {t : TypeId} (h : blk w b = some (.cells c t (0, 0))) : w.frozen? ⟨b, i, none⟩ = false := by
  unfold blk at h
  simp [World.frozen?, h]
def setObj (i : Nat) (v : Value) : Obj → Obj
  | .cells c t fr => .cells (c.setIfInBounds i v) t fr
  | o => o
theorem blk_alloc (w : World) (o : Obj) (k : Nat) : blk (w.alloc o) k = if k = w.heap.size then some o else blk w k := by
  show (w.heap.push o)[k]? = _
  rw [Array.getElem?_push]; rfl
theorem blk_set (w : World) (b i : Nat) (v : Value) (k : Nat) : blk (w.setCell ⟨b, i, none⟩ v) k = if k = b then (blk w k).map (setObj i v) else blk w k := by
  unfold blk
  by_cases h : k = b
  · subst h
    simp only [World.setCell, Array.getElem?_modify, if_pos]
    cases w.heap[k]? with
    | none => rfl
    | some o => cases o <;> rfl
  · rw [if_neg h, Below.heap_setCell _ _ _ _ (by simpa using h)]
theorem blk_drew (w : World) (k : Nat) : blk w.drew k = blk w k := rfl
theorem size_set (w : World) (a : Addr) (v : Value) : (w.setCell a v).heap.size = w.heap.size := by simp [World.setCell]
theorem size_alloc (w : World) (o : Obj) : (w.alloc o).heap.size = w.heap.size + 1 := by show (w.heap.push o).size = _; simp
theorem lt_size {w : World} {b : Nat} {o : Obj} (h : blk w b = some o) : b < w.heap.size := lt_of_block h
structure Fr (S : List Nat) (w w' : World) : Prop where
  os : w'.os = w.os
  tape : w'.tape = w.tape
  output : w'.output = w.output
  size : w.heap.size ≤ w'.heap.size
  block : ∀ k, k < w.heap.size → k ∉ S → blk w' k = blk w k
theorem Fr.refl (S : List Nat) (w : World) : Fr S w w := ⟨rfl, rfl, rfl, Nat.le_refl _, fun _ _ _ => rfl⟩
theorem Fr.trans {S T : List Nat} {a b c : World} (h : Fr S a b) (k : Fr T b c) (hT : ∀ x, x ∈ T → x ∈ S ∨ a.heap.size ≤ x) : Fr S a c :=
  ⟨k.os.trans h.os, k.tape.trans h.tape, k.output.trans h.output, Nat.le_trans h.size k.size, fun i hi hn =>
    (k.block i (Nat.lt_of_lt_of_le hi h.size) (fun hm => by rcases hT i hm with h1 | h1; exact hn h1; omega)).trans (h.block i hi hn)⟩
theorem Fr.same {S : List Nat} {a b c : World} (h : Fr S a b) (k : Fr S b c) : Fr S a c := h.trans k fun _ hx => .inl hx
theorem Fr.mono {S T : List Nat} {a b : World} (h : Fr S a b) (hS : ∀ x, x ∈ S → x ∈ T ∨ a.heap.size ≤ x) : Fr T a b :=
  (Fr.refl T a).trans h hS
theorem Fr.drew {S : List Nat} {a w : World} (h : Fr S a w) : Fr S a w.drew := ⟨h.os, h.tape, h.output, h.size, h.block⟩
theorem Fr.drewN {S : List Nat} {a w : World} (h : Fr S a w) (n : Nat) : Fr S a (w.drewN n) := ⟨h.os, h.tape, h.output, h.size, h.block⟩
theorem Fr.alloc {S : List Nat} {a w : World} (h : Fr S a w) (o : Obj) : Fr S a (w.alloc o) :=
  ⟨h.os, h.tape, h.output, by rw [size_alloc]; have := h.size; omega, fun k hk hn => by
    rw [blk_alloc, if_neg (by have := h.size; omega)]; exact h.block k hk hn⟩
theorem Fr.setCell {S : List Nat} {a w : World} (h : Fr S a w) {b i : Nat} (hp : b ∈ S ∨ a.heap.size ≤ b) (v : Value) : Fr S a (w.setCell ⟨b, i, none⟩ v) :=
  ⟨h.os, h.tape, h.output, by rw [size_set]; exact h.size, fun k hk hn => by
    rw [blk_set, if_neg (by rintro rfl; rcases hp with h1 | h1; exact hn h1; omega)]; exact h.block k hk hn⟩
theorem Fr.at {S : List Nat} {w w' : World} (h : Fr S w w') {k : Nat} {o : Obj} (hk : blk w k = some o) (hn : k ∉ S) : blk w' k = some o :=
  (h.block k (lt_size hk) hn).trans hk
theorem Fr.below {w w' : World} (h : Fr [] w w') : Below w.heap.size w w' := ⟨h.os, h.tape, h.output, h.size, fun k hk => h.block k hk (by simp)⟩
end
section
open Go.ChangeShapes Go.WideShapes Go.RowKit
variable {w w' : World} {base : Nat} {e : TypeId} {size : Nat} {v : Value} {n : Nat} {xs : List Value} {g cap : Nat}
theorem own_blk (h : w.ownsRow base e size (.slice (some ⟨g, 0, none⟩) n cap) n xs) : ∃ cur, blk w g = some (.cells cur e (0, 0)) ∧ base ≤ g ∧ n ≤ cap ∧ cap ≤ maxLen ∧ cur.size = cap * size ∧ cur.toList.take (n * size) = xs ∧ xs.length = n * size := by
  obtain ⟨h1, h2⟩ := h
  rcases h2 with ⟨h2, _⟩ | ⟨g', cap', cur, hv, hb, hh, hn, hc, hs, ht⟩
  · simp at h2
  · simp only [Value.slice.injEq, Option.some.injEq, Addr.mk.injEq, true_and, and_true] at hv
    obtain ⟨rfl, rfl⟩ := hv
    exact ⟨cur, hh, hb, hn, hc, hs, ht, h1⟩
theorem own_cell (h : w.ownsRow base e size (.slice (some ⟨g, 0, none⟩) n cap) n xs) {i : Nat} {u : Value} (hu : xs[i]? = some u) : w.cell? ⟨g, i, none⟩ = some u := by
  obtain ⟨cur, hb, _, _, _, _, ht, _⟩ := own_blk h
  refine cell_of hb ?_
  rw [← ht] at hu
  rw [List.getElem?_take] at hu
  split at hu
  · simpa using hu
  · simp at hu
theorem own_free (h : w.ownsRow base e size (.slice (some ⟨g, 0, none⟩) n cap) n xs) (i : Nat) : w.frozen? ⟨g, i, none⟩ = false := by
  obtain ⟨cur, hb, _⟩ := own_blk h
  exact free_of hb
theorem own_lt (h : w.ownsRow base e size (.slice (some ⟨g, 0, none⟩) n cap) n xs) : g < w.heap.size := by
  obtain ⟨cur, hb, _⟩ := own_blk h
  exact lt_size hb
theorem own_base (h : w.ownsRow base e size (.slice (some ⟨g, 0, none⟩) n cap) n xs) : base ≤ g := by
  obtain ⟨cur, _, hb, _⟩ := own_blk h
  exact hb
theorem own_mk {cur : Array Value} (hb : blk w g = some (.cells cur e (0, 0))) (h0 : base ≤ g) (h1 : n ≤ cap) (h2 : cap ≤ maxLen) (h3 : cur.size = cap * size) (h4 : cur.toList.take (n * size) = xs) :
    w.ownsRow base e size (.slice (some ⟨g, 0, none⟩) n cap) n xs := by
  refine ⟨?_, .inr ⟨g, cap, cur, rfl, h0, hb, h1, h2, h3, h4⟩⟩
  rw [← h4, List.length_take]
  have : n * size ≤ cap * size := Nat.mul_le_mul_right _ h1
  simp; omega
theorem own_set (h : w.ownsRow base e size (.slice (some ⟨g, 0, none⟩) n cap) n xs) (i : Nat) (u : Value) : (w.setCell ⟨g, i, none⟩ u).ownsRow base e size (.slice (some ⟨g, 0, none⟩) n cap) n (xs.set i u) := by
  obtain ⟨cur, hb, h0, h1, h2, h3, h4, h5⟩ := own_blk h
  refine own_mk (cur := cur.setIfInBounds i u) (by rw [blk_set, if_pos rfl, hb]; rfl) h0 h1 h2 (by simpa using h3) ?_
  rw [Array.toList_setIfInBounds, List.take_set, h4]
theorem own_fr {S : List Nat} (h : w.ownsRow base e size v n xs) (hF : Fr S w w') (hS : ∀ x, v.ownBlock = some x → x ∉ S) : w'.ownsRow base e size v n xs := by
  obtain ⟨h1, h2⟩ := h
  refine ⟨h1, ?_⟩
  rcases h2 with h2 | ⟨g, cap, cur, hv, hb, hh, r⟩
  · exact .inl h2
  · exact .inr ⟨g, cap, cur, hv, hb, hF.at (show blk w g = _ from hh) (hS g (by rw [hv]; rfl)), r⟩
theorem grown_fr {row : Option Nat} (h : w.grownBy w' row) : Fr row.toList w w' :=
  ⟨h.os, h.tape, h.output, h.size, fun k hk hn => h.block k hk (fun he => hn (by rw [← he]; simp))⟩
theorem own_take (h : w.ownsRow base e size (.slice (some ⟨g, 0, none⟩) n cap) n xs) (k : Nat) (hk : k ≤ n) : w.ownsRow base e size (.slice (some ⟨g, 0, none⟩) k cap) k (xs.take (k * size)) := by
  obtain ⟨cur, hb, h0, h1, h2, h3, h4, h5⟩ := own_blk h
  refine own_mk hb h0 (by omega) h2 h3 ?_
  rw [← h4, List.take_take]
  congr 1
  have : k * size ≤ n * size := Nat.mul_le_mul_right _ hk
  omega
end
section
open Go.ChangeShapes Go.WideShapes Go.RowKit
section
variable {H : Type} {enc : TypeId × Value → H} {P : Program} {w : World} {spare : Nat → Bool} {held : Bool}
theorem addr_none {w : World} {a : Addr} {v : Value} (h : w.cell? a = some v) : a.spot = none ∧ a.block < w.heap.size := by
  unfold World.cell? at h
  split at h
  · rename_i c e f he
    refine ⟨?_, lt_of_block he⟩
    cases hs : a.spot with
    | none => rfl
    | some x => simp [hs] at h
  · simp at h
theorem add_cell {w : World} {a : Addr} {n : Nat} {v : Value} (hs : a.spot = none) (h : w.cell? (a.add n) = some v) : w.cell? ⟨a.block, a.off + n, none⟩ = some v := by
  unfold Addr.add at h
  split at h
  · subst n; cases a; simp_all
  · exact h
theorem open_int_slice {t e : TypeId} {k : IntKind} {a : Option Addr} {len cap : Nat} {d : DataW H} {p : List MemPlace}
    (ht : P.underlying t = some (.slice e)) (he : P.underlying e = some (.int k)) (hC : P.cellsOf e = 1) (h : DataW.Trod enc P w 0 spare held t (.slice a len cap) d p) :
    ∃ zs : List Int, zs.length = len ∧ (∀ n ∈ zs, (Lit.int k n).wf = true) ∧ len ≤ cap ∧ cap ≤ maxLen ∧
      (len = 0 ∨ ∃ b o, a = some ⟨b, o, none⟩ ∧ b < w.heap.size ∧ ∀ i, i < len → w.cell? ⟨b, o + i, none⟩ = some (.int k (zs[i]?.getD 0))) := by
  obtain ⟨fuel, h⟩ := h
  rcases open_ints ht he hC h with ⟨hcs, _⟩ | ⟨a0, l0, c0, zs, hcs, _, hl, hm, hz, _, hcell, hwz⟩
  · simp [Value.cells] at hcs
    obtain ⟨rfl, rfl, rfl⟩ := hcs
    exact ⟨[], rfl, by simp, Nat.le_refl _, by simp [maxLen], .inl rfl⟩
  · simp [Value.cells] at hcs
    obtain ⟨rfl, rfl, rfl⟩ := hcs
    have hlz : len ≤ zs.length := by rw [hz]; split <;> omega
    refine ⟨zs.take len, by simp; omega, fun n hn => hwz n (List.mem_of_mem_take hn), hl, hm, ?_⟩
    by_cases h0 : len = 0
    · exact .inl h0
    · right
      have hc := hcell 0 (by omega)
      have hs : a0.spot = none ∧ a0.block < w.heap.size := by
        have := addr_none hc
        simp [Addr.add] at this
        exact this
      refine ⟨a0.block, a0.off, by cases a0; simp_all, hs.2, fun i h1 => ?_⟩
      have := add_cell hs.1 (hcell i (by omega))
      rw [this, List.getElem?_take_of_lt h1]
      simp [List.getD]
end
def lc (L : List Nat) : List Value := L.map fun (z : Nat) => .int .u32 (z : Int)
theorem len_lc (L : List Nat) : (lc L).length = L.length := by simp [lc]
theorem lc_get (L : List Nat) (i : Nat) (hi : i < L.length) : (lc L)[i]? = some (.int .u32 ((L[i]?.getD 0 : Nat) : Int)) := by
  simp [lc, hi]
theorem lc_one (L : List Nat) : ∀ u ∈ lc L, u.oneCell' = true := by
  intro u hu
  obtain ⟨z, _, rfl⟩ := List.mem_map.1 hu
  rfl
theorem lc_set (L : List Nat) (i v : Nat) : (lc L).set i (.int .u32 (v : Int)) = lc (L.set i v) := by simp [lc, List.map_set]
theorem lc_append (L M : List Nat) : lc (L ++ M) = lc L ++ lc M := by simp [lc]
theorem lc_take (L : List Nat) (k : Nat) : lc (L.take k) = (lc L).take k := by simp [lc, List.map_take]
structure In (w : World) (a : Option Addr) (cap : Nat) (L : List Nat) : Prop where
  rd : L = [] ∨ ∃ b o, a = some ⟨b, o, none⟩ ∧ b < w.heap.size ∧ ∀ i, i < L.length → w.cell? ⟨b, o + i, none⟩ = some (.int .u32 ((L[i]?.getD 0 : Nat) : Int))
  lim : Lim L
  le : L.length ≤ cap
  cm : cap ≤ maxLen
  sm : L.length ≤ 100000
variable {w w' : World} {a : Option Addr} {cap : Nat} {L : List Nat} {B : Nat}
theorem cell_fr {S : List Nat} (hF : Fr S w w') {b o : Nat} (hb : b < w.heap.size) (hn : b ∉ S) : w'.cell? ⟨b, o, none⟩ = w.cell? ⟨b, o, none⟩ :=
  World.cell?_of_block (w := w) (hF.block b hb hn)
theorem In.fr {S : List Nat} (h : In w a cap L) (hF : Fr S w w') (hS : ∀ x, x ∈ S → w.heap.size ≤ x) : In w' a cap L := by
  refine ⟨?_, h.lim, h.le, h.cm, h.sm⟩
  rcases h.rd with h1 | ⟨b, o, h1, h2, h3⟩
  · exact .inl h1
  · exact .inr ⟨b, o, h1, Nat.lt_of_lt_of_le h2 hF.size, fun i hi => by
      rw [cell_fr hF h2 (fun hm => by have := hS b hm; omega)]; exact h3 i hi⟩
theorem In.keep (h : In w a cap L) (hF : Fr [] w w') : In w' a cap L := h.fr hF (by simp)
theorem In.take (h : In w a cap L) (k : Nat) : In w a cap (L.take k) := by
  refine ⟨?_, lim_take h.lim k, by have := h.le; simp; omega, h.cm, by have := h.sm; simp; omega⟩
  rcases h.rd with h1 | ⟨b, o, h1, h2, h3⟩
  · left; rw [h1]; simp
  · exact .inr ⟨b, o, h1, h2, fun i hi => by
      rw [List.length_take] at hi
      rw [h3 i (by omega), List.getElem?_take_of_lt (by omega)]⟩
theorem In.at (h : In w a cap L) {i : Nat} (hi : i < L.length) : ∃ b o, a = some ⟨b, o, none⟩ ∧ b < w.heap.size ∧ w.cell? ⟨b, o + i, none⟩ = some (.int .u32 ((L[i]?.getD 0 : Nat) : Int)) := by
  rcases h.rd with rfl | ⟨b, o, h1, h2, h3⟩
  · simp at hi
  · exact ⟨b, o, h1, h2, h3 i hi⟩
theorem In.cell {b o : Nat} (h : In w (some ⟨b, o, none⟩) cap L) {i : Nat} (hi : i < L.length) : w.cell? ⟨b, o + i, none⟩ = some (.int .u32 ((L[i]?.getD 0 : Nat) : Int)) := by
  obtain ⟨b', o', h1, _, h3⟩ := h.at hi
  simp only [Option.some.injEq, Addr.mk.injEq] at h1
  obtain ⟨rfl, rfl, _⟩ := h1
  exact h3
structure Nw (w : World) (B : Nat) (a : Option Addr) (cap : Nat) (L : List Nat) : Prop where
  own : w.ownsRow B 84 1 (.slice a L.length cap) L.length (lc L)
  lim : Lim L
  sm : L.length ≤ 100000
theorem Nw.le (h : Nw w B a cap L) : L.length ≤ cap ∧ cap ≤ maxLen := by
  rcases h.own.2 with ⟨h1, h2⟩ | ⟨g, cap', cur, hv, _, _, h1, h2, _⟩
  · simp only [Value.slice.injEq] at h1; obtain ⟨_, h3, h4⟩ := h1; rw [h3, h4]; exact ⟨Nat.le_refl _, Nat.zero_le _⟩
  · simp only [Value.slice.injEq, true_and] at hv; obtain ⟨_, rfl⟩ := hv; exact ⟨h1, h2⟩
theorem Nw.at (h : Nw w B a cap L) {i : Nat} (hi : i < L.length) : ∃ g, a = some ⟨g, 0, none⟩ ∧ B ≤ g ∧ g < w.heap.size := by
  rcases h.own.2 with ⟨_, h2⟩ | ⟨g, cap', cur, hv, hb, hh, h1, h2, _⟩
  · omega
  · simp only [Value.slice.injEq, true_and] at hv
    exact ⟨g, hv.1, hb, lt_of_block hh⟩
theorem Nw.cell {g : Nat} (h : Nw w B (some ⟨g, 0, none⟩) cap L) {i : Nat} (hi : i < L.length) : w.cell? ⟨g, i, none⟩ = some (.int .u32 ((L[i]?.getD 0 : Nat) : Int)) :=
  own_cell h.own (lc_get L i hi)
theorem Nw.free {g : Nat} (h : Nw w B (some ⟨g, 0, none⟩) cap L) (i : Nat) : w.frozen? ⟨g, i, none⟩ = false := own_free h.own i
theorem Nw.lt {g : Nat} (h : Nw w B (some ⟨g, 0, none⟩) cap L) : g < w.heap.size ∧ B ≤ g := ⟨own_lt h.own, own_base h.own⟩
theorem Nw.in (h : Nw w B a cap L) : In w a cap L := by
  refine ⟨?_, h.lim, h.le.1, h.le.2, h.sm⟩
  by_cases h0 : L = []
  · exact .inl h0
  · right
    have hl : 0 < L.length := List.length_pos_iff.2 h0
    obtain ⟨g, rfl, _, hg⟩ := h.at hl
    exact ⟨g, 0, rfl, hg, fun i hi => by rw [Nat.zero_add]; exact h.cell hi⟩
theorem Nw.fr {S : List Nat} (h : Nw w B a cap L) (hF : Fr S w w') (hS : ∀ x, (Value.slice a L.length cap).ownBlock = some x → x ∉ S) : Nw w' B a cap L :=
  ⟨own_fr h.own hF hS, h.lim, h.sm⟩
theorem Nw.keep (h : Nw w B a cap L) (hF : Fr [] w w') : Nw w' B a cap L := h.fr hF (by simp)
theorem Nw.frg {g : Nat} {S : List Nat} (h : Nw w B (some ⟨g, 0, none⟩) cap L) (hF : Fr S w w') (hS : g ∉ S) : Nw w' B (some ⟨g, 0, none⟩) cap L :=
  h.fr hF (by intro x hx; simp only [Value.ownBlock, Option.some.injEq] at hx; rw [← hx]; exact hS)
theorem Nw.base {B' : Nat} (h : Nw w B a cap L) (hB : B' ≤ B) : Nw w B' a cap L := by
  refine ⟨⟨h.own.1, ?_⟩, h.lim, h.sm⟩
  rcases h.own.2 with h1 | ⟨g, cap', cur, hv, hb, r⟩
  · exact .inl h1
  · exact .inr ⟨g, cap', cur, hv, Nat.le_trans hB hb, r⟩
theorem Nw.set {g : Nat} (h : Nw w B (some ⟨g, 0, none⟩) cap L) (i v : Nat) (hv : v < 4294967296) : Nw (w.setCell ⟨g, i, none⟩ (.int .u32 (v : Int))) B (some ⟨g, 0, none⟩) cap (L.set i v) := by
  have h1 := own_set h.own i (.int .u32 (v : Int))
  rw [lc_set] at h1
  refine ⟨by rw [List.length_set]; exact h1, lim_set h.lim i v hv, by rw [List.length_set]; exact h.sm⟩
theorem Nw.take {g : Nat} (h : Nw w B (some ⟨g, 0, none⟩) cap L) (k : Nat) (hk : k ≤ L.length) : Nw w B (some ⟨g, 0, none⟩) cap (L.take k) := by
  have h1 := own_take h.own k hk
  have e : (L.take k).length = k := by simp; omega
  rw [Nat.mul_one, ← lc_take] at h1
  exact ⟨by rw [e]; exact h1, lim_take h.lim k, by rw [e]; have := h.sm; omega⟩
theorem Nw.nil (w : World) (B : Nat) : Nw w B none 0 [] := ⟨World.ownsRow_nil w B _ _, lim_nil, by simp⟩
theorem Nw.new (w : World) (L : List Nat) (cap : Nat) (cur : Array Value) (hB : B ≤ w.heap.size) (hl : Lim L) (hs : L.length ≤ 100000) (h1 : L.length ≤ cap) (h2 : cap ≤ maxLen) (h3 : cur.size = cap) (h4 : cur.toList.take L.length = lc L) :
    Nw (w.alloc (.cells cur 84)) B (some ⟨w.heap.size, 0, none⟩) cap L :=
  ⟨own_mk (cur := cur) (by rw [blk_alloc, if_pos rfl]) hB h1 h2 (by rw [Nat.mul_one]; exact h3) (by rw [Nat.mul_one]; exact h4), hl, hs⟩
theorem Nw.of_own {n : Nat} (h : w.ownsRow B 84 1 (.slice a n cap) n (lc L)) (hl : Lim L) (hs : L.length ≤ 100000) : Nw w B a cap L := by
  have : L.length = n := by have := h.1; rw [len_lc] at this; omega
  subst this; exact ⟨h, hl, hs⟩
theorem own_slice {n : Nat} {v : Value} {xs : List Value} (h : w.ownsRow B 84 1 v n xs) : ∃ a cap, v = .slice a n cap := by
  rcases h.2 with ⟨h1, h2⟩ | ⟨g, cap', cur, hv, _⟩
  · exact ⟨none, 0, by rw [h1, h2]⟩
  · exact ⟨_, _, hv⟩
def Gives (w : World) (L : List Nat) (e : Ending) (w' : World) : Prop := ∃ a cap, e = .returned (.slice a L.length cap) ∧ Nw w' w.heap.size a cap L ∧ Fr [] w w'
theorem gives_mk {L : List Nat} (h : Nw w' w.heap.size a cap L) (hF : Fr [] w w') : Gives w L (.returned (.slice a L.length cap)) w' := ⟨a, cap, rfl, h, hF⟩
theorem info_u32 : (Tryz.prog.info? 84).map (fun i => (i.zero, i.size, i.bytes)) = some (some (.int .u32 0), 1, 4) := by kernel_rfl
def nils (n : Nat) : List Nat := List.replicate n 0
theorem made_u32 (n : Nat) : madeCells #[.int .u32 0] n = (lc (nils n)).toArray := by
  apply Array.ext_getElem?
  intro i
  by_cases hi : i < n <;> simp [madeCells, lc, nils, hi, Nat.mod_one]
theorem run_u32s (w : World) (n c : Nat) (hnc : n ≤ c) (h : c ≤ 1000000) :
    (Instr.makeSlice 34 (.int .i64 (n : Int)) (.int .i64 (c : Int))).run Tryz.prog w = .ok (.slice (some ⟨w.heap.size, 0, none⟩) n c) (w.alloc (.cells (lc (nils c)).toArray 84)) := by
  obtain ⟨i0, hi, hz0, hz1, hz2⟩ := info_parts info_u32
  have := run_make (P := Tryz.prog) w 34 84 i0 (.int .u32 0) Tryz.underlying34 hi hz0 .i64 .i64 (n : Int) c (by omega) (by omega) (by rw [hz2]; omega) (by omega)
  rw [this, hz1]
  simp only [Int.toNat_natCast, Nat.mul_one]
  rw [show (Value.int IntKind.u32 0).cells = #[.int .u32 0] from rfl, made_u32]
theorem lim_nils (n : Nat) : Lim (nils n) := by intro z hz; rw [List.eq_of_mem_replicate hz]; decide
theorem len_nils (n : Nat) : (nils n).length = n := by simp [nils]
theorem Nw.made (w : World) (n c : Nat) (hB : B ≤ w.heap.size) (hnc : n ≤ c) (h : c ≤ 100000) : Nw (w.alloc (.cells (lc (nils c)).toArray 84)) B (some ⟨w.heap.size, 0, none⟩) c (nils n) := by
  refine Nw.new w (nils n) c _ hB (lim_nils n) (by rw [len_nils]; omega) (by rw [len_nils]; exact hnc) (by unfold maxLen; omega) (by simp [len_lc, len_nils]) ?_
  rw [len_nils, ← lc_take]
  simp [nils, List.take_replicate, Nat.min_eq_left hnc]
end
end Go.Proofs.YtcjkgnafpkkjmaaGreatDoor
