/- Heaps on paper: what a sift up and a sift down do. No program in sight. -/
import Derived.Test.YtdaoaddpbibnmaaBase
set_option linter.all false
namespace Go.Proofs.Ytdaoaddpbibnmaa
section
variable {α : Type} (lt : α → α → Bool)
/-- An order in which of two each may come first only if the other doesn't. -/
structure Order : Prop where
  tr : ∀ a b c, lt b a = false → lt c b = false → lt c a = false
  asym : ∀ a b, lt a b = true → lt b a = false
variable {lt}
theorem Order.rf (h : Order lt) (a : α) : lt a a = false := by
  cases hx : lt a a with
  | false => rfl
  | true => have := h.asym a a hx; rw [hx] at this; exact this
def swapF (g : Nat → α) (i j : Nat) : Nat → α := fun k => if k = i then g j else if k = j then g i else g k
variable (lt)
def HeapF (g : Nat → α) (n : Nat) : Prop := ∀ c, 0 < c → c < n → lt (g c) (g ((c - 1) / 2)) = false
def UpInv (g : Nat → α) (n j : Nat) : Prop := (∀ c, 0 < c → c < n → c ≠ j → lt (g c) (g ((c - 1) / 2)) = false) ∧ (0 < j → ∀ c, 0 < c → c < n → (c - 1) / 2 = j → lt (g c) (g ((j - 1) / 2)) = false)
def DnInv (g : Nat → α) (n i : Nat) : Prop := (∀ c, 0 < c → c < n → (c - 1) / 2 ≠ i → lt (g c) (g ((c - 1) / 2)) = false) ∧ (0 < i → ∀ c, 0 < c → c < n → (c - 1) / 2 = i → lt (g c) (g ((i - 1) / 2)) = false)
variable {lt}
theorem UpInv.exit {g : Nat → α} {n j : Nat} (h : UpInv lt g n j) (he : 0 < j → lt (g j) (g ((j - 1) / 2)) = false) : HeapF lt g n := by
  intro c h0 hc
  by_cases e : c = j
  · subst e; exact he h0
  · exact h.1 c h0 hc e
theorem UpInv.step (ho : Order lt) {g : Nat → α} {n j : Nat} (h : UpInv lt g n j) (hj : 0 < j) (hn : j < n) (hl : lt (g j) (g ((j - 1) / 2)) = true) : UpInv lt (swapF g ((j - 1) / 2) j) n ((j - 1) / 2) := by
  obtain ⟨h1, h2⟩ := h
  constructor
  · intro c c0 cn ci
    unfold swapF
    rw [if_neg ci]
    by_cases hc : c = j
    · subst hc; rw [if_pos rfl, if_pos rfl]; exact ho.asym _ _ hl
    · rw [if_neg hc]
      by_cases hp : (c - 1) / 2 = (j - 1) / 2
      · rw [if_pos hp]
        have := h1 c c0 cn hc
        rw [hp] at this
        exact ho.tr _ _ _ (ho.asym _ _ hl) this
      · rw [if_neg hp]
        by_cases hq : (c - 1) / 2 = j
        · rw [if_pos hq]; exact h2 hj c c0 cn hq
        · rw [if_neg hq]; exact h1 c c0 cn hc
  · intro i0 c c0 cn hp
    have hpar := h1 ((j - 1) / 2) i0 (by omega) (by omega)
    unfold swapF
    rw [if_neg (show ((j - 1) / 2 - 1) / 2 ≠ (j - 1) / 2 by omega), if_neg (show ((j - 1) / 2 - 1) / 2 ≠ j by omega), if_neg (show c ≠ (j - 1) / 2 by omega)]
    by_cases hc : c = j
    · rw [if_pos hc]; exact hpar
    · rw [if_neg hc]
      have := h1 c c0 cn hc
      rw [hp] at this
      exact ho.tr _ _ _ hpar this
theorem DnInv.exit {g : Nat → α} {n i : Nat} (h : DnInv lt g n i) (he : ∀ c, 0 < c → c < n → (c - 1) / 2 = i → lt (g c) (g i) = false) : HeapF lt g n := by
  intro c h0 hc
  by_cases e : (c - 1) / 2 = i
  · rw [e]; exact he c h0 hc e
  · exact h.1 c h0 hc e
theorem DnInv.step (ho : Order lt) {g : Nat → α} {n i j : Nat} (h : DnInv lt g n i) (hj : (j - 1) / 2 = i) (h0 : 0 < j) (hn : j < n) (hl : lt (g j) (g i) = true) (hm : ∀ c, 0 < c → c < n → (c - 1) / 2 = i → lt (g c) (g j) = false) :
    DnInv lt (swapF g i j) n j := by
  obtain ⟨h1, h2⟩ := h
  have hij : i ≠ j := by omega
  constructor
  · intro c c0 cn cp
    unfold swapF
    by_cases hci : c = i
    · subst hci
      rw [if_pos rfl, if_neg (by omega), if_neg cp]
      exact h2 c0 j h0 hn hj
    · rw [if_neg hci]
      by_cases hcj : c = j
      · subst hcj
        rw [if_pos rfl, if_pos hj]
        exact ho.asym _ _ hl
      · rw [if_neg hcj]
        by_cases hq : (c - 1) / 2 = i
        · rw [if_pos hq]; exact hm c c0 cn hq
        · rw [if_neg hq, if_neg cp]; exact h1 c c0 cn hq
  · intro _ c c0 cn hp
    unfold swapF
    rw [hj, if_pos rfl, if_neg (by omega), if_neg (by omega)]
    have := h1 c c0 cn (by omega)
    rwa [hp] at this
theorem HeapF.up {g : Nat → α} {n : Nat} (h : HeapF lt g n) : UpInv lt g (n + 1) n :=
  ⟨fun c h0 hc hne => h c h0 (by omega), fun _ c h0 hc hp => by omega⟩
theorem HeapF.down {g : Nat → α} {n : Nat} (h : HeapF lt g (n + 1)) : DnInv lt (swapF g 0 n) n 0 := by
  refine ⟨fun c h0 hc hp => ?_, fun h => by omega⟩
  unfold swapF
  rw [if_neg (by omega), if_neg (by omega), if_neg hp, if_neg (by omega)]
  exact h c h0 (by omega)
/-- The first one comes first. -/
theorem HeapF.least (ho : Order lt) {g : Nat → α} {n : Nat} (h : HeapF lt g n) (i : Nat) (hi : i < n) : lt (g i) (g 0) = false := by
  induction i using Nat.strongRecOn with
  | _ i ih =>
    by_cases h0 : i = 0
    · subst h0; exact ho.rf _
    · exact ho.tr _ _ _ (ih ((i - 1) / 2) (by omega) (by omega)) (h i (by omega) hi)
theorem HeapF.congr {g g' : Nat → α} {n : Nat} (h : HeapF lt g n) (he : ∀ i, i < n → g' i = g i) : HeapF lt g' n := by
  intro c h0 hc; rw [he c hc, he _ (by omega)]; exact h c h0 hc
theorem UpInv.congr {g g' : Nat → α} {n j : Nat} (h : UpInv lt g n j) (hj : j < n) (he : ∀ i, i < n → g' i = g i) : UpInv lt g' n j :=
  ⟨fun c h0 hc hne => by rw [he c hc, he _ (by omega)]; exact h.1 c h0 hc hne, fun hj0 c h0 hc hp => by rw [he c hc, he _ (by omega)]; exact h.2 hj0 c h0 hc hp⟩
theorem DnInv.congr {g g' : Nat → α} {n i : Nat} (h : DnInv lt g n i) (he : ∀ i, i < n → g' i = g i) : DnInv lt g' n i :=
  ⟨fun c h0 hc hne => by rw [he c hc, he _ (by omega)]; exact h.1 c h0 hc hne, fun hj0 c h0 hc hp => by rw [he c hc, he _ (by omega)]; exact h.2 hj0 c h0 hc hp⟩
end
/-- A list's places as a function. -/
def nth {α : Type} [Inhabited α] (l : List α) (i : Nat) : α := l[i]?.getD default
/-- Two of a list change their places. -/
def swapL {α : Type} [Inhabited α] (l : List α) (i j : Nat) : List α := (l.set i (nth l j)).set j (nth l i)
section
variable {α : Type} [Inhabited α]
theorem len_swapL (l : List α) (i j : Nat) : (swapL l i j).length = l.length := by simp [swapL]
theorem nth_set (l : List α) (i k : Nat) (v : α) (hi : i < l.length) : nth (l.set i v) k = if k = i then v else nth l k := by
  unfold nth
  by_cases h : k = i
  · subst h; rw [List.getElem?_set_self hi, if_pos rfl]; rfl
  · rw [List.getElem?_set_ne (by omega), if_neg h]
theorem nth_swapL (l : List α) (i j k : Nat) (hi : i < l.length) (hj : j < l.length) : nth (swapL l i j) k = swapF (nth l) i j k := by
  unfold swapL swapF
  rw [nth_set _ _ _ _ (by simpa using hj), nth_set _ _ _ _ hi]
  by_cases h1 : k = j
  · rw [if_pos h1]
    by_cases h2 : k = i
    · rw [if_pos h2]; subst h1; subst h2; rfl
    · rw [if_neg h2, if_pos h1]
  · rw [if_neg h1, if_neg h1]
theorem swapL_perm (l : List α) (i j : Nat) (hi : i < l.length) (hj : j < l.length) : (swapL l i j).Perm l := by
  have e : swapL l i j = (l.toArray.swap i j (by simpa using hi) (by simpa using hj)).toList := by
    apply List.ext_getElem?
    intro k
    have e1 : (swapL l i j)[k]? = if k = j then (if j < l.length then some (nth l i) else none) else if k = i then some (nth l j) else l[k]? := by
      unfold swapL
      by_cases h : k = j
      · subst h; rw [if_pos rfl, List.getElem?_set_self (by simpa using hj), if_pos hj]
      · rw [if_neg h, List.getElem?_set_ne (by omega)]
        by_cases h2 : k = i
        · subst h2; rw [if_pos rfl, List.getElem?_set_self hi]
        · rw [if_neg h2, List.getElem?_set_ne (by omega)]
    rw [e1]
    simp only [Array.getElem?_toList, Array.getElem?_swap, List.getElem?_toArray]
    simp only [nth, List.getElem?_eq_getElem hi, List.getElem?_eq_getElem hj, Option.getD_some, if_pos hj]
    by_cases h1 : k = j
    · rw [if_pos h1, if_pos h1.symm]; rfl
    · rw [if_neg h1, if_neg (Ne.symm h1)]
      by_cases h2 : k = i
      · rw [if_pos h2, if_pos h2.symm]; rfl
      · rw [if_neg h2, if_neg (Ne.symm h2)]
  rw [e]
  exact (Array.swap_perm (xs := l.toArray) _ _).toList
end
end Go.Proofs.Ytdaoaddpbibnmaa
