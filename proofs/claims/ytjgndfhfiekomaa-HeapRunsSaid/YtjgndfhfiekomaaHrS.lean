/- The document's heap and the program's: each act, and what is told. No program in sight. -/
import Derived.Test.YtjgndfhfiekomaaHrR
set_option linter.all false
namespace Go.Proofs.Ytjgndfhfiekomaa
variable {A A' A2 : Ar} {m : Nat} {G K G' : List Bool} {D : Nat → Option Ob} {O O' : List RO} {r r' : RO} {x : Int}
theorem findR_uniq {i : Nat} (hr : O[i]? = some r) (hx : mkW 1 r.a = x) (hu : ∀ (j : Nat) (rj : RO), O[j]? = some rj → mkW 1 rj.a = x → j = i) : ∀ k, i < k → findR O x k = some i := by
  intro k
  induction k with
  | zero => intro h; omega
  | succ k ih =>
    intro h
    unfold findR
    by_cases hk : k = i
    · subst hk; rw [hr]; simp [hx]
    · rw [if_neg, ih (by omega)]
      intro hc
      cases hq : O[k]? with
      | none => rw [hq] at hc; simp at hc
      | some q =>
        rw [hq] at hc
        exact hk (hu k q hq (by simpa using hc))
theorem findR_no (h : ∀ (j : Nat) (rj : RO), O[j]? = some rj → mkW 1 rj.a ≠ x) : ∀ k, findR O x k = none := by
  intro k
  induction k with
  | zero => rfl
  | succ k ih =>
    unfold findR
    rw [if_neg, ih]
    intro hc
    cases hq : O[k]? with
    | none => rw [hq] at hc; simp at hc
    | some q => rw [hq] at hc; exact h k q hq (by simpa using hc)
/-- A word that was told, or one that tells no object. -/
def Tl (O : List RO) (x : Int) : Prop := (x % 8 ≠ 1 ∧ 0 ≤ x ∧ x < 18446744073709551616) ∨ ∃ (i : Nat) (r : RO), O[i]? = some r ∧ x = mkW 1 r.a
theorem Rel.lt (h : Rel A m O) {i : Nat} (hr : O[i]? = some r) : r.a < 1536 := by
  have h1 := (h.nm r (List.mem_of_getElem? hr)).2.2.2.2.1
  have h2 := h.mm
  have : m * 256 ≤ 6 * 256 := Nat.mul_le_mul_right 256 h2
  omega
theorem Rel.find (h : Rel A m O) {i : Nat} (hr : O[i]? = some r) : findR O (mkW 1 r.a) O.length = some i := by
  refine findR_uniq hr rfl (fun j rj hj he => ?_) _ (lt_getR hr)
  have h1 := h.lt hr
  have h2 := h.lt hj
  exact h.ds j i rj r hj hr (by unfold mkW at he; omega)
theorem Tl.bd (h : Rel A m O) (hx : Tl O x) : 0 ≤ x ∧ x < 18446744073709551616 := by
  rcases hx with ⟨_, h1⟩ | ⟨i, r, hr, rfl⟩
  · exact h1
  · have := h.lt hr; unfold mkW; omega
theorem Rel.parts (h : Rel A m O) (hx : Tl O x) :
    (hereR O x = none ∧ hAt A m x = none ∧ ((movedR O x = (0, false) ∧ movedF A m x = none) ∨ ∃ y, movedR O x = (y, true) ∧ movedF A m x = some y)) ∨
    (∃ (i : Nat) (r : RO), hereR O x = some i ∧ O[i]? = some r ∧ r.dst < 0 ∧ x = pw r.a ∧ Dof O i = some (obOf r) ∧ movedR O x = (0, false) ∧ movedF A m x = none) := by
  obtain ⟨G, K, hg, hm⟩ := h.hg
  rcases hx with ⟨h8, _⟩ | ⟨i, r, hr, rfl⟩
  · have hf : findR O x O.length = none := findR_no (fun j rj hj he => h8 (by have := h.lt hj; unfold mkW at he; omega)) _
    left
    refine ⟨by unfold hereR; rw [hf], by unfold hAt; rw [if_neg (fun hc => h8 hc.1)], .inl ⟨by unfold movedR; rw [hf], by unfold movedF; rw [if_neg (fun hc => h8 hc.1)]⟩⟩
  · have hf := h.find hr
    have hlt := h.lt hr
    have hnm := h.nm r (List.mem_of_getElem? hr)
    have hw : mkW 1 r.a = (r.a : Int) * 8 + 1 := by unfold mkW; omega
    have h1 : ((r.a : Int) * 8 + 1) % 8 = 1 := by omega
    have h2 : ((r.a : Int) * 8 + 1) / 8 = r.a := by omega
    by_cases hd : r.dst < 0
    · right
      have hD := Dof_of hr hd
      have hob := (hg.ob i _ hD).hd
      have hkk := (hg.ob i _ hD).k
      simp only [obOf] at hob
      refine ⟨i, r, ?_, hr, hd, by rw [hw]; rfl, hD, ?_, ?_⟩
      · unfold hereR; rw [hf]; simp only [hr, Option.map_some, Option.getD_some]; rw [if_neg (by omega)]
      · unfold movedR; rw [hf]; simp only [hr, Option.map_some, Option.getD_some]; rw [if_pos hd]
      · unfold movedF
        rw [hw, h2, Int.toNat_natCast, hob, if_neg]
        rintro ⟨_, _, h3⟩
        unfold hdW at h3
        omega
    · left
      obtain ⟨m1, m2, m3⟩ := hm i r hr (by omega)
      have h7 : A.wd r.a % 8 = 7 := by rw [m2]; unfold mkW; omega
      have h77 : A.wd r.a / 8 = r.dst := by rw [m2]; unfold mkW; omega
      refine ⟨?_, ?_, .inr ⟨mkW 1 r.dst, ?_, ?_⟩⟩
      · unfold hereR; rw [hf]; simp only [hr, Option.map_some, Option.getD_some]; rw [if_pos (by omega)]
      · unfold hAt
        rw [hw, h2, Int.toNat_natCast, if_neg]
        rintro ⟨_, _, h3⟩
        omega
      · unfold movedR; rw [hf]; simp only [hr, Option.map_some, Option.getD_some]; rw [if_neg hd]
      · unfold movedF
        rw [hw, h2, Int.toNat_natCast, if_pos ⟨h1, by omega, h7⟩, h77]
theorem Rel.get (h : Rel A m O) (hx : Tl O x) (k : Int) : getF A m x k = getR O x k := by
  rcases h.parts hx with ⟨h1, h2, _⟩ | ⟨i, r, h1, hr, hd, rfl, hD, _⟩
  · unfold getF getR; rw [h1, h2]
  · obtain ⟨G, K, hg, hm⟩ := h.hg
    unfold getR
    rw [h1]
    simp only [hr, Option.map_some, Option.getD_some]
    by_cases hk : k < 0 ∨ (r.fs.length : Int) ≤ k
    · rw [if_pos hk]; exact hg.get_out hD k hk
    · rw [if_neg hk]
      obtain ⟨q, rfl⟩ : ∃ q : Nat, k = (q : Int) := ⟨k.toNat, by omega⟩
      have := hg.get hD q (by simp only [obOf]; omega)
      rw [Int.toNat_natCast]
      exact this
theorem Rel.kind (h : Rel A m O) (hx : Tl O x) : (kindR O x).1 = ((hAt A m x).map fun h => (h.kind : Int)).getD (-1) ∧ (kindR O x).2 = ((hAt A m x).map fun h => (h.n : Int)).getD (-1) ∧ pinnedR O x = ((hAt A m x).map fun h => decide (0 < h.pins)).getD false := by
  rcases h.parts hx with ⟨h1, h2, _⟩ | ⟨i, r, h1, hr, hd, rfl, hD, _⟩
  · unfold kindR pinnedR; rw [h1, h2]; exact ⟨rfl, rfl, rfl⟩
  · obtain ⟨G, K, hg, hm⟩ := h.hg
    have hn := h.nm r (List.mem_of_getElem? hr)
    unfold kindR pinnedR
    rw [h1, show hAt A m (pw r.a) = _ from hg.hat hD]
    simp only [hr, Option.map_some, Option.getD_some, obOf]
    refine ⟨by omega, by first | trivial | rfl, ?_⟩
    congr 1
    exact propext (by omega)
theorem Rel.moved (h : Rel A m O) (hx : Tl O x) : wordVal (movedF A m x) = .tuple #[.int .u64 (movedR O x).1, .bool (movedR O x).2] := by
  rcases h.parts hx with ⟨_, _, ⟨h1, h2⟩ | ⟨y, h1, h2⟩⟩ | ⟨i, r, _, _, _, _, _, h1, h2⟩
  · rw [h1, h2]; rfl
  · rw [h1, h2]; rfl
  · rw [h1, h2]; rfl
theorem Tl.set {i : Nat} {y : Int} (hr : O[i]? = some r) (ha : r'.a = r.a) (h : Tl O y) : Tl (O.set i r') y := by
  rcases h with h | ⟨j, q, hq, rfl⟩
  · exact .inl h
  · by_cases hj : j = i
    · subst hj
      rw [hr] at hq; simp only [Option.some.injEq] at hq; subst hq
      exact .inr ⟨j, r', List.getElem?_set_self (lt_getR hr), by rw [ha]⟩
    · exact .inr ⟨j, q, by rw [List.getElem?_set_ne (Ne.symm hj)]; exact hq, rfl⟩
theorem Tl.snoc {y : Int} (h : Tl O y) : Tl (O ++ [r']) y := by
  rcases h with h | ⟨j, q, hq, rfl⟩
  · exact .inl h
  · exact .inr ⟨j, q, by rw [List.getElem?_append_left (lt_getR hq)]; exact hq, rfl⟩
/-- What a step keeps. -/
def Stp (A A' : Ar) (m : Nat) (O O' : List RO) : Prop := Rel A' m O' ∧ (∀ y, Tl O y → Tl O' y) ∧ O'.length ≤ O.length + 1
theorem Rel.set (h : Rel A m O) (hx : Tl O x) {k v c : Int} {L : Nat} (v0 : 0 ≤ v) (v1 : v < 18446744073709551616) (hs : SetSpec L O x k v O' c) :
    c = (setF A m x k v).2 ∧ Stp A (setF A m x k v).1 m O O' := by
  rcases hs with ⟨rfl, rfl, hn⟩ | ⟨rfl, i, r, fa, fc, h1, hr, hk0, hk1, rfl, _⟩
  · rcases h.parts hx with ⟨h1, h2, _⟩ | ⟨i, r, h1, hr, hd, rfl, hD, _⟩
    · have : setF A m x k v = (A, 151) := by unfold setF; rw [h2]
      rw [this]; exact ⟨rfl, h, fun _ h => h, by omega⟩
    · obtain ⟨G, K, hg, hm⟩ := h.hg
      have hb := hn i r h1 hr
      have := hg.set hD k v v0 v1
      rw [if_neg (by simp only [obOf]; omega)] at this
      simp only [obOf] at this
      rw [this.1, this.2]
      exact ⟨rfl, h, fun _ h => h, by omega⟩
  · rcases h.parts hx with ⟨h2, _⟩ | ⟨i', r', h1', hr', hd, rfl, hD, _⟩
    · rw [h1] at h2; simp at h2
    · rw [h1] at h1'; simp only [Option.some.injEq] at h1'; subst h1'
      rw [hr] at hr'; simp only [Option.some.injEq] at hr'; subst hr'
      obtain ⟨G0, K0, hg0, _⟩ := h.hg
      have hs0 := hg0.set hD k v v0 v1
      rw [if_pos (by simp only [obOf]; omega)] at hs0
      refine ⟨hs0.1.symm, h.upd hr hd rfl rfl (by simp) rfl ?_ (sh_setF _ _ _ _ _) (fun G K hg => ?_) (fun q hq => ?_), fun y hy => hy.set hr rfl, by simp⟩
      · have := h.nm r (List.mem_of_getElem? hr); simp only; omega
      · have := hg.set hD k v v0 v1
        rw [if_pos (by simp only [obOf]; omega)] at this
        exact this.2
      · exact hg0.set_wd hD k v q (by simp only [obOf, Ob.e]; omega)
theorem Rel.pin (h : Rel A m O) (hx : Tl O x) {d : Int} {b : Bool} (hs : PinSpec O x d O' b) :
    b = (pinsF A m x d).2 ∧ Stp A (pinsF A m x d).1 m O O' := by
  rcases hs with ⟨rfl, rfl, hn⟩ | ⟨rfl, i, r, h1, hr, hk0, hk1, rfl⟩
  · rcases h.parts hx with ⟨h1, h2, _⟩ | ⟨i, r, h1, hr, hd, rfl, hD, _⟩
    · have : pinsF A m x d = (A, false) := by unfold pinsF; rw [h2]
      rw [this]; exact ⟨rfl, h, fun _ h => h, by omega⟩
    · obtain ⟨G, K, hg, hm⟩ := h.hg
      have hb := hn i r h1 hr
      have hnm := h.nm r (List.mem_of_getElem? hr)
      have := hg.pin hD d
      rw [if_neg (by simp only [obOf]; omega)] at this
      simp only [obOf] at this
      rw [this.1, this.2]
      exact ⟨rfl, h, fun _ h => h, by omega⟩
  · rcases h.parts hx with ⟨h2, _⟩ | ⟨i', r', h1', hr', hd, rfl, hD, _⟩
    · rw [h1] at h2; simp at h2
    · rw [h1] at h1'; simp only [Option.some.injEq] at h1'; subst h1'
      rw [hr] at hr'; simp only [Option.some.injEq] at hr'; subst hr'
      obtain ⟨G0, K0, hg0, _⟩ := h.hg
      have hnm := h.nm r (List.mem_of_getElem? hr)
      have he : ((obOf r).pins : Int) + d = r.pins + d := by simp only [obOf]; omega
      have hs0 := hg0.pin hD d
      rw [if_pos (by rw [he]; exact ⟨hk0, hk1⟩)] at hs0
      refine ⟨hs0.1.symm, h.upd hr hd rfl rfl rfl rfl ⟨hk0, hk1⟩ (sh_pinsF _ _ _ _) (fun G K hg => ?_) (fun q hq => ?_), fun y hy => hy.set hr rfl, by simp⟩
      · have := hg.pin hD d
        rw [if_pos (by rw [he]; exact ⟨hk0, hk1⟩), he] at this
        exact this.2
      · show (pinsF A m (pw (obOf r).a) d).1.wd q = A.wd q
        unfold pinsF
        rw [hg0.hat hD]
        simp only
        split
        · rfl
        · rw [wd_set, if_neg (by simp only [obOf]; omega)]
end Go.Proofs.Ytjgndfhfiekomaa
