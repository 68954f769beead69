/- The document's heap and the program's: Make, Move. No program in sight. -/
import Derived.Test.YtjgndfhfiekomaaHrS
set_option linter.all false
namespace Go.Proofs.Ytjgndfhfiekomaa
variable {A A' A2 : Ar} {m : Nat} {G K G' : List Bool} {D : Nat → Option Ob} {O O' : List RO} {r r' : RO} {x : Int}
theorem Rel.owns {G K : List Bool} (hg : HG A m G K (Dof O)) (hm : ∀ (j : Nat) (r : RO), O[j]? = some r → 0 ≤ r.dst → own G K r.a ∧ A.wd r.a = mkW 7 r.dst ∧ ∀ i p, Dof O i = some p → ¬ (p.a ≤ r.a ∧ r.a < p.e)) {i : Nat} (hr : O[i]? = some r) : own G K r.a := by
  by_cases hd : r.dst < 0
  · have := (hg.ob i _ (Dof_of hr hd)).gv r.a (by simp only [obOf]; omega) (by simp only [obOf, Ob.e]; omega)
    exact this
  · exact (hm i r hr (by omega)).1
theorem Rel.make (h : Rel A m O) {kd sz y : Int} {b : Bool} {L : Nat} (hs : MakeSpec L A m O kd sz A' O' y b) :
    wordVal (makeF A m kd sz).2 = .tuple #[.int .u64 y, .bool b] ∧ Sh A' (makeF A m kd sz).1 ∧ Stp A (makeF A m kd sz).1 m O O' ∧ (b = true → Tl O' y) := by
  obtain ⟨G, K, hg, hm⟩ := h.hg
  have hk2 := hg.make2 kd sz (Dof_len O)
  rcases hs with ⟨rfl, rfl, rfl, rfl, hb⟩ | ⟨hb, rfl, ⟨rfl, rfl, rfl, ha⟩ | ⟨k, fa, fc, rfl, ha, rfl, rfl, _⟩⟩
  · have : makeF A' m kd sz = (A', none) := by unfold makeF; rw [if_pos (by omega)]
    rw [this]
    exact ⟨rfl, Sh.refl _, ⟨h, fun _ h => h, by omega⟩, fun h => by simp at h⟩
  · have hmf : makeF A m kd sz = ((A.alloc m (sz + 1)).1, none) := by unfold makeF; rw [if_neg (by omega), ha]
    rw [hmf] at hk2 ⊢
    obtain ⟨G', q1, q2, q3⟩ := hk2
    refine ⟨rfl, Sh.refl _, ⟨⟨⟨G', K, q1, fun j q hq hd => ?_⟩, h.ds, h.nm, h.nx.alloc _ _, h.mm⟩, fun _ h => h, by omega⟩, fun h => by simp at h⟩
    obtain ⟨m1, m2, m3⟩ := hm j q hq hd
    exact ⟨q2 _ m1, by rw [q3]; exact m2, m3⟩
  · have hmf : makeF A m kd sz = (fillW (((A.alloc m (sz + 1)).1).set k (hdW kd 0 sz)) (k + 1) (emptyW kd) sz.toNat, some (mkW 1 k)) := by unfold makeF; rw [if_neg (by omega), ha]
    have hle := alloc_le hg.inv.ok (sz + 1) ha
    have hsh : Sh (A.alloc m (sz + 1)).1 (makeF A m kd sz).1 := by rw [hmf]; exact (sh_set _ _ _).trans (sh_fillW _ _ _ _)
    have h2 : (makeF A m kd sz).2 = some (mkW 1 k) := by rw [hmf]
    rw [h2] at hk2
    obtain ⟨o, G', q0, q1, q2, q3, q4, q5, q6, q7⟩ := hk2
    have hoa : o.a = k := by unfold mkW pw at q0; omega
    obtain ⟨rn, hrn⟩ : ∃ rn : RO, rn = ⟨k, kd, 0, -1, List.replicate sz.toNat (emptyW kd), fa, fc⟩ := ⟨_, rfl⟩
    have hob : o = obOf rn := by
      cases o
      simp only at hoa q1 q2 q3
      subst hoa q1 q2 q3
      rw [hrn]; rfl
    subst hob
    rw [← hrn]
    have hrd : rn.dst = -1 := by rw [hrn]
    have hra : rn.a = k := by rw [hrn]
    have hrk : rn.kind = kd := by rw [hrn]
    have hrp : rn.pins = 0 := by rw [hrn]
    have hrf : rn.fs.length = sz.toNat := by rw [hrn]; simp
    have hD : Dof (O ++ [rn]) = updD (Dof O) O.length (obOf rn) := Dof_snoc O (by omega)
    have hno : ¬ own G K rn.a := q7 rn.a (by simp only [obOf]; omega) (by simp only [obOf, Ob.e]; omega)
    have hgt : ∀ (j : Nat) (q : RO), (O ++ [rn])[j]? = some q → (j = O.length ∧ q = rn) ∨ O[j]? = some q := by
      intro j q hq
      rcases Nat.lt_trichotomy j O.length with hj | hj | hj
      · rw [List.getElem?_append_left hj] at hq; exact .inr hq
      · subst hj; simp at hq; exact .inl ⟨rfl, hq.symm⟩
      · rw [List.getElem?_eq_none (by simp; omega)] at hq; simp at hq
    have hbb := (q4.ob O.length (obOf rn) (updD_self _ _ _)).b
    refine ⟨by rw [h2]; rfl, hsh, ⟨⟨⟨G', K, by rw [hD]; exact q4, ?_⟩, ?_, ?_, (h.nx.alloc _ _).sh hsh, h.mm⟩, fun y hy => hy.snoc, by simp⟩, fun _ => .inr ⟨O.length, rn, by simp, by rw [hra]⟩⟩
    · intro j q hq hd
      rcases hgt j q hq with ⟨_, rfl⟩ | hq
      · omega
      · obtain ⟨m1, m2, m3⟩ := hm j q hq hd
        refine ⟨q5 _ m1, by rw [q6 _ m1]; exact m2, fun i p hp hc => ?_⟩
        rw [hD] at hp
        unfold updD at hp
        split at hp
        · simp only [Option.some.injEq] at hp; subst hp
          exact q7 q.a hc.1 hc.2 m1
        · exact m3 i p hp hc
    · intro i j ri rj hi hj he
      rcases hgt i ri hi with ⟨h1, e1⟩ | hi'
      · rcases hgt j rj hj with ⟨h3, e3⟩ | hj'
        · rw [h1, h3]
        · exact absurd (Rel.owns hg hm hj') (by rw [← he, e1]; exact hno)
      · rcases hgt j rj hj with ⟨h3, e3⟩ | hj'
        · exact absurd (Rel.owns hg hm hi') (by rw [he, e3]; exact hno)
        · exact h.ds i j ri rj hi' hj' he
    · intro q hq
      rcases List.mem_append.1 hq with hq | hq
      · exact h.nm q hq
      · rw [List.mem_singleton] at hq
        subst hq
        have hmm := h.mm
        simp only [obOf, Ob.e] at hbb
        omega
theorem Dof_move {i : Nat} {k : Nat} (hr : O[i]? = some r) (hd : r.dst < 0) : Dof (O.set i { r with dst := (k : Int) } ++ [{ r with a := k }]) = fun j => if j = O.length then some { obOf r with a := k } else if j = i then none else Dof O j := by
  have hi := lt_getR hr
  funext j
  by_cases hj : j = O.length
  · subst hj
    rw [if_pos rfl]
    have : (O.set i { r with dst := (k : Int) } ++ [{ r with a := k }])[O.length]? = some { r with a := k } := by
      rw [List.getElem?_append_right (by simp)]; simp
    exact Dof_of this hd
  · rw [if_neg hj]
    by_cases hj2 : j = i
    · subst hj2
      rw [if_pos rfl]
      unfold Dof
      rw [List.getElem?_append_left (by simpa using hi), List.getElem?_set_self hi]
      simp only [Option.bind_some]
      rw [if_neg (by omega)]
    · rw [if_neg hj2]
      unfold Dof
      by_cases hl : j < O.length
      · rw [List.getElem?_append_left (by simpa using hl), List.getElem?_set_ne (Ne.symm hj2)]
      · rw [List.getElem?_eq_none (by simp; omega), List.getElem?_eq_none (by omega)]
theorem Rel.move (h : Rel A m O) (hx : Tl O x) {y : Int} {b : Bool} (hs : MoveSpec A m O x A' O' y b) :
    wordVal (moveF A m x).2 = .tuple #[.int .u64 y, .bool b] ∧ Sh A' (moveF A m x).1 ∧ Stp A (moveF A m x).1 m O O' ∧ (b = true → Tl O' y) := by
  obtain ⟨G, K, hg, hm⟩ := h.hg
  rcases hs with ⟨rfl, rfl, rfl, rfl, hp⟩ | ⟨i, r, h1, hr, hp, rfl, hs⟩
  · have : moveF A' m x = (A', none) := by
      rcases h.parts hx with ⟨_, h2, _⟩ | ⟨i, r, h1, hr, hd, rfl, hD, _⟩
      · unfold moveF; rw [h2]
      · have := hp i r h1 hr
        unfold moveF; rw [show hAt A' m (pw r.a) = _ from hg.hat hD]
        simp only
        rw [if_pos (.inl (by simp only [obOf]; omega))]
    rw [this]
    exact ⟨rfl, Sh.refl _, ⟨h, fun _ h => h, by omega⟩, fun h => by simp at h⟩
  · rcases h.parts hx with ⟨h2, _⟩ | ⟨i', r', h1', hr', hd, rfl, hD, _⟩
    · rw [h1] at h2; simp at h2
    rw [h1] at h1'; simp only [Option.some.injEq] at h1'; subst h1'
    rw [hr] at hr'; simp only [Option.some.injEq] at hr'; subst hr'
    have hnm := h.nm r (List.mem_of_getElem? hr)
    have hat : hAt A m (pw r.a) = some ⟨r.a, r.kind.toNat, r.pins.toNat, r.fs.length⟩ := hg.hat hD
    have hmv := hg.move hD
    rcases hs with ⟨rfl, rfl, rfl, hf⟩ | ⟨k, rfl, hf, rfl, rfl⟩
    · have hmf : moveF A m (pw r.a) = ((A.fresh m ((r.fs.length : Int) + 1)).1, none) := by
        unfold moveF; rw [hat]; simp only; rw [if_neg (by omega), hf]
      have h3 := hmv.2
      rw [show (obOf r).a = r.a from rfl, hmf] at h3
      rw [hmf]
      obtain ⟨q1, q2⟩ := h3
      refine ⟨rfl, Sh.refl _, ⟨⟨⟨G, K, q1, fun j q hq hd' => ?_⟩, h.ds, h.nm, h.nx.fresh _ _, h.mm⟩, fun _ h => h, by omega⟩, fun h => by simp at h⟩
      obtain ⟨m1, m2, m3⟩ := hm j q hq hd'
      exact ⟨m1, by rw [q2]; exact m2, m3⟩
    · have hmf : moveF A m (pw r.a) = ((copyW (A.fresh m ((r.fs.length : Int) + 1)).1 r.a k (r.fs.length + 1)).set r.a (mkW 7 k), some (mkW 1 k)) := by
        unfold moveF; rw [hat]; simp only; rw [if_neg (by omega), hf]
      have hle := fresh_le hg.inv.ok _ hf
      have hsh : Sh (A.fresh m ((r.fs.length : Int) + 1)).1 (moveF A m (pw r.a)).1 := by rw [hmf]; exact (sh_copyW _ _ _ _).trans (sh_set _ _ _)
      have h2 : (moveF A m (pw r.a)).2 = some (mkW 1 k) := by rw [hmf]
      have h3 := hmv.2
      rw [show (obOf r).a = r.a from rfl, h2] at h3
      obtain ⟨k', G', q0, _, q4, q8, q5, q6, q7⟩ := h3
      have hkk : k' = k := by unfold mkW pw at q0; omega
      subst hkk
      have hDm := Dof_move (k := k') hr hd
      have hin := lt_getR hr
      have q4' : HG (moveF A m (pw r.a)).1 m G' K (Dof (O.set i { r with dst := (k' : Int) } ++ [{ r with a := k' }])) := by
        rw [hDm]; exact q4.swap (Dof_len O) (by omega)
      have hbb := (q4.ob i _ (updD_self _ _ _)).b
      simp only [obOf, Ob.e] at hbb
      have hno : ¬ own G K k' := q7 k' (Nat.le_refl _) (by omega)
      have hor : own G K r.a := Rel.owns hg hm hr
      have hgt : ∀ (j : Nat) (q : RO), (O.set i { r with dst := (k' : Int) } ++ [{ r with a := k' }])[j]? = some q → (j = O.length ∧ q = { r with a := k' }) ∨ (j = i ∧ q = { r with dst := (k' : Int) }) ∨ (j ≠ i ∧ O[j]? = some q) := by
        intro j q hq
        rcases Nat.lt_trichotomy j O.length with hj | hj | hj
        · rw [List.getElem?_append_left (by simpa using hj)] at hq
          by_cases hji : j = i
          · subst hji; rw [List.getElem?_set_self hj] at hq; exact .inr (.inl ⟨rfl, by simpa using hq.symm⟩)
          · rw [List.getElem?_set_ne (Ne.symm hji)] at hq; exact .inr (.inr ⟨hji, hq⟩)
        · subst hj
          rw [List.getElem?_append_right (by simp)] at hq
          simp at hq; exact .inl ⟨rfl, hq.symm⟩
        · rw [List.getElem?_eq_none (by simp; omega)] at hq; simp at hq
      refine ⟨by rw [h2]; rfl, hsh, ⟨⟨⟨G', K, q4', ?_⟩, ?_, ?_, (h.nx.fresh _ _).sh hsh, h.mm⟩, fun y hy => (Tl.set (r' := { r with dst := (k' : Int) }) hr rfl hy).snoc, by simp⟩, fun _ => .inr ⟨O.length, { r with a := k' }, by rw [List.getElem?_append_right (by simp)]; simp, rfl⟩⟩
      · intro j q hq hdq
        rcases hgt j q hq with ⟨_, rfl⟩ | ⟨rfl, rfl⟩ | ⟨hji, hq⟩
        · simp only at hdq; omega
        · refine ⟨q5 _ hor, q8, fun i' p hp' hc => ?_⟩
          rw [hDm] at hp'
          simp only at hp' hc
          split at hp'
          · simp only [Option.some.injEq] at hp'; subst hp'
            simp only [obOf, Ob.e] at hc
            exact q7 r.a hc.1 (by simp only [obOf]; omega) hor
          · split at hp'
            · simp at hp'
            · rename_i _ hne
              exact hg.ap i' j p (obOf r) hne hp' hD r.a hc.1 hc.2 (by simp only [obOf]; omega) (by simp only [obOf, Ob.e]; omega)
        · obtain ⟨m1, m2, m3⟩ := hm j q hq hdq
          have hne : q.a ≠ r.a := fun he => hji (h.ds j i q r hq hr he)
          refine ⟨q5 _ m1, by rw [q6 _ m1 hne]; exact m2, fun i' p hp' hc => ?_⟩
          rw [hDm] at hp'
          simp only at hp'
          split at hp'
          · simp only [Option.some.injEq] at hp'; subst hp'
            simp only [obOf, Ob.e] at hc
            exact q7 q.a hc.1 (by simp only [obOf]; omega) m1
          · split at hp'
            · simp at hp'
            · exact m3 i' p hp' hc
      · intro a b ra rb ha hb he
        rcases hgt a ra ha with ⟨h3, rfl⟩ | ⟨h3, rfl⟩ | ⟨h3, ha⟩
        · rcases hgt b rb hb with ⟨h4, rfl⟩ | ⟨h4, rfl⟩ | ⟨h4, hb⟩
          · rw [h3, h4]
          · exact absurd hor (by simp only at he; rw [← he]; exact hno)
          · exact absurd (Rel.owns hg hm hb) (by simp only at he; rw [← he]; exact hno)
        · rcases hgt b rb hb with ⟨h4, rfl⟩ | ⟨h4, rfl⟩ | ⟨h4, hb⟩
          · exact absurd hor (by simp only at he; rw [he]; exact hno)
          · rw [h3, h4]
          · exact absurd (h.ds b i rb r hb hr (by simp only at he; exact he.symm)) h4
        · rcases hgt b rb hb with ⟨h4, rfl⟩ | ⟨h4, rfl⟩ | ⟨h4, hb⟩
          · exact absurd (Rel.owns hg hm ha) (by simp only at he; rw [he]; exact hno)
          · exact absurd (h.ds a i ra r ha hr (by simp only at he; exact he)) h3
          · exact h.ds a b ra rb ha hb he
      · intro q hq
        have hmm := h.mm
        rcases List.mem_append.1 hq with hq | hq
        · rcases List.mem_or_eq_of_mem_set hq with hq | rfl
          · exact h.nm q hq
          · simp only; omega
        · rw [List.mem_singleton] at hq
          subst hq
          simp only
          omega
end Go.Proofs.Ytjgndfhfiekomaa
