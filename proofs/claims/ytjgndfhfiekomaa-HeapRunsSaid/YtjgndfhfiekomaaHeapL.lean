/- The heap on paper: what each act does with the objects. No program in sight. -/
import Derived.Test.YtjgndfhfiekomaaHeapK
set_option linter.all false
namespace Go.Proofs.Ytjgndfhfiekomaa
variable {A A' : Ar} {m : Nat} {G G' : List Bool} {L : List Ob}
def HK (A : Ar) (m : Nat) (L : List Ob) : Prop := ∃ G, HInv A m G L
/-- The word that tells a place. -/
def pw (a : Nat) : Int := (a : Int) * 8 + 1
theorem mkW_pw (a : Nat) (h : a < 1048577) : mkW 1 a = pw a := by unfold mkW pw; omega
theorem HK.okA (h : HK A m L) : A.Ok m := by obtain ⟨G, h⟩ := h; exact h.inv.ok
theorem HK.wdA (h : HK A m L) : A.Wd := by obtain ⟨G, h⟩ := h; exact h.wd
theorem hAt_ob {o : Ob} (h : ObOk A m G o) : hAt A m (pw o.a) = some ⟨o.a, o.kind, o.pins, o.fs.length⟩ := by
  have hb := h.b
  have he := o.ee
  have hk := h.k
  have hp := h.p
  have hn := h.n
  unfold hAt pw
  have e1 : ((o.a : Int) * 8 + 1) / 8 = o.a := by omega
  rw [e1, Int.toNat_natCast, h.hd]
  unfold hdW
  rw [if_pos ⟨by omega, by omega, by omega⟩]
  congr 2 <;> omega
theorem pw_bd (ok : A.Ok m) {o : Ob} (h : ObOk A m G o) : 0 ≤ pw o.a ∧ pw o.a < 18446744073709551616 := by
  have := h.b
  have := o.ee
  have := ok.m2
  unfold pw
  omega
theorem HK.ob (h : HK A m L) {j : Nat} {o : Ob} (ho : L[j]? = some o) : hAt A m (pw o.a) = some ⟨o.a, o.kind, o.pins, o.fs.length⟩ ∧ o.pins ≤ 7 ∧ o.fs.length ≤ 240 ∧ 0 ≤ pw o.a ∧ pw o.a < 18446744073709551616 ∧ o.e ≤ m * 256 := by
  obtain ⟨G, h⟩ := h
  have hk := h.ob j o ho
  have := pw_bd h.inv.ok hk
  exact ⟨hAt_ob hk, hk.p, hk.n, this.1, this.2, hk.b⟩
theorem HK.get (h : HK A m L) {j : Nat} {o : Ob} (ho : L[j]? = some o) (i : Nat) (hi : i < o.fs.length) : getF A m (pw o.a) i = (o.fs[i]?.getD 0, 0) := by
  have hb := h.ob ho
  obtain ⟨G, h⟩ := h
  have hk := h.ob j o ho
  unfold getF
  rw [hb.1]
  have he := o.ee
  have := hb.2.2.2.2.2
  simp only
  rw [if_neg (by omega)]
  have := hk.fd i (o.fs[i]) (by simp [hi])
  rw [Int.toNat_natCast, this]
  simp [hi]
theorem HK.wf (h : HK A m L) {j : Nat} {o : Ob} (ho : L[j]? = some o) (i : Nat) (hi : i < o.fs.length) : 0 ≤ o.fs[i]?.getD 0 ∧ o.fs[i]?.getD 0 < 18446744073709551616 := by
  obtain ⟨G, h⟩ := h
  have hk := h.ob j o ho
  have := hk.fd i (o.fs[i]) (by simp [hi])
  have h2 := h.wd.at (o.a + 1 + i)
  rw [this] at h2
  simpa [hi] using h2
theorem HInv.in (h : HInv A m G L) {j : Nat} {o : Ob} (ho : L[j]? = some o) : o.e ≤ A.words.length := by
  have := (h.ob j o ho).b
  rw [h.inv.ok.wl]; exact this
/-- Set: the field is another one, or there is no such field. -/
theorem HK.set (h : HK A m L) {j : Nat} {o : Ob} (ho : L[j]? = some o) (i : Int) (v : Int) (v0 : 0 ≤ v) (v1 : v < 18446744073709551616) :
    if 0 ≤ i ∧ i < o.fs.length then (setF A m (pw o.a) i v).2 = 0 ∧ HK (setF A m (pw o.a) i v).1 m (L.set j { o with fs := o.fs.set i.toNat v }) else (setF A m (pw o.a) i v).2 = 151 ∧ (setF A m (pw o.a) i v).1 = A := by
  have hb := h.ob ho
  obtain ⟨G, h⟩ := h
  have hk := h.ob j o ho
  have hin := h.in ho
  have he := o.ee
  unfold setF
  rw [hb.1]
  simp only
  split
  · rename_i hc
    rw [if_neg (by omega)]
    refine ⟨rfl, G, h.upd j _ (h.inv.set _ _) (h.wd.set _ _ v0 v1) ?_ ?_ (fun _ h => h) ?_⟩
    · have he2 : Ob.e { o with fs := o.fs.set i.toNat v } = o.e := by simp [Ob.e]
      refine ⟨hk.k, hk.p, by simpa using hk.n, by rw [he2]; exact hk.b, ?_, ?_, fun q a b => hk.gv q a (by rw [he2] at b; exact b)⟩
      · rw [wd_set, if_neg (by simp; omega)]
        simpa using hk.hd
      · intro q x hx
        simp only at hx ⊢
        rw [wd_set]
        by_cases hq : q = i.toNat
        · subst hq
          rw [List.getElem?_set_self (by omega)] at hx
          rw [if_pos ⟨rfl, by omega⟩]
          simpa using hx
        · rw [List.getElem?_set_ne (by omega)] at hx
          rw [if_neg (by omega)]
          exact hk.fd q x hx
    · intro q p hq hp r h1 h2
      rw [wd_set, if_neg]
      intro hc2
      exact h.ap q j p o hq hp ho r h1 h2 (by omega) (by omega)
    · intro q p hq hp
      have := h.ap j q o p (by omega) ho hp
      have he2 : Ob.e { o with fs := o.fs.set i.toNat v } = o.e := by simp [Ob.e]
      rw [he2]; exact this
  · rename_i hc
    rw [if_pos (by omega)]
    exact ⟨rfl, rfl⟩
/-- Pin, Unpin. -/
theorem HK.pin (h : HK A m L) {j : Nat} {o : Ob} (ho : L[j]? = some o) (d : Int) :
    if 0 ≤ (o.pins : Int) + d ∧ (o.pins : Int) + d ≤ 7 then (pinsF A m (pw o.a) d).2 = true ∧ HK (pinsF A m (pw o.a) d).1 m (L.set j { o with pins := ((o.pins : Int) + d).toNat }) else (pinsF A m (pw o.a) d).2 = false ∧ (pinsF A m (pw o.a) d).1 = A := by
  have hb := h.ob ho
  obtain ⟨G, h⟩ := h
  have hk := h.ob j o ho
  have hin := h.in ho
  have he := o.ee
  have hkk := hk.k
  have hnn := hk.n
  unfold pinsF
  rw [hb.1]
  simp only
  split
  · rename_i hc
    rw [if_neg (by omega)]
    refine ⟨rfl, G, h.upd j _ (h.inv.set _ _) (h.wd.set _ _ (by unfold hdW; omega) (by unfold hdW; omega)) ?_ ?_ (fun _ h => h) ?_⟩
    · refine ⟨hk.k, by simp only; omega, hk.n, hk.b, ?_, ?_, hk.gv⟩
      · rw [wd_set, if_pos ⟨rfl, by omega⟩]
        simp only
        rw [Int.toNat_of_nonneg hc.1]
      · intro q x hx
        simp only at hx ⊢
        rw [wd_set, if_neg (by omega)]
        exact hk.fd q x hx
    · intro q p hq hp r h1 h2
      rw [wd_set, if_neg]
      intro hc2
      exact h.ap q j p o hq hp ho r h1 h2 (by omega) (by omega)
    · intro q p hq hp
      exact h.ap j q o p (by omega) ho hp
  · rename_i hc
    rw [if_pos (by omega)]
    exact ⟨rfl, rfl⟩
theorem wd_fillW (A : Ar) (p : Nat) (v : Int) (k : Nat) (hl : p + k ≤ A.words.length) (i : Nat) : (fillW A p v k).wd i = if p ≤ i ∧ i < p + k then v else A.wd i := by
  have len : ∀ k, (fillW A p v k).words.length = A.words.length := by
    intro k
    induction k with
    | zero => rfl
    | succ k ih => rw [fillW, len_set, ih]
  induction k with
  | zero => rw [fillW, if_neg (by omega)]
  | succ k ih =>
    rw [fillW, wd_set, len, ih (by omega)]
    by_cases h1 : i = p + k
    · rw [if_pos ⟨h1, by omega⟩, if_pos (by omega)]
    · rw [if_neg (by omega)]
      by_cases h2 : p ≤ i ∧ i < p + k
      · rw [if_pos h2, if_pos (by omega)]
      · rw [if_neg h2, if_neg (by omega)]
theorem wd_copyW (A : Ar) (a k n : Nat) (hl : k + n ≤ A.words.length) (hd : Apart a (a + n) k (k + n)) (i : Nat) : (copyW A a k n).wd i = if k ≤ i ∧ i < k + n then A.wd (a + (i - k)) else A.wd i := by
  have len : ∀ n, (copyW A a k n).words.length = A.words.length := by
    intro n
    induction n with
    | zero => rfl
    | succ n ih => rw [copyW, len_set, ih]
  induction n generalizing i with
  | zero => rw [copyW, if_neg (by omega)]
  | succ n ih =>
    have hd' : Apart a (a + n) k (k + n) := fun q a b c d => hd q a (by omega) c (by omega)
    rw [copyW, wd_set, len, ih (by omega) hd' i, ih (by omega) hd' (a + n)]
    rw [if_neg (show ¬ (k ≤ a + n ∧ a + n < k + n) from fun hc => hd (a + n) (by omega) (by omega) hc.1 (by omega))]
    by_cases h1 : i = k + n
    · rw [if_pos ⟨h1, by omega⟩, if_pos (by omega)]
      congr 1; omega
    · rw [if_neg (by omega)]
      by_cases h2 : k ≤ i ∧ i < k + n
      · rw [if_pos h2, if_pos (by omega)]
      · rw [if_neg h2, if_neg (by omega)]
theorem AInv.fillW {K M : List Bool} (h : AInv A m G K M) (p : Nat) (v : Int) (k : Nat) : AInv (fillW A p v k) m G K M := by
  induction k with
  | zero => exact h
  | succ k ih => exact ih.set _ _
theorem AInv.copyW {K M : List Bool} (h : AInv A m G K M) (a p k : Nat) : AInv (copyW A a p k) m G K M := by
  induction k with
  | zero => exact h
  | succ k ih => exact ih.set _ _
theorem Ar.Wd.fillW (h : A.Wd) (p : Nat) (v : Int) (v0 : 0 ≤ v) (v1 : v < 18446744073709551616) (k : Nat) : (fillW A p v k).Wd := by
  induction k with
  | zero => exact h
  | succ k ih => exact ih.set _ _ v0 v1
theorem Ar.Wd.copyW (h : A.Wd) (a p k : Nat) : (copyW A a p k).Wd := by
  induction k with
  | zero => exact h
  | succ k ih => exact ih.set _ _ (ih.at _).1 (ih.at _).2
theorem ones_mono (G : List Bool) (a b : Nat) (i : Nat) (h : G[i]?.getD false = true) : (ones G a b)[i]?.getD false = true := by
  rw [ones_get]
  cases hg : G[i]? with
  | none => rw [hg] at h; simp at h
  | some x => rw [hg] at h; simp at h; subst h; simp
theorem ones_in (G : List Bool) (a b : Nat) (i : Nat) (h0 : a ≤ i) (h1 : i < b) (hl : b ≤ G.length) : (ones G a b)[i]?.getD false = true := by
  rw [ones_get, List.getElem?_eq_getElem (by omega)]
  simp [h0, h1]
/-- Make: one more object, or none. -/
theorem HK.make (h : HK A m L) (kind n : Int) :
    match (makeF A m kind n).2 with
    | none => HK (makeF A m kind n).1 m L
    | some x => ∃ o : Ob, x = pw o.a ∧ 0 ≤ n ∧ n ≤ 240 ∧ o.fs = List.replicate n.toNat (emptyW kind) ∧ o.pins = 0 ∧ HK (makeF A m kind n).1 m (L ++ [o]) := by
  obtain ⟨G, h⟩ := h
  unfold makeF
  by_cases hc : kind < 0 ∨ 32 ≤ kind ∨ n < 0 ∨ 240 < n
  · rw [if_pos hc]
    exact ⟨G, h⟩
  rw [if_neg hc]
  have hg := h.inv.alloc (n + 1)
  have hw := alloc_words A m (n + 1)
  unfold GaveOr at hg
  cases ha : (A.alloc m (n + 1)).2 with
  | none =>
    rw [ha] at hg
    exact ⟨G, h.still hg (h.wd.of hw) (wd_of_words hw) (fun _ h => h)⟩
  | some k =>
    rw [ha] at hg
    obtain ⟨inv, g1, g2, g3, g4, g5⟩ := hg
    have hml := h.inv.ok.m2
    have hwl : (A.alloc m (n + 1)).1.words.length = m * 256 := by rw [hw, h.inv.ok.wl]
    have ev : 0 ≤ emptyW kind ∧ emptyW kind < 18446744073709551616 := by unfold emptyW; split <;> omega
    have hgl := h.inv.gl
    refine ⟨⟨k, kind.toNat, 0, List.replicate n.toNat (emptyW kind)⟩, mkW_pw k (by omega), by omega, by omega, rfl, rfl, ones G k (k + (n + 1).toNat), ?_⟩
    have hv : ∀ q, (fillW (((A.alloc m (n + 1)).1).set k (hdW kind 0 n)) (k + 1) (emptyW kind) n.toNat).wd q = if k + 1 ≤ q ∧ q < k + 1 + n.toNat then emptyW kind else if q = k then hdW kind 0 n else A.wd q := by
      intro q
      rw [wd_fillW _ _ _ _ (by rw [len_set]; omega), wd_set, wd_of_words hw]
      by_cases h1 : k + 1 ≤ q ∧ q < k + 1 + n.toNat
      · rw [if_pos h1, if_pos h1]
      · rw [if_neg h1, if_neg h1]
        by_cases h2 : q = k
        · rw [if_pos ⟨h2, by omega⟩, if_pos h2]
        · rw [if_neg (by omega), if_neg h2]
    have hap : ∀ (i : Nat) (p : Ob), L[i]? = some p → Apart k (k + n.toNat + 1) p.a p.e := by
      intro i p hp q a b c d
      have := (h.ob i p hp).gv q c d
      rw [(g5 q a (by omega)).1] at this
      simp at this
    refine h.push _ ((inv.set _ _).fillW _ _ _) (((h.wd.of hw).set _ _ (by unfold hdW; omega) (by unfold hdW; omega)).fillW _ _ ev.1 ev.2 _) ?_ ?_ (fun i hi => ones_mono _ _ _ i hi) ?_
    · refine ⟨by simp only; omega, by simp, by simp; omega, by simp [Ob.e]; omega, ?_, ?_, ?_⟩
      · rw [hv, if_neg (by simp only; omega), if_pos rfl]
        simp only [List.length_replicate]
        unfold hdW; omega
      · intro i x hx
        simp only at hx ⊢
        rw [List.getElem?_replicate] at hx
        split at hx
        · rw [hv, if_pos (by omega)]; simpa using hx
        · simp at hx
      · intro i a b
        simp only [Ob.e, List.length_replicate] at a b
        exact ones_in _ _ _ i a (by omega) (by omega)
    · intro i p hp q a b
      have := hap i p hp q
      rw [hv, if_neg (fun hc => this (by omega) (by omega) a b), if_neg (fun hc => this (by omega) (by omega) a b)]
    · intro i p hp
      have := hap i p hp
      simpa [Ob.e] using this
/-- Move: it stands elsewhere, or where it stood. -/
theorem HK.move (h : HK A m L) {j : Nat} {o : Ob} (ho : L[j]? = some o) :
    match (moveF A m (pw o.a)).2 with
    | none => HK (moveF A m (pw o.a)).1 m L
    | some x => ∃ k : Nat, x = pw k ∧ o.pins = 0 ∧ HK (moveF A m (pw o.a)).1 m (L.set j { o with a := k }) := by
  have hb := h.ob ho
  obtain ⟨G, h⟩ := h
  have hk := h.ob j o ho
  have hin := h.in ho
  have he := o.ee
  unfold moveF
  rw [hb.1]
  simp only
  by_cases hc : 0 < o.pins ∨ 240 < o.fs.length
  · rw [if_pos hc]
    exact ⟨G, h⟩
  rw [if_neg hc]
  have hg := h.inv.fresh ((o.fs.length : Int) + 1)
  have hw := fresh_words A m ((o.fs.length : Int) + 1)
  unfold GaveOr at hg
  cases ha : (A.fresh m ((o.fs.length : Int) + 1)).2 with
  | none =>
    rw [ha] at hg
    exact ⟨G, h.still hg (h.wd.of hw) (wd_of_words hw) (fun _ h => h)⟩
  | some k =>
    rw [ha] at hg
    obtain ⟨inv, g1, g2, g3, g4, g5⟩ := hg
    have hml := h.inv.ok.m2
    have hgl := h.inv.gl
    have hwl : (A.fresh m ((o.fs.length : Int) + 1)).1.words.length = m * 256 := by rw [hw, h.inv.ok.wl]
    have hap : ∀ (i : Nat) (p : Ob), L[i]? = some p → Apart k (k + o.fs.length + 1) p.a p.e := by
      intro i p hp q a b c d
      have := (h.ob i p hp).gv q c d
      rw [(g5 q a (by omega)).1] at this
      simp at this
    have hself : Apart o.a (o.a + (o.fs.length + 1)) k (k + (o.fs.length + 1)) := fun q a b c d => hap j o ho q c (by omega) a (by omega)
    refine ⟨k, mkW_pw k (by omega), by omega, ones G k (k + ((o.fs.length : Int) + 1).toNat), ?_⟩
    have hv : ∀ q, q ≠ o.a → ((copyW (A.fresh m ((o.fs.length : Int) + 1)).1 o.a k (o.fs.length + 1)).set o.a (mkW 7 k)).wd q = if k ≤ q ∧ q < k + (o.fs.length + 1) then A.wd (o.a + (q - k)) else A.wd q := by
      intro q hq
      rw [wd_set, if_neg (by omega), wd_copyW _ _ _ _ (by omega) hself, wd_of_words hw, wd_of_words hw]
    have e2 : Ob.e { o with a := k } = k + o.fs.length + 1 := rfl
    have hka : ∀ q, k ≤ q → q < k + o.fs.length + 1 → q ≠ o.a := fun q a b hq => hself q (by omega) (by omega) a (by omega)
    refine h.upd j _ ((inv.copyW _ _ _).set _ _) (((h.wd.of hw).copyW _ _ _).set _ _ (by unfold mkW; omega) (by unfold mkW; omega)) ?_ ?_ (fun i hi => ones_mono _ _ _ i hi) ?_
    · refine ⟨hk.k, hk.p, hk.n, by rw [e2]; omega, ?_, ?_, ?_⟩
      · simp only
        rw [hv k (hka k (by omega) (by omega)), if_pos (by omega), show o.a + (k - k) = o.a by omega]
        exact hk.hd
      · intro i x hx
        have hi : i < o.fs.length := by
          rcases Nat.lt_or_ge i o.fs.length with h | h
          · exact h
          · simp only at hx; rw [List.getElem?_eq_none h] at hx; simp at hx
        simp only at hx ⊢
        rw [hv _ (hka _ (by omega) (by omega)), if_pos (by omega), show o.a + (k + 1 + i - k) = o.a + 1 + i by omega]
        exact hk.fd i x hx
      · intro i a b
        rw [e2] at b
        simp only at a
        exact ones_in _ _ _ i a (by omega) (by omega)
    · intro i p hi hp q a b
      rw [hv q (fun hq => h.ap i j p o hi hp ho q a b (by omega) (by omega)), if_neg (fun hc => hap i p hp q hc.1 (by omega) a b)]
    · intro i p hi hp
      rw [e2]
      exact hap i p hp
theorem HK.start {m : Nat} (h1 : 1 ≤ m) (h2 : m ≤ 4096) : HK (Ar.new m) m [] := by
  refine ⟨List.replicate (m * 256) false, AInv.start h1 h2, ?_, by simp, by simp⟩
  intro x hx
  simp only [Ar.new, zeros] at hx
  rw [List.eq_of_mem_replicate hx]; omega
end Go.Proofs.Ytjgndfhfiekomaa
