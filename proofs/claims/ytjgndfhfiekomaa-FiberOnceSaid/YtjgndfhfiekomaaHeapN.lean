/- The heap on paper: a memory of objects by their words. No program in sight. -/
import Derived.Test.YtjgndfhfiekomaaFibN
namespace Go.Proofs.Ytjgndfhfiekomaa
variable {A A' : Ar} {m : Nat} {L : List Ob}
/-- Make: the object has the kind that was asked for. -/
theorem HK.makeK (h : HK A m L) (kind n x : Int) (hx : (makeF A m kind n).2 = some x) : ∃ o : Ob, x = pw o.a ∧ 0 ≤ n ∧ n ≤ 240 ∧ (o.kind : Int) = kind ∧ o.fs = List.replicate n.toNat (emptyW kind) ∧ HK (makeF A m kind n).1 m (L ++ [o]) := by
  have hm := h.make kind n
  rw [hx] at hm
  obtain ⟨o, e1, n0, n1, fs, p0, hk⟩ := hm
  refine ⟨o, e1, n0, n1, ?_, fs, hk⟩
  obtain ⟨G2, hi⟩ := hk
  have ob := hi.ob L.length o (by simp)
  have hd := ob.hd
  have hb := ob.k
  have hbb := ob.b
  have hee := o.ee
  rw [p0, fs, List.length_replicate] at hd
  clear ob hi
  obtain ⟨G, h⟩ := h
  have hwl := h.inv.ok.wl
  have hml := h.inv.ok.m2
  unfold makeF at hx hd
  by_cases hc : kind < 0 ∨ 32 ≤ kind ∨ n < 0 ∨ 240 < n
  · rw [if_pos hc] at hx; cases hx
  rw [if_neg hc] at hx hd
  have hg := h.inv.alloc (n + 1)
  have hw := alloc_words A m (n + 1)
  unfold GaveOr at hg
  cases ha : (A.alloc m (n + 1)).2 with
  | none => rw [ha] at hx; cases hx
  | some k =>
    rw [ha] at hx hd hg
    obtain ⟨inv, g1, g2, g3, g4, g5⟩ := hg
    have hwl2 : (A.alloc m (n + 1)).1.words.length = m * 256 := by rw [hw, hwl]
    simp only [Option.some.injEq] at hx
    have hgl := h.inv.gl
    rw [e1, mkW_pw k (by omega)] at hx
    have hk : o.a = k := by unfold pw at hx; omega
    rw [hk] at hd
    simp only at hd
    rw [wd_fillW _ _ _ _ (by rw [len_set]; omega), if_neg (by omega), wd_set, if_pos ⟨rfl, by omega⟩] at hd
    unfold hdW at hd
    omega
theorem HK.apart (h : HK A m L) {i j : Nat} {o p : Ob} (hi : L[i]? = some o) (hj : L[j]? = some p) (hij : i ≠ j) : pw o.a ≠ pw p.a := by
  obtain ⟨G, h⟩ := h
  have := h.ap i j o p hij hi hj o.a (by omega) (by rw [o.ee]; omega)
  have he := p.ee
  unfold pw
  intro hc
  exact this (by omega) (by omega)
/-- An object: its kind, how many fields, these. -/
structure MObj where
  kind : Int
  n : Int
  f : Int → Int
def Mem := Int → Option MObj
def Mem.put (M : Mem) (x i v : Int) : Mem := fun y => if y = x then (M x).map fun o => ⟨o.kind, o.n, fun j => if j = i then v else o.f j⟩ else M y
def Mem.new (M : Mem) (x kind n : Int) : Mem := fun y => if y = x then some ⟨kind, n, fun _ => emptyW kind⟩ else M y
def MemObj (L : List Ob) (x : Int) (o : MObj) : Prop := ∃ (j : Nat) (q : Ob), L[j]? = some q ∧ x = pw q.a ∧ (q.kind : Int) = o.kind ∧ (q.fs.length : Int) = o.n ∧ ∀ i : Nat, i < q.fs.length → q.fs[i]?.getD 0 = o.f i
/-- The heap's arena has these objects, and so many blocks' room. -/
structure Hp (A : Ar) (m r : Nat) (M : Mem) : Prop where
  room : Room A m r
  ex : ∃ L, HK A m L ∧ ∀ x o, M x = some o → MemObj L x o
variable {r : Nat} {M : Mem} {x : Int} {o : MObj}
theorem Hp.less {r' : Nat} (h : Hp A m r M) (hr : r' ≤ r) : Hp A m r' M := ⟨h.room.less hr, h.ex⟩
theorem Hp.start {m : Nat} (h1 : 1 ≤ m) (h2 : m ≤ 4096) : Hp (Ar.new m) m m fun _ => none :=
  ⟨Room.new h1 h2, [], ⟨_, ⟨AInv.start h1 h2, new_wd m, fun _ _ h => (by simp at h), fun _ _ _ _ _ h => (by simp at h)⟩⟩, fun _ _ h => (by cases h)⟩
theorem Hp.hat (h : Hp A m r M) (hx : M x = some o) : ∃ a p : Nat, ∃ k : Nat, ∃ n : Nat, hAt A m x = some ⟨a, k, p, n⟩ ∧ (k : Int) = o.kind ∧ (n : Int) = o.n ∧ n ≤ 240 ∧ x % 8 = 1 ∧ W64 x := by
  obtain ⟨L, hk, hm⟩ := h.ex
  obtain ⟨j, q, hq, rfl, e1, e2, e3⟩ := hm x o hx
  have hb := hk.ob hq
  exact ⟨_, _, _, _, hb.1, e1, e2, hb.2.2.1, by unfold pw; omega, hb.2.2.2.1, hb.2.2.2.2.1⟩
theorem Hp.w (h : Hp A m r M) (hx : M x = some o) : W64 x := by
  obtain ⟨_, _, _, _, _, _, _, _, _, h⟩ := h.hat hx; exact h
theorem Hp.tag (h : Hp A m r M) (hx : M x = some o) : x % 8 = 1 := by
  obtain ⟨_, _, _, _, _, _, _, _, h, _⟩ := h.hat hx; exact h
theorem Hp.sz (h : Hp A m r M) (hx : M x = some o) : szF A m x = o.n := by
  obtain ⟨a, p, k, n, h1, h2, h3, h4, _⟩ := h.hat hx
  unfold szF
  rw [h1, ← h3]; rfl
theorem Hp.kd (h : Hp A m r M) (hx : M x = some o) : kdF A m x = o.kind := by
  obtain ⟨a, p, k, n, h1, h2, h3, h4, _⟩ := h.hat hx
  unfold kdF
  rw [h1, ← h2]; rfl
theorem Hp.n (h : Hp A m r M) (hx : M x = some o) : 0 ≤ o.n ∧ o.n ≤ 240 := by
  obtain ⟨a, p, k, n, h1, h2, h3, h4, _⟩ := h.hat hx
  omega
theorem Hp.gt (h : Hp A m r M) (hx : M x = some o) (i : Int) : gtF A m x i = if 0 ≤ i ∧ i < o.n then o.f i else 45 := by
  obtain ⟨L, hk, hm⟩ := h.ex
  obtain ⟨j, q, hq, rfl, e1, e2, e3⟩ := hm x o hx
  unfold gtF
  by_cases hi : 0 ≤ i ∧ i < o.n
  · rw [if_pos hi]
    obtain ⟨k, rfl⟩ : ∃ k : Nat, i = k := ⟨i.toNat, by omega⟩
    rw [hk.get hq k (by omega), if_pos rfl]
    exact e3 k (by omega)
  · rw [if_neg hi]
    have hb := hk.ob hq
    unfold getF
    rw [hb.1]
    simp only
    have hc : i < 0 ∨ (q.fs.length : Int) ≤ i ∨ (m : Int) * 256 ≤ q.a + 1 + i := by omega
    rw [if_pos hc, if_neg (by simp)]
theorem Hp.gl {k n : Int} {f : Int → Int} (h : Hp A m r M) (hx : M x = some ⟨k, n, f⟩) (i : Int) (h0 : 0 ≤ i) (h1 : i < n) : gtF A m x i = f i := by
  rw [h.gt hx, if_pos ⟨h0, h1⟩]
theorem Hp.fw (h : Hp A m r M) (hx : M x = some o) (i : Int) (h0 : 0 ≤ i) (h1 : i < o.n) : W64 (o.f i) := by
  have := h.gt hx i
  rw [if_pos ⟨h0, h1⟩] at this
  rw [← this]
  obtain ⟨L, hk, hm⟩ := h.ex
  exact gtF_w hk.wdA _ _ _
theorem Mem.put_ne (M : Mem) {x y : Int} (i v : Int) (h : y ≠ x) : M.put x i v y = M y := by unfold Mem.put; rw [if_neg h]
theorem Mem.put_eq {M : Mem} {x : Int} {o : MObj} (i v : Int) (hx : M x = some o) : M.put x i v x = some ⟨o.kind, o.n, fun j => if j = i then v else o.f j⟩ := by unfold Mem.put; rw [if_pos rfl, hx]; rfl
theorem Mem.put_lit {M : Mem} {x k n : Int} {f : Int → Int} (i v : Int) (hx : M x = some ⟨k, n, f⟩) : M.put x i v x = some ⟨k, n, fun j => if j = i then v else f j⟩ := Mem.put_eq i v hx
theorem Mem.new_ne (M : Mem) {x y : Int} (k n : Int) (h : y ≠ x) : M.new x k n y = M y := by unfold Mem.new; rw [if_neg h]
theorem Mem.new_eq (M : Mem) (x k n : Int) : M.new x k n x = some ⟨k, n, fun _ => emptyW k⟩ := by unfold Mem.new; rw [if_pos rfl]
theorem Room.st {A : Ar} (h : Room A m r) (x i v : Int) : Room (stF A m x i v) m r := by
  unfold stF setF
  cases hAt A m x with
  | none => exact h
  | some o => simp only; split; exact h; exact h.set _ _
theorem Hp.st (h : Hp A m r M) (hx : M x = some o) {i v : Int} (i0 : 0 ≤ i) (i1 : i < o.n) (hv : W64 v) : Hp (stF A m x i v) m r (M.put x i v) := by
  refine ⟨h.room.st x i v, ?_⟩
  obtain ⟨L, hk, hm⟩ := h.ex
  obtain ⟨j, q, hq, rfl, e1, e2, e3⟩ := hm x o hx
  have hs := hk.set hq i v hv.1 hv.2
  rw [if_pos (by omega)] at hs
  have hjl : j < L.length := by
    rcases Nat.lt_or_ge j L.length with h | h
    · exact h
    · rw [List.getElem?_eq_none h] at hq; cases hq
  refine ⟨_, hs.2, ?_⟩
  intro y p hy
  by_cases hyx : y = pw q.a
  · subst hyx
    rw [Mem.put_eq i v hx] at hy
    injection hy with hy
    subst hy
    refine ⟨j, { q with fs := q.fs.set i.toNat v }, by rw [List.getElem?_set_self hjl], rfl, e1, by simpa using e2, ?_⟩
    intro k hk
    simp only [List.length_set] at hk
    simp only
    by_cases hki : (k : Int) = i
    · rw [if_pos hki, show i.toNat = k by omega, List.getElem?_set_self hk]; rfl
    · rw [if_neg hki, List.getElem?_set_ne (by omega)]; exact e3 k hk
  · rw [Mem.put_ne _ _ _ hyx] at hy
    obtain ⟨j2, q2, hq2, rfl, r⟩ := hm y p hy
    refine ⟨j2, q2, ?_, rfl, r⟩
    rw [List.getElem?_set_ne]
    · exact hq2
    · rintro rfl
      rw [hq] at hq2
      injection hq2 with hq2
      subst hq2
      exact hyx rfl
theorem Room.fill {A : Ar} (h : Room A m r) (p : Nat) (v : Int) (k : Nat) : Room (fillW A p v k) m r := by
  induction k with
  | zero => exact h
  | succ k ih => exact ih.set _ _
theorem Hp.make (h : Hp A m (r + 1) M) (kind n : Int) (k0 : 0 ≤ kind) (k1 : kind < 32) (n0 : 0 ≤ n) (n1 : n ≤ 240) :
    ∃ x, (makeF A m kind n).2 = some x ∧ M x = none ∧ x % 8 = 1 ∧ W64 x ∧ Hp (makeF A m kind n).1 m r (M.new x kind n) := by
  obtain ⟨k, hk1, hk2⟩ := h.room.alloc (n + 1) (by omega) (by omega)
  have hrm : Room (makeF A m kind n).1 m r := by
    unfold makeF
    rw [if_neg (by omega), hk1]
    exact (hk2.set _ _).fill _ _ _
  obtain ⟨x, hx⟩ : ∃ x, (makeF A m kind n).2 = some x := by
    unfold makeF
    rw [if_neg (by omega), hk1]
    exact ⟨_, rfl⟩
  obtain ⟨L, hk, hm⟩ := h.ex
  obtain ⟨q, rfl, _, _, e1, e2, hk3⟩ := hk.makeK kind n x hx
  have hq : (L ++ [q])[L.length]? = some q := by simp
  have hb := hk3.ob hq
  refine ⟨_, hx, ?_, by unfold pw; omega, ⟨hb.2.2.2.1, hb.2.2.2.2.1⟩, hrm, L ++ [q], hk3, ?_⟩
  · cases hM : M (pw q.a) with
    | none => rfl
    | some o =>
      exfalso
      obtain ⟨j, p, hp, e, _⟩ := hm _ o hM
      have hj : j < L.length := by
        rcases Nat.lt_or_ge j L.length with h | h
        · exact h
        · rw [List.getElem?_eq_none h] at hp; cases hp
      exact hk3.apart hq (by rw [List.getElem?_append_left hj]; exact hp) (by omega) e
  · intro y p hy
    by_cases hyx : y = pw q.a
    · subst hyx
      rw [Mem.new_eq] at hy
      injection hy with hy
      subst hy
      refine ⟨L.length, q, hq, rfl, e1, ?_, ?_⟩
      · rw [e2, List.length_replicate]; simp only; omega
      · intro i hi
        rw [e2] at hi ⊢
        rw [List.getElem?_replicate, if_pos (by simpa using hi)]; rfl
    · rw [Mem.new_ne _ _ _ hyx] at hy
      obtain ⟨j, p2, hp2, r⟩ := hm y p hy
      refine ⟨j, p2, ?_, r⟩
      rw [List.getElem?_append_left]
      · exact hp2
      · rcases Nat.lt_or_ge j L.length with h | h
        · exact h
        · rw [List.getElem?_eq_none h] at hp2; cases hp2
end Go.Proofs.Ytjgndfhfiekomaa
