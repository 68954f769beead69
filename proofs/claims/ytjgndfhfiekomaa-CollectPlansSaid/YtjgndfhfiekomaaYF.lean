import Derived.Test.YtjgndfhfiekomaaYA
import Derived.Test.YtjgndfhfiekomaaColS
/- The law's world on paper: the heap holds what the model says. No program in sight. -/
set_option linter.all false
namespace Go.Proofs.Ytjgndfhfiekomaa
variable {A A' : Ar} {m : Nat} {G K G' K' : List Bool} {D C : Nat → Option Ob} {S S' : Ys} {T : Tr} {ms : List Nat} {cl : Int → Int} {ls ls' : List (List Int)}
/-- A field of the model, and its word. -/
def Fw (D : Nat → Option Ob) (f : Fd) (y : Int) : Prop := (f.k = -1 ∧ y = f.w ∧ y % 8 ≠ 1) ∨ ∃ (k : Nat) (ok : Ob), f.k = (k : Int) ∧ D k = some ok ∧ y = pw ok.a
structure YOb (D : Nat → Option Ob) (x : Mo) (o : Ob) (p : Int) : Prop where
  k : x.kind = o.kind
  l : x.fs.length = o.fs.length
  p : p = o.pins
  f : ∀ i : Nat, i < cntO o → ∃ f : Fd, x.fs[i]? = some f ∧ Fw D f (o.fs[i]?.getD 0)
  r : 16 ≤ o.kind → ∀ (i : Nat) (f : Fd), x.fs[i]? = some f → f.k = -1 ∧ o.fs[i]?.getD 0 = f.w
def Wd64 (x : Int) : Prop := 0 ≤ x ∧ x < 18446744073709551616
structure YI (m : Nat) (A : Ar) (S : Ys) (G K : List Bool) (D : Nat → Option Ob) : Prop where
  hg : HG A m G K D
  un : Unmarked A m
  bd : ∀ j o, D j = some o → j < S.objs.length
  np : S.pins.length = S.objs.length
  n8 : S.roots.length = 8 ∧ S.mr.length = 8
  ob : ∀ (j : Nat) (o : Ob), D j = some o → ∃ (x : Mo) (p : Int), S.objs[j]? = some x ∧ S.pins[j]? = some p ∧ YOb D x o p
  rt : ∀ i : Nat, i < 8 → ∃ f : Fd, S.mr[i]? = some f ∧ Fw D f (S.roots[i]?.getD 0)
  mb : MB S.objs S.mr
  mw : ∀ f, f ∈ S.mr → Wd64 f.w
  mp : ∀ p, p ∈ S.pins → 0 ≤ p ∧ p ≤ 7
theorem Fw.w (hg : HG A m G K D) {f : Fd} {y : Int} (h : Fw D f y) (hw : Wd64 f.w) : Wd64 y := by
  rcases h with ⟨_, h2, _⟩ | ⟨k, ok, _, h3, h4⟩
  · rw [h2]; exact hw
  · rw [h4]; exact hg.pwb h3
theorem YI.rw (h : YI m A S G K D) {i : Nat} (hi : i < 8) : Wd64 (S.roots[i]?.getD 0) := by
  obtain ⟨f, h1, h2⟩ := h.rt i hi
  exact h2.w h.hg (h.mw f (List.mem_of_getElem? h1))
theorem Fw.wok {f : Fd} {y : Int} (h : Fw D f y) : y % 8 ≠ 1 ∨ ∃ k ok, D k = some ok ∧ y = pw ok.a := by
  rcases h with ⟨_, _, h3⟩ | ⟨k, ok, _, h3, h4⟩
  · exact .inl h3
  · exact .inr ⟨k, ok, h3, h4⟩
theorem YI.closed (h : YI m A S G K D) : Closed D := by
  intro j o i hj hi
  obtain ⟨x, p, _, _, h3⟩ := h.ob j o hj
  obtain ⟨f, _, h4⟩ := h3.f i hi
  exact h4.wok
theorem cnt_ob (h : YI m A S G K D) {j : Nat} {o : Ob} (hj : D j = some o) {x : Mo} {p : Int} (hx : YOb D x o p) (hw : ∀ f, f ∈ x.fs → Wd64 f.w) : cntM x.kind x.fs = cntO o := by
  have hk := (h.hg.ob j o hj).k
  have hkk := hx.k
  have hl := hx.l
  unfold cntO
  unfold cntM
  by_cases h1 : 16 ≤ x.kind
  · rw [if_pos h1]
    unfold countF
    rw [if_pos (by omega)]; rfl
  · rw [if_neg h1]
    by_cases h2 : x.kind ≠ 15 ∨ (x.fs.length : Int) < 2
    · rw [if_pos h2]
      unfold countF
      rw [if_neg (by omega), if_pos (by omega)]
      omega
    · rw [if_neg h2]
      have hc2 : 2 ≤ cntO o := by
        unfold cntO countF
        rw [if_neg (by omega), if_neg (by omega)]
        split <;> omega
      obtain ⟨f, hf, hfw⟩ := hx.f 1 (by omega)
      have hfm := hw f (List.mem_of_getElem? hf)
      rw [hf, Option.getD_some]
      have hcf : countF o.kind o.fs.length (o.fs[1]?.getD 0) = if o.fs[1]?.getD 0 % 8 ≠ 0 ∨ wVal (o.fs[1]?.getD 0) < 0 then 2 else 2 + min (wVal (o.fs[1]?.getD 0)) ((o.fs.length : Int) - 2) := by
        unfold countF
        rw [if_neg (by omega), if_neg (by omega)]
      rw [hcf]
      rcases hfw with ⟨f1, f2, f3⟩ | ⟨k, ok, f1, f2, f3⟩
      · rw [f2, f1]
        obtain ⟨w0, w1⟩ := hfm
        by_cases c1 : f.w % 8 ≠ 0
        · rw [if_pos (.inr (.inl c1)), if_pos (.inl c1)]; rfl
        · by_cases c2 : 9223372036854775808 ≤ f.w
          · have : wVal f.w < 0 := by unfold wVal; rw [if_pos ⟨by omega, c2⟩]; omega
            rw [if_pos (.inr (.inr c2)), if_pos (.inr this)]; rfl
          · have hv : wVal f.w = f.w / 8 := by unfold wVal; rw [if_neg (by omega)]
            rw [if_neg (show ¬(0 ≤ (-1 : Int) ∨ f.w % 8 ≠ 0 ∨ 9223372036854775808 ≤ f.w) by omega), hv, if_neg (show ¬(f.w % 8 ≠ 0 ∨ f.w / 8 < 0) by omega)]
            split <;> omega
      · rw [f3, if_pos (.inl (by omega)), if_pos (.inl (by rw [pw_mod]; omega))]; rfl
theorem YI.cnt (h : YI m A S G K D) {j : Nat} {o : Ob} (hj : D j = some o) {x : Mo} {p : Int} (hx : S.objs[j]? = some x) (ho : YOb D x o p) : cntM x.kind x.fs = cntO o :=
  cnt_ob h hj ho (fun f hf => ((h.mb.f x (List.mem_of_getElem? hx)).2 f hf).1)
theorem Reach.some {ls : List (List Int)} {j : Nat} (h : Reach D ls j) : ∃ o, D j = .some o := by
  cases h with
  | root l x j o _ _ h _ => exact ⟨o, h⟩
  | field j o i k ok _ _ _ h _ => exact ⟨ok, h⟩
/-- The model reaches what the heap does. -/
theorem YI.reach (h : YI m A S G K D) (hl : ∀ x, (∃ l, l ∈ ls ∧ x ∈ l) ↔ x ∈ S.roots) (j : Nat) : RchM S.objs S.mr j ↔ Reach D ls j := by
  have hr8 := h.n8.1
  have hm8 := h.n8.2
  constructor
  · intro hr
    induction hr with
    | root i f j h1 h2 =>
      have hi := lt_some h1
      obtain ⟨f', h3, h4⟩ := h.rt i (by omega)
      rw [h1] at h3
      injection h3 with h3
      subst h3
      rcases h4 with ⟨h5, _⟩ | ⟨k, ok, h5, h6, h7⟩
      · omega
      · have : k = j := by omega
        subst this
        obtain ⟨l, a1, a2⟩ := (hl (S.roots[i]?.getD 0)).2 (by rw [List.getElem?_eq_getElem (by omega)]; exact List.getElem_mem _)
        exact .root l _ k ok a1 a2 h6 h7
    | field j x i f k _ h2 h3 h4 h5 ih =>
      obtain ⟨o, ho⟩ := ih.some
      obtain ⟨x', p, a1, a2, a3⟩ := h.ob j o ho
      rw [h2] at a1
      injection a1 with a1
      subst a1
      have hc := h.cnt ho h2 a3
      obtain ⟨f', b1, b2⟩ := a3.f i (by omega)
      rw [h4] at b1
      injection b1 with b1
      subst b1
      rcases b2 with ⟨b3, _⟩ | ⟨q, oq, b3, b4, b5⟩
      · omega
      · have : q = k := by omega
        subst this
        exact .field j o i q oq ih ho (by omega) b4 b5
  · intro hr
    induction hr with
    | root l x j o h1 h2 h3 h4 =>
      have hx := (hl x).1 ⟨l, h1, h2⟩
      obtain ⟨i, hi, hix⟩ := List.getElem_of_mem hx
      obtain ⟨f, a1, a2⟩ := h.rt i (by omega)
      rw [List.getElem?_eq_getElem hi, Option.getD_some, hix] at a2
      rcases a2 with ⟨_, _, a3⟩ | ⟨k, ok, a3, a4, a5⟩
      · rw [h4, pw_mod] at a3; exact absurd rfl a3
      · have := h.hg.uniq h3 a4 (pw_inj (h4.symm.trans a5))
        subst this
        exact .root i f j a1 a3
    | field j o i k ok _ h2 h3 h4 h5 ih =>
      obtain ⟨x, p, a1, a2, a3⟩ := h.ob j o h2
      have hc := h.cnt h2 a1 a3
      obtain ⟨f, b1, b2⟩ := a3.f i h3
      rw [h5] at b2
      rcases b2 with ⟨_, _, b3⟩ | ⟨q, oq, b3, b4, b5⟩
      · rw [pw_mod] at b3; exact absurd rfl b3
      · have := h.hg.uniq h4 b4 (pw_inj b5)
        subst this
        exact .field j x i f k ih a1 (by omega) b1 b3
theorem Fw.tx (hg : HG A m G K D) {f : Fd} {x y : Int} (h : Fw D f x) (ht : Tx D C ms x y) : Fw (keptD C ms) f y := by
  rcases h with ⟨h1, h2, h3⟩ | ⟨k, ok, h1, h2, h3⟩
  · have := ht.non h3
    exact .inl ⟨h1, by rw [this]; exact h2, by rw [this]; exact h3⟩
  · subst h3
    obtain ⟨hm, c, hc, hy⟩ := Tx.ob hg h2 ht
    exact .inr ⟨k, c, h1, by unfold keptD; rw [if_pos hm]; exact hc, hy⟩
/-- Behind a collection the heap holds what the model says. -/
theorem YI.after (h : YI m A S G K D) (AF : After D m cl ls ls' T G' K' C ms) {R : List Int} (hR : R.length = 8) (ht : ∀ i, i < 8 → Tx D C ms (S.roots[i]?.getD 0) (R[i]?.getD 0)) :
    YI m T.A.sweep { S with roots := R } G' K' (keptD C ms) := by
  refine ⟨AF.hg, AF.mr, AF.bd h.bd, h.np, ⟨hR, h.n8.2⟩, ?_, ?_, h.mb, h.mw, h.mp⟩
  · intro j c hj
    obtain ⟨hm, hc⟩ := kept_some hj
    obtain ⟨o, c', a1, a2, a3, _⟩ := AF.mo j hm
    rw [hc] at a2
    injection a2 with a2
    subst a2
    obtain ⟨x, p, b1, b2, b3⟩ := h.ob j o a1
    have hce := cnt_cur a3
    refine ⟨x, p, b1, b2, by rw [a3.k]; exact b3.k, by rw [a3.l]; exact b3.l, by rw [a3.q]; exact b3.p, ?_, ?_⟩
    · intro i hi
      rw [hce] at hi
      obtain ⟨f, e1, e2⟩ := b3.f i hi
      exact ⟨f, e1, e2.tx h.hg (a3.a i hi (Nat.lt_of_lt_of_le hi (cntO_le o)))⟩
    · intro hk i f hf
      rw [a3.k] at hk
      have h0 : cntO o = 0 := by
        have := (h.hg.ob j o a1).k
        unfold cntO countF
        rw [if_pos (by omega)]; rfl
      rw [a3.b i (by omega)]
      exact b3.r hk i f hf
  · intro i hi
    obtain ⟨f, a1, a2⟩ := h.rt i hi
    exact ⟨f, a1, a2.tx h.hg (ht i hi)⟩
theorem cntT_eq (L : List Bool) : cntT L = cntB (fun j => L[j]?.getD false) L.length := by
  have key : ∀ n, n ≤ L.length → cntT (L.take n) = cntB (fun j => L[j]?.getD false) n := by
    intro n
    induction n with
    | zero => intro _; simp [cntT, cntB]
    | succ n ih =>
      intro hn
      simp only [cntB]
      have e : L[n]? = some L[n] := List.getElem?_eq_getElem (by omega)
      have hi := ih (by omega)
      unfold cntT at hi ⊢
      rw [List.take_add_one, List.countP_append, hi]
      simp only [e, Option.toList_some, List.countP_cons, List.countP_nil, Nat.zero_add, Option.getD_some]
      rfl
  have := key L.length (Nat.le_refl _)
  rwa [List.take_length] at this
/-- Just so many live as the model reaches. -/
theorem YI.live (h : YI m A S G K D) (AF : After D m cl ls ls' T G' K' C ms) (hl : ∀ x, (∃ l, l ∈ ls ∧ x ∈ l) ↔ x ∈ S.roots) {L : List Bool} (hL : L.length = S.objs.length) (hr : ∀ j : Nat, L[j]?.getD false = true ↔ RchM S.objs S.mr j) : T.live = cntT L := by
  rw [AF.lv, cntT_eq, len_count (fun j => L[j]?.getD false) L.length ms AF.nd]
  intro j
  rw [AF.md, ← h.reach hl, ← hr, hL]
  constructor
  · intro h1
    refine ⟨?_, h1⟩
    obtain ⟨o, ho⟩ := ((h.reach hl j).1 ((hr j).1 h1)).some
    exact h.bd j o ho
  · exact fun h1 => h1.2
end Go.Proofs.Ytjgndfhfiekomaa
/- The law's steps on paper: what is done with the heap is done with the model. No program in sight. -/
namespace Go.Proofs.Ytjgndfhfiekomaa
variable {A A' : Ar} {m : Nat} {G K G' K' : List Bool} {D D' : Nat → Option Ob} {S S' : Ys}
theorem Fw.upd {f : Fd} {y : Int} (h : Fw D f y) {j : Nat} {o o' : Ob} (hj : D j = some o) (ha : o'.a = o.a) : Fw (updD D j o') f y := by
  rcases h with h | ⟨k, ok, h1, h2, h3⟩
  · exact .inl h
  · by_cases hk : k = j
    · subst hk
      rw [hj] at h2
      injection h2 with h2
      subst h2
      exact .inr ⟨k, o', h1, updD_self _ _ _, by rw [h3, ha]⟩
    · exact .inr ⟨k, ok, h1, by rw [updD_ne _ _ hk]; exact h2, h3⟩
theorem Fw.new {f : Fd} {y : Int} (h : Fw D f y) {j : Nat} {o' : Ob} (hj : D j = none) : Fw (updD D j o') f y := by
  rcases h with h | ⟨k, ok, h1, h2, h3⟩
  · exact .inl h
  · have hk : k ≠ j := fun he => by rw [he, hj] at h2; cases h2
    exact .inr ⟨k, ok, h1, by rw [updD_ne _ _ hk]; exact h2, h3⟩
theorem Fw.plain (w : Int) (hw : w % 8 ≠ 1) : Fw D ⟨w, -1⟩ w := .inl ⟨rfl, rfl, hw⟩
theorem Fw.kb (hb : ∀ j o, D j = some o → j < S.objs.length) {f : Fd} {y : Int} (h : Fw D f y) : -1 ≤ f.k ∧ f.k < S.objs.length := by
  rcases h with ⟨h1, _⟩ | ⟨k, ok, h1, h2, _⟩
  · rw [h1]; omega
  · have := hb k ok h2; rw [h1]; omega
theorem YOb.upd {x : Mo} {q : Ob} {p : Int} (h : YOb D x q p) {j : Nat} {o o' : Ob} (hj : D j = some o) (ha : o'.a = o.a) : YOb (updD D j o') x q p :=
  ⟨h.k, h.l, h.p, fun i hi => by obtain ⟨f, h1, h2⟩ := h.f i hi; exact ⟨f, h1, h2.upd hj ha⟩, h.r⟩
theorem YOb.new {x : Mo} {q : Ob} {p : Int} (h : YOb D x q p) {j : Nat} {o' : Ob} (hj : D j = none) : YOb (updD D j o') x q p :=
  ⟨h.k, h.l, h.p, fun i hi => by obtain ⟨f, h1, h2⟩ := h.f i hi; exact ⟨f, h1, h2.new hj⟩, h.r⟩
/-- A root is another one. -/
theorem YI.setRoot (h : YI m A S G K D) {i : Nat} (hi : i < 8) {f : Fd} {y : Int} (hf : Fw D f y) (hw : Wd64 f.w) : YI m A { S with roots := S.roots.set i y, mr := S.mr.set i f } G K D := by
  have n8 := h.n8
  have hk := hf.kb (S := S) h.bd
  refine ⟨h.hg, h.un, h.bd, h.np, by simpa using n8, h.ob, ?_, ⟨h.mb.n, by simpa using h.mb.r, ?_, h.mb.f⟩, ?_, h.mp⟩
  · intro q hq
    by_cases hqi : q = i
    · subst hqi
      refine ⟨f, List.getElem?_set_self (by omega), ?_⟩
      show Fw D f ((S.roots.set q y)[q]?.getD 0)
      rw [List.getElem?_set_self (by omega)]
      exact hf
    · obtain ⟨f', h1, h2⟩ := h.rt q hq
      refine ⟨f', by simp only; rw [List.getElem?_set_ne (Ne.symm hqi)]; exact h1, ?_⟩
      show Fw D f' ((S.roots.set i y)[q]?.getD 0)
      rw [List.getElem?_set_ne (Ne.symm hqi)]
      exact h2
  · intro g hg
    rcases List.mem_or_eq_of_mem_set hg with hg | hg
    · exact h.mb.m g hg
    · subst hg; exact hk
  · intro g hg
    rcases List.mem_or_eq_of_mem_set hg with hg | hg
    · exact h.mw g hg
    · subst hg; exact hw
/-- An object is another one, at its place. -/
theorem YI.obj (h : YI m A S G K D) {j : Nat} {o o' : Ob} (hj : D j = some o) (ha : o'.a = o.a) {x' : Mo} {p' : Int} (hg : HG A' m G K (updD D j o')) (un : Unmarked A' m)
    (hob : YOb (updD D j o') x' o' p') (hx : x'.fs.length ≤ 240 ∧ ∀ f, f ∈ x'.fs → (0 ≤ f.w ∧ f.w < 18446744073709551616) ∧ -1 ≤ f.k ∧ f.k < S.objs.length) (hp : 0 ≤ p' ∧ p' ≤ 7) :
    YI m A' { S with objs := S.objs.set j x', pins := S.pins.set j p' } G K (updD D j o') := by
  have hjn := h.bd j o hj
  have np := h.np
  refine ⟨hg, un, ?_, by simpa using np, h.n8, ?_, ?_, ⟨by simpa using h.mb.n, h.mb.r, by simpa using h.mb.m, ?_⟩, h.mw, ?_⟩
  · intro i q hi
    simp only [List.length_set]
    by_cases hij : i = j
    · subst hij; exact hjn
    · rw [updD_ne _ _ hij] at hi; exact h.bd i q hi
  · intro i q hi
    by_cases hij : i = j
    · subst hij
      rw [updD_self] at hi
      injection hi with hi
      subst hi
      exact ⟨x', p', List.getElem?_set_self hjn, List.getElem?_set_self (by omega), hob⟩
    · rw [updD_ne _ _ hij] at hi
      obtain ⟨x, p, h1, h2, h3⟩ := h.ob i q hi
      exact ⟨x, p, by simp only; rw [List.getElem?_set_ne (Ne.symm hij)]; exact h1, by simp only; rw [List.getElem?_set_ne (Ne.symm hij)]; exact h2, h3.upd hj ha⟩
  · intro i hi
    obtain ⟨f, h1, h2⟩ := h.rt i hi
    exact ⟨f, h1, h2.upd hj ha⟩
  · intro x hxm
    simp only [List.length_set]
    rcases List.mem_or_eq_of_mem_set hxm with hxm | hxm
    · exact h.mb.f x hxm
    · subst hxm; exact hx
  · intro p hpm
    rcases List.mem_or_eq_of_mem_set hpm with hpm | hpm
    · exact h.mp p hpm
    · subst hpm; exact hp
theorem cntO_set {o : Ob} {i : Nat} {y : Int} (hc : ¬ (o.kind = 15 ∧ i = 1)) : cntO { o with fs := o.fs.set i y } = cntO o := by
  unfold cntO countF
  simp only [List.length_set]
  by_cases hi : i = 1
  · have hk : o.kind ≠ 15 := fun hk => hc ⟨hk, hi⟩
    by_cases h1 : 16 ≤ (o.kind : Int) ∧ (o.kind : Int) < 32
    · rw [if_pos h1, if_pos h1]
    · rw [if_neg h1, if_neg h1, if_pos (by omega), if_pos (by omega)]
  · rw [List.getElem?_set_ne hi]
theorem set_same {α : Type} {l : List α} {j : Nat} {x : α} (h : l[j]? = some x) : l.set j x = l := by
  apply List.ext_getElem?
  intro i
  by_cases hi : i = j
  · subst hi; rw [List.getElem?_set_self (lt_some h), h]
  · rw [List.getElem?_set_ne (Ne.symm hi)]
/-- A field is another one: not the second one of a stack. -/
theorem YI.setF (h : YI m A S G K D) {j : Nat} {o : Ob} (hj : D j = some o) {x : Mo} (hx : S.objs[j]? = some x) {i : Nat} (hi : i < x.fs.length) (hc : ¬ (x.kind = 15 ∧ i = 1)) {f : Fd} {y : Int} (hf : Fw D f y) (hw : Wd64 f.w) (hr : 16 ≤ x.kind → f.k = -1) :
    (setF A m (pw o.a) i y).2 = 0 ∧ YI m (setF A m (pw o.a) i y).1 { S with objs := S.objs.set j { x with fs := x.fs.set i f } } G K (updD D j { o with fs := o.fs.set i y }) := by
  obtain ⟨x', p, h1, h2, h3⟩ := h.ob j o hj
  rw [hx] at h1
  injection h1 with h1
  subst h1
  have hy := hf.w h.hg hw
  have hfk := hf.kb (S := S) h.bd
  have hk := h3.k
  have hl := h3.l
  obtain ⟨q1, q2⟩ := h.hg.setS hj i (by omega) hy.1 hy.2
  refine ⟨q1, ?_⟩
  have hxb := h.mb.f x (List.mem_of_getElem? hx)
  have := h.obj (o' := { o with fs := o.fs.set i y }) (x' := { x with fs := x.fs.set i f }) (p' := p) hj rfl q2 (h.un.set _ _ _) ⟨hk, by simpa using hl, h3.p, ?_, ?_⟩ ⟨by simpa using hxb.1, ?_⟩ (h.mp p (List.mem_of_getElem? h2))
  · simpa only [set_same h2] using this
  · intro q hq
    rw [cntO_set (by omega)] at hq
    by_cases hqi : q = i
    · subst hqi
      refine ⟨f, List.getElem?_set_self hi, ?_⟩
      simp only
      rw [List.getElem?_set_self (by omega)]
      exact hf.upd hj rfl
    · obtain ⟨g, a1, a2⟩ := h3.f q hq
      refine ⟨g, by simp only; rw [List.getElem?_set_ne (Ne.symm hqi)]; exact a1, ?_⟩
      simp only
      rw [List.getElem?_set_ne (Ne.symm hqi)]
      exact a2.upd hj rfl
  · intro h16 q g hg
    simp only at h16 hg ⊢
    by_cases hqi : q = i
    · subst hqi
      rw [List.getElem?_set_self hi] at hg
      injection hg with hg
      subst hg
      rw [List.getElem?_set_self (by omega)]
      have hfk1 := hr (by omega)
      rcases hf with ⟨_, b2, _⟩ | ⟨k, ok, b1, _⟩
      · exact ⟨hfk1, b2⟩
      · omega
    · rw [List.getElem?_set_ne (Ne.symm hqi)] at hg ⊢
      exact h3.r h16 q g hg
  · intro g hg
    rcases List.mem_or_eq_of_mem_set hg with hg | hg
    · exact hxb.2 g hg
    · subst hg; exact ⟨hw, hfk⟩
/-- The second field of a stack is another one, and all behind it are nothing. -/
theorem YI.setS (h : YI m A S G K D) {j : Nat} {o : Ob} (hj : D j = some o) {x : Mo} (hx : S.objs[j]? = some x) (h15 : x.kind = 15) (h2l : 2 ≤ x.fs.length) {f : Fd} {y : Int} (hf : Fw D f y) (hw : Wd64 f.w)
    {ys : List Int} {gs : List Fd} (yl : ys.length = o.fs.length) (gl : gs.length = x.fs.length) (y0 : ys[0]? = o.fs[0]?) (g0 : gs[0]? = x.fs[0]?) (y1 : ys[1]? = some y) (g1 : gs[1]? = some f)
    (yz : ∀ i : Nat, 2 ≤ i → i < ys.length → ys[i]? = some 0 ∧ gs[i]? = some ⟨0, -1⟩) (hg : HG A' m G K (updD D j { o with fs := ys })) (un : Unmarked A' m) :
    YI m A' { S with objs := S.objs.set j { x with fs := gs } } G K (updD D j { o with fs := ys }) := by
  obtain ⟨x', p, h1, h2, h3⟩ := h.ob j o hj
  rw [hx] at h1
  injection h1 with h1
  subst h1
  have hfk := hf.kb (S := S) h.bd
  have hk := h3.k
  have hl := h3.l
  have hxb := h.mb.f x (List.mem_of_getElem? hx)
  have hc0 : 0 < cntO o := by
    unfold cntO countF
    rw [if_neg (by omega), if_neg (by omega)]
    split <;> omega
  have := h.obj (o' := { o with fs := ys }) (x' := { x with fs := gs }) (p' := p) hj rfl hg un ⟨hk, by simp only; omega, h3.p, ?_, fun h16 => by simp only at h16; omega⟩ ⟨by simp only; omega, ?_⟩ (h.mp p (List.mem_of_getElem? h2))
  · simpa only [set_same h2] using this
  · intro i hi
    have hil := Nat.lt_of_lt_of_le hi (cntO_le _)
    simp only at hil ⊢
    match i, hil with
    | 0, _ =>
      obtain ⟨g, a1, a2⟩ := h3.f 0 hc0
      exact ⟨g, by rw [g0]; exact a1, by rw [y0]; exact a2.upd hj rfl⟩
    | 1, _ => exact ⟨f, g1, by rw [y1]; exact hf.upd hj rfl⟩
    | i + 2, hil =>
      obtain ⟨a1, a2⟩ := yz (i + 2) (by omega) hil
      exact ⟨_, a2, by rw [a1]; exact Fw.plain 0 (by decide)⟩
  · intro g hg
    obtain ⟨i, hi, hig⟩ := List.getElem_of_mem hg
    simp only at hi hig
    have hgi : gs[i]? = some g := by rw [List.getElem?_eq_getElem hi, hig]
    match i, hi with
    | 0, _ => rw [g0] at hgi; exact hxb.2 g (List.mem_of_getElem? hgi)
    | 1, _ => rw [g1] at hgi; injection hgi with hgi; subst hgi; exact ⟨hw, hfk⟩
    | i + 2, hi =>
      have := (yz (i + 2) (by omega) (by omega)).2
      rw [this] at hgi
      injection hgi with hgi
      subst hgi
      simp only
      omega
/-- Pinned, or unpinned. -/
theorem YI.pin (h : YI m A S G K D) {j : Nat} {o : Ob} (hj : D j = some o) {p : Int} (hp : S.pins[j]? = some p) (d : Int) :
    if 0 ≤ p + d ∧ p + d ≤ 7 then (pinsF A m (pw o.a) d).2 = true ∧ ∃ D', YI m (pinsF A m (pw o.a) d).1 { S with pins := S.pins.set j (p + d) } G K D' else (pinsF A m (pw o.a) d).2 = false ∧ (pinsF A m (pw o.a) d).1 = A := by
  obtain ⟨x, p', h1, h2, h3⟩ := h.ob j o hj
  rw [hp] at h2
  injection h2 with h2
  subst h2
  have hpp := h3.p
  have := h.hg.pin hj d
  rw [← hpp] at this
  split
  · rename_i hc
    rw [if_pos hc] at this
    refine ⟨this.1, updD D j { o with pins := (p + d).toNat }, ?_⟩
    have hg := this.2
    have := h.obj (o' := { o with pins := (p + d).toNat }) (x' := x) (p' := p + d) hj rfl hg (h.un.pins _ _) ⟨h3.k, h3.l, by simp only; omega, fun i hi => by obtain ⟨f, a1, a2⟩ := h3.f i hi; exact ⟨f, a1, a2.upd hj rfl⟩, h3.r⟩ (h.mb.f x (List.mem_of_getElem? h1)) hc
    simpa only [set_same h1] using this
  · rename_i hc
    rwa [if_neg hc] at this
/-- The object that a root tells. -/
theorem YI.rootObj (h : YI m A S G K D) {r : Nat} (hr : r < 8) {p : Nat} (hk : (p : Int) = (S.mr[r]?.getD ⟨0, -1⟩).k) :
    ∃ (o : Ob) (x : Mo) (q : Int), D p = some o ∧ S.objs[p]? = some x ∧ S.pins[p]? = some q ∧ YOb D x o q ∧ S.roots[r]?.getD 0 = pw o.a := by
  obtain ⟨f, h1, h2⟩ := h.rt r hr
  rw [h1, Option.getD_some] at hk
  rcases h2 with ⟨h3, _⟩ | ⟨k, ok, h3, h4, h5⟩
  · omega
  · have : k = p := by omega
    subst this
    obtain ⟨x, q, a1, a2, a3⟩ := h.ob k ok h4
    exact ⟨ok, x, q, h4, a1, a2, a3, h5⟩
theorem YI.free (h : YI m A S G K D) : D S.objs.length = none := by
  cases hd : D S.objs.length with
  | none => rfl
  | some o => have := h.bd _ o hd; omega
theorem YI.none (h : YI m A S G K D) {kind n : Int} (hx : (makeF A m kind n).2 = none) : ∃ G', YI m (makeF A m kind n).1 S G' K D := by
  have hf := h.free
  have hm := (h.hg.make kind n hf).2
  rw [hx] at hm
  obtain ⟨G', hg⟩ := hm
  exact ⟨G', hg, h.un.make h.hg kind n hf, h.bd, h.np, h.n8, h.ob, h.rt, h.mb, h.mw, h.mp⟩
theorem emptyW_w (k : Int) : Wd64 (emptyW k) ∧ emptyW k % 8 ≠ 1 := by unfold emptyW Wd64; split <;> omega
/-- An object is made, for a root. -/
theorem YI.make (h : YI m A S G K D) {kind n x : Int} (hx : (makeF A m kind n).2 = some x) {i : Nat} (hi : i < 8) (hn : S.objs.length < 1000) :
    ∃ (G' : List Bool) (a : Nat), x = pw a ∧ 0 ≤ n ∧ n ≤ 240 ∧ 0 ≤ kind ∧ kind < 32 ∧ HG (makeF A m kind n).1 m G' K (updD D S.objs.length ⟨a, kind.toNat, 0, List.replicate n.toNat (emptyW kind)⟩) ∧
      ∀ v ov pv, YI m (makeF A m kind n).1 { S with roots := S.roots.set i x, mr := S.mr.set i ⟨0, S.objs.length⟩, objs := S.objs ++ [⟨kind, List.replicate n.toNat ⟨emptyW kind, -1⟩, v⟩], ov := ov, pins := S.pins ++ [0], pv := pv } G' K
        (updD D S.objs.length ⟨a, kind.toNat, 0, List.replicate n.toNat (emptyW kind)⟩) := by
  have hf := h.free
  obtain ⟨G', a, hxa, n0, n1, k0, k1, hg⟩ := h.hg.makeS hx hf
  refine ⟨G', a, hxa, n0, n1, k0, k1, hg, fun v ov pv => ?_⟩
  have n8 := h.n8
  have np := h.np
  have he := emptyW_w kind
  have hnew : updD D S.objs.length (⟨a, kind.toNat, 0, List.replicate n.toNat (emptyW kind)⟩ : Ob) S.objs.length = some ⟨a, kind.toNat, 0, List.replicate n.toNat (emptyW kind)⟩ := updD_self _ _ _
  generalize hD' : updD D S.objs.length (⟨a, kind.toNat, 0, List.replicate n.toNat (emptyW kind)⟩ : Ob) = D' at *
  refine ⟨hg, h.un.make h.hg kind n hf, ?_, by simp [np], by simpa using n8, ?_, ?_, ⟨by simp only [List.length_append, List.length_cons, List.length_nil]; omega, by simpa using h.mb.r, ?_, ?_⟩, ?_, ?_⟩
  · intro j o hj
    simp only [List.length_append, List.length_cons, List.length_nil]
    by_cases hjn : j = S.objs.length
    · omega
    · rw [← hD', updD_ne _ _ hjn] at hj
      have := h.bd j o hj
      omega
  · intro j o hj
    by_cases hjn : j = S.objs.length
    · subst hjn
      rw [hnew] at hj
      injection hj with hj
      subst hj
      refine ⟨⟨kind, List.replicate n.toNat ⟨emptyW kind, -1⟩, v⟩, 0, by simp, by simp [← np], ⟨by simp only; omega, by simp, rfl, ?_, ?_⟩⟩
      · intro q hq
        have hql := Nat.lt_of_lt_of_le hq (cntO_le _)
        simp only [List.length_replicate] at hql
        refine ⟨⟨emptyW kind, -1⟩, by simp [hql], ?_⟩
        simp only
        rw [List.getElem?_replicate, if_pos hql]
        exact Fw.plain _ he.2
      · intro _ q g hgq
        simp only [List.getElem?_replicate] at hgq ⊢
        split at hgq
        · rename_i hql
          injection hgq with hgq
          subst hgq
          rw [if_pos hql]
          exact ⟨rfl, rfl⟩
        · simp at hgq
    · rw [← hD', updD_ne _ _ hjn] at hj
      obtain ⟨y, p, h1, h2, h3⟩ := h.ob j o hj
      have hjl := h.bd j o hj
      refine ⟨y, p, by simp only; rw [List.getElem?_append_left hjl]; exact h1, by simp only; rw [List.getElem?_append_left (by omega)]; exact h2, ?_⟩
      rw [← hD']
      exact h3.new hf
  · intro q hq
    by_cases hqi : q = i
    · subst hqi
      refine ⟨_, List.getElem?_set_self (by omega), ?_⟩
      simp only
      rw [List.getElem?_set_self (by omega)]
      exact .inr ⟨S.objs.length, _, rfl, hnew, hxa⟩
    · obtain ⟨f, h1, h2⟩ := h.rt q hq
      refine ⟨f, by simp only; rw [List.getElem?_set_ne (Ne.symm hqi)]; exact h1, ?_⟩
      simp only
      rw [List.getElem?_set_ne (Ne.symm hqi), ← hD']
      exact h2.new hf
  · intro g hg
    simp only [List.length_append, List.length_cons, List.length_nil]
    rcases List.mem_or_eq_of_mem_set hg with hg | hg
    · have := h.mb.m g hg; omega
    · subst hg; simp only; omega
  · intro y hy
    simp only [List.length_append, List.length_cons, List.length_nil]
    rcases List.mem_append.1 hy with hy | hy
    · obtain ⟨h1, h2⟩ := h.mb.f y hy
      exact ⟨h1, fun g hg => by have := h2 g hg; omega⟩
    · simp only [List.mem_singleton] at hy
      subst hy
      refine ⟨by simp; omega, fun g hg => ?_⟩
      simp only [List.mem_replicate] at hg
      rw [hg.2]
      exact ⟨he.1, by simp only; omega, by simp only; omega⟩
  · intro g hg
    rcases List.mem_or_eq_of_mem_set hg with hg | hg
    · exact h.mw g hg
    · subst hg; exact ⟨by simp, by simp⟩
  · intro p hp
    rcases List.mem_append.1 hp with hp | hp
    · exact h.mp p hp
    · simp only [List.mem_singleton] at hp
      subst hp
      omega
end Go.Proofs.Ytjgndfhfiekomaa
