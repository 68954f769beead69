/- Fibers: what is done with a stack, on paper memories: frames, handlers. -/
import Derived.Test.YtjgndfhfiekomaaFibZ
import Derived.Test.YtjgndfhfiekomaaFibV
namespace Go.Proofs.Ytjgndfhfiekomaa
open Go.ChangeShapes Go.WideShapes Go.RowKit
variable {w0 w w1 w' : World} {c : Sk} {r : Nat} {M M' : Mem} {top x s prev below hand l0 seg base : Int} {cap : Nat} {f : Frm} {fs r0 : List Frm}
/-- The stack in a world, its objects on paper, so many blocks' room. -/
def Sx (w0 w : World) (c : Sk) (r : Nat) (M : Mem) (top : Int) : Prop := ∃ A last, St w0 w c A top last ∧ Hp A c.m r M
theorem Sx.fr (h : Sx w0 w c r M top) : Fr c.own w0 w := by obtain ⟨A, l, h, _⟩ := h; exact h.fr
theorem Sx.keep (h : Sx w0 w c r M top) (hF : Fr [] w w') : Sx w0 w' c r M top := by obtain ⟨A, l, h, hp⟩ := h; exact ⟨A, l, h.keep hF, hp⟩
theorem Sx.tw (h : Sx w0 w c r M top) : W64 top := by obtain ⟨A, l, h, _⟩ := h; exact h.tw
theorem Sx.tag (h : Sx w0 w c r M top) {o : MObj} (hx : M x = some o) : x % 8 = 1 := by obtain ⟨A, l, h, hp⟩ := h; exact hp.tag hx
theorem Sx.ww (h : Sx w0 w c r M top) {o : MObj} (hx : M x = some o) : W64 x := by obtain ⟨A, l, h, hp⟩ := h; exact hp.w hx
/-- A handler: does it stay, what is done in the end, the rest. -/
def Hdl (M : Mem) (x : Int) (deep : Bool) (ret : Int) (es : List Int) : Prop := ∃ g, M x = some ⟨8, (2 + es.length : Nat), g⟩ ∧ g 0 = smW (if deep = true then 1 else 0) ∧ g 1 = ret ∧ ∀ i : Nat, i < es.length → g (2 + i) = es[i]?.getD 0
theorem Hdl.off {fp : List Int} {deep : Bool} {ret : Int} {es : List Int} (h : Hdl M x deep ret es) (ho : Off fp M M') (hs : x ∉ fp) : Hdl M' x deep ret es := by
  obtain ⟨g, h1, h2⟩ := h
  exact ⟨g, ho _ _ hs h1, h2⟩
/-- A resumption: was it used, its topmost and its lowest fiber. -/
def Res (M : Mem) (x n hi lo : Int) : Prop := ∃ g, M x = some ⟨6, 3, g⟩ ∧ g 0 = smW n ∧ g 1 = hi ∧ g 2 = lo
theorem Res.off {fp : List Int} {n hi lo : Int} (h : Res M x n hi lo) (ho : Off fp M M') (hs : x ∉ fp) : Res M' x n hi lo := by
  obtain ⟨g, h1, h2⟩ := h
  exact ⟨g, ho _ _ hs h1, h2⟩
theorem off_drop {M1 : Mem} {fp : List Int} (h1 : Off [] M M1) (h2 : Off (s :: fp) M1 M') (hs : M s = none) : Off fp M M' := by
  intro y o hy ho
  refine h2 y o ?_ (h1 y o (by simp) ho)
  simp only [List.mem_cons, not_or]
  refine ⟨?_, hy⟩
  rintro rfl
  rw [hs] at ho; cases ho
theorem gtF_45 {A : Ar} {m : Nat} (i : Int) : gtF A m 45 i = 45 ∧ szF A m 45 = -1 := by
  have : hAt A m 45 = none := by unfold hAt; rw [if_neg]; omega
  constructor
  · unfold gtF getF; rw [this]; simp
  · unfold szF; rw [this]; rfl
/-- A frame on a fiber that has no segment. -/
theorem sx_push0 (h : Sx w0 w c (r + 1) M x) (hf : Fib M x below 45 (-1) hand) (cl : Int) (hcl : W64 cl) (sl wd : Nat) (hn : sl + wd ≤ 180) :
    Calls Try.prog 47 #[.pointer (some ⟨c.kb, 0, none⟩), .int .u64 cl, .int .i64 sl, .int .i64 wd] w fun e w' => e = .returned (.bool true) ∧ ∃ M' s cap, Sx w0 w' c r M' x ∧ Top M' x s 45 below hand (-1) cap [Frm.fresh cl sl wd] ∧ M s = none ∧ Off [x] M M' := by
  obtain ⟨A, last, h, hp⟩ := h
  have g1 := (hf.g hp).2.1
  have hr : rmF A c.m (gtF A c.m x 1) = 0 := by unfold rmF; rw [g1, (gtF_45 0).2]; rfl
  have hpl : placeF A c.m x (5 + sl + wd) = segF A c.m 45 (max (5 + sl + wd) 24 : Nat) := by
    unfold placeF
    rw [if_pos hr]
    congr 1
    omega
  obtain ⟨s, e1, e2, e3, e4, M1, hp1, O1, S1⟩ := hp.segment w64_45 (max (5 + sl + wd) 24) (by omega)
  have F1 := hf.off O1 (by simp)
  obtain ⟨M2, hp2, F2, S2, O2⟩ := hp1.pushed F1 S1 (cl := cl) sl wd (by simp; omega) hcl
  refine (kpush_c h cl sl wd hcl (by omega) (fun hc => absurd hr hc) ?_).mono ?_
  · intro seg hs
    rw [hpl, e1] at hs
    injection hs with hs
    subst hs
    rw [hpl, S1.used hp1]
    exact ⟨e4, by simp, by simp⟩
  · rintro e w' ⟨rfl, hS⟩
    have hP : pushF A c.m x cl sl wd = (pushS (segF A c.m 45 (max (5 + sl + wd) 24 : Nat)).1 c.m x cl sl wd s, true) := by
      unfold pushF
      rw [if_neg (by omega), hpl, e1]
    rw [hP] at hS ⊢
    refine ⟨rfl, M2, s, _, ⟨_, _, hS, hp2⟩, ⟨F2, S2, ?_⟩, e2, off_drop O1 O2 e2⟩
    refine ⟨?_, ?_, ?_, ?_, trivial⟩
    · simp only [szL, Frm.fresh, List.length_replicate]; omega
    · simp [Frm.fresh]
    · simp [Frm.fresh]
    · simp [Frm.fresh]
theorem sx_setpc (h : Sx w0 w c r M x) (ht : Top M x s prev below hand l0 cap (f :: r0)) (n : Int) (n0 : -1000000 ≤ n) (n1 : n ≤ 1000000) :
    Calls Try.prog 49 #[.pointer (some ⟨c.kb, 0, none⟩), .int .i64 n] w fun e w' => e = .returned (.tuple #[]) ∧ ∃ M', Sx w0 w' c r M' x ∧ Top M' x s prev below hand l0 cap ({ f with pc := n } :: r0) ∧ Off [s] M M' := by
  obtain ⟨A, last, h, hp⟩ := h
  obtain ⟨M2, p2, t2, o2⟩ := ht.setpc hp n n0 n1
  refine (ksetpc_c h (ht.frok hp) n n0 n1).mono ?_
  rintro e w' ⟨rfl, hS⟩
  exact ⟨rfl, M2, ⟨_, _, hS, p2⟩, t2, o2⟩
theorem sx_put (h : Sx w0 w c r M x) (ht : Top M x s prev below hand l0 cap (f :: r0)) (v : Int) (hv : W64 v) (hw : f.words.length < f.room) :
    Calls Try.prog 50 #[.pointer (some ⟨c.kb, 0, none⟩), .int .u64 v] w fun e w' => e = .returned (.bool true) ∧ ∃ M', Sx w0 w' c r M' x ∧ Top M' x s prev below hand l0 cap ({ f with words := f.words ++ [v] } :: r0) ∧ Off [s] M M' := by
  obtain ⟨A, last, h, hp⟩ := h
  obtain ⟨e2, M2, p2, t2, o2⟩ := ht.put hp v hv hw
  refine (kput_c h (ht.frok hp) v hv).mono ?_
  rintro e w' ⟨rfl, hS⟩
  rw [e2]
  exact ⟨rfl, M2, ⟨_, _, hS, p2⟩, t2, o2⟩
theorem sx_take (h : Sx w0 w c r M x) {v : Int} (ht : Top M x s prev below hand l0 cap ({ f with words := f.words ++ [v] } :: r0)) :
    Calls Try.prog 57 #[.pointer (some ⟨c.kb, 0, none⟩)] w fun e w' => e = .returned (.int .u64 v) ∧ ∃ M', Sx w0 w' c r M' x ∧ Top M' x s prev below hand l0 cap (f :: r0) ∧ Off [s] M M' := by
  obtain ⟨A, last, h, hp⟩ := h
  obtain ⟨e2, M2, p2, t2, o2⟩ := ht.take hp
  refine (ktake_c h (ht.frok hp)).mono ?_
  rintro e w' ⟨rfl, hS⟩
  rw [e2]
  exact ⟨rfl, M2, ⟨_, _, hS, p2⟩, t2, o2⟩
theorem sx_pop (h : Sx w0 w c r M x) (ht : Top M x s prev below hand l0 cap (f :: r0)) (hr : r0 ≠ [] ∨ prev % 8 ≠ 1) :
    Calls Try.prog 58 #[.pointer (some ⟨c.kb, 0, none⟩)] w fun e w' => e = .returned (.bool true) ∧ ∃ M', Sx w0 w' c r M' x ∧ Top M' x s prev below hand l0 cap r0 ∧ Off [s, x] M M' := by
  obtain ⟨A, last, h, hp⟩ := h
  obtain ⟨e2, M2, p2, t2, o2⟩ := ht.pop hp hr
  refine (kpop_c h (ht.frok hp)).mono ?_
  rintro e w' ⟨rfl, hS⟩
  rw [e2]
  exact ⟨rfl, M2, ⟨_, _, hS, p2⟩, t2, o2⟩
theorem sx_words (h : Sx w0 w c r M x) (ht : Top M x s prev below hand l0 cap (f :: r0)) :
    Calls Try.prog 56 #[.pointer (some ⟨c.kb, 0, none⟩)] w fun e w' => e = .returned (.int .i64 f.words.length) ∧ Sx w0 w' c r M x := by
  obtain ⟨A, last, h, hp⟩ := h
  refine (kwords_c h (ht.frok hp)).mono ?_
  rintro e w' ⟨rfl, hS⟩
  rw [ht.words hp]
  exact ⟨rfl, _, _, hS, hp⟩
theorem sx_closure (h : Sx w0 w c r M x) (ht : Top M x s prev below hand l0 cap (f :: r0)) :
    Calls Try.prog 54 #[.pointer (some ⟨c.kb, 0, none⟩)] w fun e w' => e = .returned (.int .u64 f.cl) ∧ Sx w0 w' c r M x := by
  obtain ⟨A, last, h, hp⟩ := h
  refine (kclosure_c h (ht.frok hp)).mono ?_
  rintro e w' ⟨rfl, hS⟩
  rw [ht.no hp, ht.cl hp]
  exact ⟨rfl, _, _, hS, hp⟩
theorem sx_pc (h : Sx w0 w c r M x) (ht : Top M x s prev below hand l0 cap (f :: r0)) :
    Calls Try.prog 55 #[.pointer (some ⟨c.kb, 0, none⟩)] w fun e w' => e = .returned (.int .i64 f.pc) ∧ Sx w0 w' c r M x := by
  obtain ⟨A, last, h, hp⟩ := h
  refine (kpc_c h (ht.frok hp)).mono ?_
  rintro e w' ⟨rfl, hS⟩
  rw [ht.no hp, ht.pc hp]
  exact ⟨rfl, _, _, hS, hp⟩
/-- A fiber more, its handler without labels. -/
theorem sx_enter0 (h : Sx w0 w c (r + 2) M top) (deep : Bool) (ret : Int) (hret : W64 ret) (a1 a2 : Option Addr) (cap1 cap2 : Nat) :
    Calls Try.prog 48 #[.pointer (some ⟨c.kb, 0, none⟩), .bool deep, .int .u64 ret, .slice a1 0 cap1, .slice a2 0 cap2] w fun e w' => e = .returned (.bool true) ∧ ∃ M' hd f, Sx w0 w' c r M' f ∧ Fib M' f top 45 (-1) hd ∧ Hdl M' hd deep ret [] ∧ M f = none ∧ M hd = none ∧ Off [] M M' := by
  obtain ⟨A, last, h, hp⟩ := h
  have hwl : ∀ x, x ∈ entL deep ret [] [] 0 → W64 x := by
    intro y hy
    simp [entL, zipL] at hy
    rcases hy with rfl | rfl
    · exact smW_w _
    · exact hret
  obtain ⟨hd, e1, e2, e3, e4, M1, p1, O1, g, e5, e6⟩ := hp.obj 8 (entL deep ret [] [] 0) (by omega) (by omega) (by rw [len_entL]; omega) hwl
  obtain ⟨x, f1, f2, f3, f4, M2, p2, O2, F2⟩ := p1.fiber h.tw e4
  refine (kenter_c h deep ret hret [] [] (by simp) (by simp) 0 rfl rfl (by omega) a1 a2 cap1 cap2 (.inl rfl) (.inl rfl) hd x e1 e4 f1 f4).mono ?_
  rintro e w' ⟨rfl, hS⟩
  refine ⟨rfl, M2, hd, x, ⟨_, _, hS, p2⟩, F2, ⟨g, O2 _ _ (by simp) e5, e6 0 (by rw [len_entL]; omega), e6 1 (by rw [len_entL]; omega), fun i hi => (by simp at hi)⟩, ?_, e2, O1.trans O2⟩
  cases hM : M x with
  | none => rfl
  | some o => rw [O1 _ _ (by simp) hM] at f2; cases f2
end Go.Proofs.Ytjgndfhfiekomaa
