/- Fibers: what the law FiberOnce does, round by round. -/
import Derived.Test.YtjgndfhfiekomaaFonB
import Derived.Test.YtjgndfhfiekomaaArgs
namespace Go.Proofs.Ytjgndfhfiekomaa
open Go.ChangeShapes Go.WideShapes Go.RowKit
variable {w0 w w1 w' : World} {c : Sk} {r : Nat} {M M' : Mem} {top x s prev below hand l0 seg base : Int} {cap : Nat} {f : Frm} {fs r0 : List Frm}
theorem plain_c (x : Int) (hx : W64 x) (w : World) : Calls Try.prog 44 #[.int .u64 x] w fun e w' => e = .returned (.bool (x % 8 != 1)) ∧ w = w' := by
  go_enter Try.func44, Try.ntmps44
  go_wp2
  go_ret
  refine ⟨?_, rfl⟩
  rw [Int.tmod_eq_emod_of_nonneg hx.1]
  rfl
theorem wf_w64 {z : Int} (h : (Lit.int .u64 z).wf = true) : W64 z := by
  simp [Lit.wf, IntKind.min, IntKind.max, IntKind.bits, IntKind.signed] at h
  unfold W64; omega
def IsWords (w : World) (a : Option Addr) (len cap : Nat) (zs : List Int) : Prop :=
  zs.length = len ∧ (∀ n ∈ zs, (Lit.int .u64 n).wf = true) ∧ len ≤ cap ∧ cap ≤ maxLen ∧
      (len = 0 ∨ ∃ b o, a = some ⟨b, o, none⟩ ∧ b < w.heap.size ∧ ∀ i, i < len → w.cell? ⟨b, o + i, none⟩ = some (.int .u64 (zs[i]?.getD 0)))
theorem open_words {H : Type} {enc : TypeId × Value → H} {w : World} {spare : Nat → Bool} {held : Bool} {a : Option Addr} {len cap : Nat} {d : DataW H} {p : List MemPlace}
    (h : DataW.Trod enc Try.prog w 0 spare held 26 (.slice a len cap) d p) : ∃ N, IsWords w a len cap N :=
  open_int_slice Try.underlying26 Try.underlying37 (by kernel_rfl) h
theorem IsWords.cell {ab ao len cap : Nat} {zs : List Int} (h : IsWords w (some ⟨ab, ao, none⟩) len cap zs) (hF : Fr [] w w') (k : Nat) (hk : k < len) : w'.cell? ⟨ab, ao + k, none⟩ = some (.int .u64 (zs[k]?.getD 0)) := by
  rcases h.2.2.2.2 with h | ⟨b, o, h1, h2, h3⟩
  · omega
  · simp only [Option.some.injEq, Addr.mk.injEq] at h1
    obtain ⟨rfl, rfl, _⟩ := h1
    rw [← h3 k hk]
    exact World.cell?_of_block (w := w) (hF.block ab h2 (by simp))
theorem IsWords.ww {a : Option Addr} {len cap : Nat} {zs : List Int} (h : IsWords w a len cap zs) (k : Nat) : W64 (zs[k]?.getD 0) := by
  cases hk : zs[k]? with
  | none => exact w64_0
  | some z => exact wf_w64 (h.2.1 z (List.mem_of_getElem? hk))
/-! ### The state -/
/-- The lowest fiber, with its frame; the handler. -/
structure Low (M : Mem) (F S H : Int) (cap : Nat) : Prop where
  t : Top M F S 45 45 45 (-1) cap [Frm.fresh 8 0 1]
  h : Hdl M H true 16 []
theorem Low.off {F S H : Int} {fp : List Int} (h : Low M F S H cap) (ho : Off fp M M') (h1 : F ∉ fp) (h2 : S ∉ fp) (h3 : H ∉ fp) : Low M' F S H cap := ⟨h.t.off ho h1 h2, h.h.off ho h3⟩
/-- A resumption of one fiber. -/
structure Kept (M : Mem) (R F S H : Int) (cap : Nat) (fr : Frm) : Prop where
  r : Res M R 0 F F
  t : Top M F S 45 45 H (-1) cap [fr]
theorem Kept.off {R F S H : Int} {fp : List Int} (h : Kept M R F S H cap f) (ho : Off fp M M') (h1 : R ∉ fp) (h2 : F ∉ fp) (h3 : S ∉ fp) : Kept M' R F S H cap f := ⟨h.r.off ho h1, h.t.off ho h2 h3⟩
theorem ne_of_new {a b : Int} {o : MObj} (ha : M a = none) (hb : M b = some o) : b ≠ a := by
  rintro rfl
  rw [ha] at hb; cases hb
theorem res_kind {R n hi lo : Int} {o : MObj} (h : Res M R n hi lo) (hx : M x = some o) (hk : o.kind ≠ 6) : x ≠ R := by
  rintro rfl
  obtain ⟨g, h1, _⟩ := h
  rw [h1] at hx
  injection hx with hx
  subst hx
  exact hk rfl
theorem hdl_kind {H ret : Int} {deep : Bool} {es : List Int} {o : MObj} (h : Hdl M H deep ret es) (hx : M x = some o) (hk : o.kind ≠ 8) : x ≠ H := by
  rintro rfl
  obtain ⟨g, h1, _⟩ := h
  rw [h1] at hx
  injection hx with hx
  subst hx
  exact hk rfl
/-- Two resumptions, of which the first ones (so many) are used. -/
structure Both (M : Mem) (k : Nat) (F S H : Int) (cap : Nat) (fr : Frm) (X : Int × Int × Int × Nat) (Y : Int × Int × Int × Nat) : Prop where
  low : Low M F S H cap
  x : if k = 0 then Kept M X.1 X.2.1 X.2.2.1 H X.2.2.2 fr else Res M X.1 1 45 45
  y : if k ≤ 1 then Kept M Y.1 Y.2.1 Y.2.2.1 H Y.2.2.2 fr else Res M Y.1 1 45 45
  a : X.1 ≠ Y.1
  b : [F, X.2.1, Y.2.1].Nodup
  d : [S, X.2.2.1, Y.2.2.1].Nodup
theorem Low.fo {F S H : Int} (h : Low M F S H cap) : (∃ o, M F = some o ∧ o.kind = 7) ∧ (∃ o, M S = some o ∧ o.kind = 15) ∧ ∃ o, M H = some o ∧ o.kind = 8 := by
  obtain ⟨o1, a1, _, b1⟩ := h.t.fib.obj
  obtain ⟨o2, a2, _, b2⟩ := h.t.seg.obj
  obtain ⟨g, a3, _⟩ := h.h
  exact ⟨⟨o1, a1, b1⟩, ⟨o2, a2, b2⟩, ⟨_, a3, rfl⟩⟩
theorem Kept.fo {R F S H : Int} (h : Kept M R F S H cap f) : (∃ o, M R = some o ∧ o.kind = 6) ∧ (∃ o, M F = some o ∧ o.kind = 7) ∧ ∃ o, M S = some o ∧ o.kind = 15 := by
  obtain ⟨o1, a1, _, b1⟩ := h.t.fib.obj
  obtain ⟨o2, a2, _, b2⟩ := h.t.seg.obj
  obtain ⟨g, a3, _⟩ := h.r
  exact ⟨⟨_, a3, rfl⟩, ⟨o1, a1, b1⟩, ⟨o2, a2, b2⟩⟩
theorem kinds_ne {a b : Int} {k l : Int} (ha : ∃ o, M a = some o ∧ o.kind = k) (hb : ∃ o, M b = some o ∧ o.kind = l) (h : k ≠ l) : a ≠ b := by
  rintro rfl
  obtain ⟨o, h1, h2⟩ := ha
  obtain ⟨p, h3, h4⟩ := hb
  rw [h1] at h3
  injection h3 with h3
  subst h3
  omega
theorem Res.fo {R n hi lo : Int} (h : Res M R n hi lo) : ∃ o, M R = some o ∧ o.kind = 6 := by
  obtain ⟨g, a, _⟩ := h
  exact ⟨_, a, rfl⟩
/-- A round: the resumption that is next; what is left when it is used. -/
theorem Both.next {F S H : Int} {X Y : Int × Int × Int × Nat} {k : Nat} (h : Both M k F S H cap f X Y) (hk : k < 2) :
    ∃ R G T cp, (if k = 0 then X.1 else Y.1) = R ∧ Kept M R G T H cp f ∧ F ≠ G ∧ F ≠ R ∧ G ≠ R ∧ S ≠ T ∧ T ≠ G ∧ T ≠ R ∧ H ≠ R ∧ H ≠ G ∧ H ≠ T ∧ S ≠ G ∧ S ≠ R ∧ F ≠ T ∧ ∀ M', Off [T, G, R] M M' → Res M' R 1 45 45 → Both M' (k + 1) F S H cap f X Y := by
  obtain ⟨f1, f2, f3⟩ := h.low.fo
  have hb := h.b
  have hd := h.d
  simp only [List.nodup_cons, List.mem_cons, List.not_mem_nil, or_false, not_or] at hb hd
  obtain ⟨⟨b1, b2⟩, b3, _⟩ := hb
  obtain ⟨⟨d1, d2⟩, d3, _⟩ := hd
  by_cases h0 : k = 0
  · subst h0
    have hx := h.x
    rw [if_pos rfl] at hx
    have hy := h.y
    rw [if_pos (by omega)] at hy
    obtain ⟨g1, g2, g3⟩ := hx.fo
    obtain ⟨k1, k2, k3⟩ := hy.fo
    have n1 : F ≠ X.1 := kinds_ne f1 g1 (by omega)
    have n2 : X.2.1 ≠ X.1 := kinds_ne g2 g1 (by omega)
    have n3 : X.2.2.1 ≠ X.2.1 := kinds_ne g3 g2 (by omega)
    have n4 : X.2.2.1 ≠ X.1 := kinds_ne g3 g1 (by omega)
    have n5 : H ≠ X.1 := kinds_ne f3 g1 (by omega)
    have n6 : H ≠ X.2.1 := kinds_ne f3 g2 (by omega)
    have n7 : H ≠ X.2.2.1 := kinds_ne f3 g3 (by omega)
    have n8 : S ≠ X.2.1 := kinds_ne f2 g2 (by omega)
    have n9 : S ≠ X.1 := kinds_ne f2 g1 (by omega)
    have n10 : F ≠ X.2.2.1 := kinds_ne f1 g3 (by omega)
    refine ⟨X.1, X.2.1, X.2.2.1, X.2.2.2, if_pos rfl, hx, b1, n1, n2, d1, n3, n4, n5, n6, n7, n8, n9, n10, ?_⟩
    intro M' ho hr
    have m1 : Y.1 ≠ X.2.2.1 := kinds_ne k1 g3 (by omega)
    have m2 : Y.1 ≠ X.2.1 := kinds_ne k1 g2 (by omega)
    have m3 : Y.2.1 ≠ X.2.2.1 := kinds_ne k2 g3 (by omega)
    have m4 : Y.2.1 ≠ X.1 := kinds_ne k2 g1 (by omega)
    have m5 : Y.2.2.1 ≠ X.2.1 := kinds_ne k3 g2 (by omega)
    have m6 : Y.2.2.1 ≠ X.1 := kinds_ne k3 g1 (by omega)
    refine ⟨h.low.off ho (by simp [n10, b1, n1]) (by simp [d1, n8, n9]) (by simp [n5, n6, n7]), ?_, ?_, h.a, h.b, h.d⟩
    · rw [if_neg (by omega)]; exact hr
    · rw [if_pos (by omega)]
      exact hy.off ho (by simp [m1, m2, Ne.symm h.a]) (by simp [m3, Ne.symm b3, m4]) (by simp [Ne.symm d3, m5, m6])
  · have h1 : k = 1 := by omega
    subst h1
    have hx := h.x
    rw [if_neg (by omega)] at hx
    have hy := h.y
    rw [if_pos (by omega)] at hy
    have g1 := hx.fo
    obtain ⟨k1, k2, k3⟩ := hy.fo
    have n1 : F ≠ Y.1 := kinds_ne f1 k1 (by omega)
    have n2 : Y.2.1 ≠ Y.1 := kinds_ne k2 k1 (by omega)
    have n3 : Y.2.2.1 ≠ Y.2.1 := kinds_ne k3 k2 (by omega)
    have n4 : Y.2.2.1 ≠ Y.1 := kinds_ne k3 k1 (by omega)
    have n5 : H ≠ Y.1 := kinds_ne f3 k1 (by omega)
    have n6 : H ≠ Y.2.1 := kinds_ne f3 k2 (by omega)
    have n7 : H ≠ Y.2.2.1 := kinds_ne f3 k3 (by omega)
    have n8 : S ≠ Y.2.1 := kinds_ne f2 k2 (by omega)
    have n9 : S ≠ Y.1 := kinds_ne f2 k1 (by omega)
    have n10 : F ≠ Y.2.2.1 := kinds_ne f1 k3 (by omega)
    refine ⟨Y.1, Y.2.1, Y.2.2.1, Y.2.2.2, if_neg (by omega), hy, b2, n1, n2, d2, n3, n4, n5, n6, n7, n8, n9, n10, ?_⟩
    intro M' ho hr
    have m1 : X.1 ≠ Y.2.2.1 := kinds_ne g1 k3 (by omega)
    have m2 : X.1 ≠ Y.2.1 := kinds_ne g1 k2 (by omega)
    refine ⟨h.low.off ho (by simp [n10, b2, n1]) (by simp [d2, n8, n9]) (by simp [n5, n6, n7]), ?_, ?_, h.a, h.b, h.d⟩
    · rw [if_neg (by omega)]
      exact hx.off ho (by simp [m1, m2, h.a])
    · rw [if_neg (by omega)]; exact hr
theorem idx_two (a b : Int) (k : Nat) (hk : k < 2) (w : World) : (Instr.index 102 (.agg #[.int .u64 a, .int .u64 b]) (.int .i64 (k : Int))).run Try.prog w = .ok (.int .u64 (if k = 0 then a else b)) w := by
  rcases (by omega : k = 0 ∨ k = 1) with rfl | rfl
  all_goals kernel_rfl
theorem Both.swap {F S H : Int} {X Y : Int × Int × Int × Nat} (h : Both M 0 F S H cap f X Y) : Both M 0 F S H cap f Y X := by
  have hx := h.x
  rw [if_pos rfl] at hx
  have hy := h.y
  rw [if_pos (by omega)] at hy
  have hb := h.b
  have hd := h.d
  simp only [List.nodup_cons, List.mem_cons, List.not_mem_nil, or_false, not_or] at hb hd
  refine ⟨h.low, by rw [if_pos rfl]; exact hy, by rw [if_pos (by omega)]; exact hx, Ne.symm h.a, ?_, ?_⟩
  · simp only [List.nodup_cons, List.mem_cons, List.not_mem_nil, or_false, not_or]
    exact ⟨⟨hb.1.2, hb.1.1⟩, Ne.symm hb.2.1, by simp⟩
  · simp only [List.nodup_cons, List.mem_cons, List.not_mem_nil, or_false, not_or]
    exact ⟨⟨hd.1.2, hd.1.1⟩, Ne.symm hd.2.1, by simp⟩
end Go.Proofs.Ytjgndfhfiekomaa
