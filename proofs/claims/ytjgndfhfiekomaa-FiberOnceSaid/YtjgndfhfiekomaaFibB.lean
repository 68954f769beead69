/- Fibers: fields and numbers set, objects made, the topmost fiber. -/
import Derived.Test.YtjgndfhfiekomaaFibA
namespace Go.Proofs.Ytjgndfhfiekomaa
open Go.ChangeShapes Go.WideShapes Go.RowKit
variable {w0 w w1 w' : World} {c : Sk} {A A' : Ar} {top : Int} {last : Value}
theorem W64.lo {x : Int} (h : W64 x) : 0 ≤ x := h.1
theorem W64.hi {x : Int} (h : W64 x) : x < 18446744073709551616 := h.2
theorem w64_0 : W64 0 := ⟨by omega, by omega⟩
theorem w64_45 : W64 45 := ⟨by omega, by omega⟩
theorem St.tw (h : St w0 w c A top last) : W64 top := h.a.t
/-- A small number's word. -/
def smW (n : Int) : Int := mkW 0 n
theorem smW_w (n : Int) : W64 (smW n) := mkW_bd 0 n (by omega) (by omega)
theorem smW_val {n : Int} (h0 : -1152921504606846976 ≤ n) (h1 : n < 1152921504606846976) : wVal (smW n) = n := by
  unfold smW mkW wVal
  split <;> omega
theorem small_c (n : Int) (w : World) (h0 : -1000000 ≤ n) (h1 : n ≤ 1000000) : Calls Try.prog 101 #[.int .i64 n] w fun e w' => e = .returned (.int .u64 (smW n)) ∧ w = w' := by
  have CS : Hid (∀ w, Calls Try.prog 142 #[.int .i64 n] w fun e w' => e = .returned (.tuple #[.int .u64 (smW n), .bool true]) ∧ w = w') := Lib.hid (fun w => by
    have q1 : ¬ n < -1152921504606846976 := by omega
    have q2 : ¬ (1152921504606846975 : Int) < n := by omega
    have CM := Lib.hid (made_c 0 n w (by omega) (by omega))
    go_enter Try.func142, Try.ntmps142
    go_wp2_with (go_at_call 123; refine CM.out.mono ?_; rintro e w' ⟨rfl, rfl⟩)
    go_ret2
    exact ⟨rfl, rfl⟩)
  generalize smW n = y at *
  go_enter Try.func101, Try.ntmps101
  go_wp2_with (go_at_call 142; refine (CS.out _).mono ?_; rintro e w' ⟨rfl, rfl⟩)
  go_ret
  exact ⟨rfl, rfl⟩
theorem knum_c (h : St w0 w c A top last) (x i : Int) (hx : W64 x) (hi : I64 i) : Calls Try.prog 109 #[.pointer (some ⟨c.kb, 0, none⟩), .int .u64 x, .int .i64 i] w fun e w' => e = .returned (.int .i64 (nmF A c.m x i)) ∧ St w0 w' c A top last := by
  unfold nmF
  go_enter Try.func109, Try.ntmps109
  go_wp2_with (first | (go_at_call 102; refine (kget_c (by assumption) _ _ (by first | assumption | exact St.gw (by assumption) _ _ | exact St.tw (by assumption) | exact w64_45 | exact w64_0 | exact smW_w _) (by first | exact I64.of (by omega) | assumption)).mono ?_; rintro e w' ⟨rfl, _⟩) | (go_at_call 82; refine (value_c _ _ (W64.lo (by first | assumption | exact St.gw (by assumption) _ _ | exact St.tw (by assumption) | exact w64_45 | exact w64_0 | exact smW_w _)) (W64.hi (by first | assumption | exact St.gw (by assumption) _ _ | exact St.tw (by assumption) | exact w64_45 | exact w64_0 | exact smW_w _))).mono ?_; rintro e w' ⟨rfl, rfl⟩))
  go_ret
  exact ⟨rfl, by assumption⟩
/-! ### The heap's functions over the stack's memory -/
theorem wd_setF (wd : A.Wd) (m : Nat) (x i : Int) {v : Int} (hv : W64 v) : (setF A m x i v).1.Wd := by
  unfold setF
  cases hAt A m x with
  | none => exact wd
  | some o =>
    simp only
    by_cases h : i < 0 ∨ (o.n : Int) ≤ i ∨ (m : Int) * 256 ≤ o.a + 1 + i
    · rw [if_pos h]; exact wd
    · rw [if_neg h]; exact wd.set _ _ hv.1 hv.2
theorem oset_s (h : St w0 w c A top last) (x i v : Int) (hx : W64 x) (hi : I64 i) (hv : W64 v) : Calls Try.prog 19 #[.pointer (some ⟨c.hb, 0, none⟩), .int .u64 x, .int .i64 i, .int .u64 v] w fun e w' => (∃ z, e = .returned (.int .i64 z)) ∧ St w0 w' c (stF A c.m x i v) top last := by
  refine (oset_c w h.a.h h.a.ok h.a.wd x i v hx.1 hx.2 hi).mono ?_
  rintro e w' ⟨rfl, hH, hF⟩
  exact ⟨⟨_, rfl⟩, h.heap hF hH (setF_ok h.a.ok x i v) (wd_setF h.a.wd c.m x i hv)⟩
theorem kset_c (h : St w0 w c A top last) (x i v : Int) (hx : W64 x) (hi : I64 i) (hv : W64 v) : Calls Try.prog 104 #[.pointer (some ⟨c.kb, 0, none⟩), .int .u64 x, .int .i64 i, .int .u64 v] w fun e w' => e = .returned (.tuple #[]) ∧ St w0 w' c (stF A c.m x i v) top last := by
  have k0 := h.k0
  go_enter Try.func104, Try.ntmps104
  go_wp2_with (first | (go_at_call 143; refine (vheap_c (by assumption)).mono ?_; rintro e w' ⟨rfl, rfl⟩) | (go_at_call 19; refine (oset_s (by assumption) _ _ _ hx hi hv).mono ?_; rintro e w' ⟨⟨z, rfl⟩, _⟩))
  go_end0
  exact ⟨rfl, by assumption⟩
theorem wd_fill (wd : A.Wd) (p k : Nat) {v : Int} (hv : W64 v) : (fillW A p v k).Wd := by
  induction k with
  | zero => exact wd
  | succ k ih => exact ih.set _ _ hv.1 hv.2
theorem wd_alloc (wd : A.Wd) (m : Nat) (n : Int) : (A.alloc m n).1.Wd := fun x hx => wd x (by rwa [alloc_words] at hx)
theorem makeF_wd (wd : A.Wd) (m : Nat) (kind n : Int) : (makeF A m kind n).1.Wd ∧ ∀ x, (makeF A m kind n).2 = some x → W64 x := by
  unfold makeF
  by_cases h : kind < 0 ∨ 32 ≤ kind ∨ n < 0 ∨ 240 < n
  · rw [if_pos h]; exact ⟨wd, fun x hx => by cases hx⟩
  · rw [if_neg h]
    cases (A.alloc m (n + 1)).2 with
    | none => exact ⟨wd_alloc wd _ _, fun x hx => by cases hx⟩
    | some k =>
      refine ⟨wd_fill ((wd_alloc wd _ _).set _ _ ?_ ?_) _ _ ?_, fun x hx => ?_⟩
      · unfold hdW; omega
      · unfold hdW; omega
      · unfold emptyW; split
        · exact w64_0
        · exact w64_45
      · have : x = mkW 1 k := by simpa using hx.symm
        rw [this]; exact mkW_bd 1 k (by omega) (by omega)
theorem omake_s (h : St w0 w c A top last) (kind n : Int) : Calls Try.prog 15 #[.pointer (some ⟨c.hb, 0, none⟩), .int .i64 kind, .int .i64 n] w fun e w' => e = .returned (wordVal (makeF A c.m kind n).2) ∧ St w0 w' c (makeF A c.m kind n).1 top last := by
  refine (omake_c w h.a.h h.a.ok kind n).mono ?_
  rintro e w' ⟨rfl, hH, hF⟩
  exact ⟨rfl, h.heap hF hH (makeF_ok h.a.ok kind n) (makeF_wd h.a.wd _ _ _).1⟩
/-- The size of the object that a word tells; -1: none. -/
def szF (A : Ar) (m : Nat) (x : Int) : Int := ((hAt A m x).map fun h => (h.n : Int)).getD (-1)
def kdF (A : Ar) (m : Nat) (x : Int) : Int := ((hAt A m x).map fun h => (h.kind : Int)).getD (-1)
theorem szF_b (wd : A.Wd) {m : Nat} {x : Int} (hx : W64 x) : -1 ≤ szF A m x ∧ szF A m x < 9007199254740992 := by
  unfold szF
  cases ho : hAt A m x with
  | none => simp
  | some o =>
    have := (hAt_bd wd hx.1 ho).2.2.2.1
    simp
    omega
theorem osize_s (h : St w0 w c A top last) (x : Int) (hx : W64 x) : Calls Try.prog 30 #[.pointer (some ⟨c.hb, 0, none⟩), .int .u64 x] w fun e w' => e = .returned (.int .i64 (szF A c.m x)) ∧ St w0 w' c A top last :=
  (osize_c w h.a.h h.a.ok h.a.wd x hx.1 hx.2).mono fun _ _ k => ⟨k.1, h.keep k.2⟩
theorem okind_s (h : St w0 w c A top last) (x : Int) (hx : W64 x) : Calls Try.prog 29 #[.pointer (some ⟨c.hb, 0, none⟩), .int .u64 x] w fun e w' => e = .returned (.int .i64 (kdF A c.m x)) ∧ St w0 w' c A top last :=
  (okind_c w h.a.h h.a.ok h.a.wd x hx.1 hx.2).mono fun _ _ k => ⟨k.1, h.keep k.2⟩
/-! ### The topmost fiber -/
theorem ktop_c (h : St w0 w c A top last) : Calls Try.prog 103 #[.pointer (some ⟨c.kb, 0, none⟩)] w fun e w' => e = .returned (.int .u64 top) ∧ w = w' := by
  have k1 := h.k1
  have r0 := h.r0
  clear h
  go_enter Try.func103, Try.ntmps103
  go_wp2
  go_ret
  exact ⟨rfl, rfl⟩
theorem kturn_c (h : St w0 w c A top last) (f : Int) (hf : W64 f) : Calls Try.prog 107 #[.pointer (some ⟨c.kb, 0, none⟩), .int .u64 f] w fun e w' => e = .returned (.tuple #[]) ∧ St w0 w' c A f (.pointer none) := by
  have k1 := h.k1
  have r0 := h.r0
  have rf := h.rf 0
  have kf := h.kf 3
  have k3 := h.k3
  have ap := h.a.ap
  simp only [List.nodup_cons, List.mem_cons, List.not_mem_nil, or_false, not_or] at ap
  obtain ⟨⟨a1, a2, a3, a4, a5, a6⟩, ⟨b2, b3, b4, b5, b6⟩, ⟨d3, d4, d5, d6⟩, ⟨e4, e5, e6⟩, _⟩ := ap
  have D : Hid (St w0 ((w.setCell ⟨c.rb, 0, none⟩ (.int .u64 f)).setCell ⟨c.kb, 3, none⟩ (.pointer none)) c A f (.pointer none)) := Lib.hid (by
    have hF : Fr [c.kb, c.rb] w ((w.setCell ⟨c.rb, 0, none⟩ (.int .u64 f)).setCell ⟨c.kb, 3, none⟩ (.pointer none)) := ((Fr.refl _ _).setCell (by simp) _).setCell (by simp) _
    have key : ∀ x, ¬ x = c.kb → ¬ x = c.rb → x ∉ [c.kb, c.rb] := fun x h1 h2 hm => by
      simp only [List.mem_cons, List.not_mem_nil, or_false] at hm
      rcases hm with h | h
      · exact h1 h
      · exact h2 h
    have n1 := key c.sb (fun h => a1 h.symm) b2
    have n2 := key c.hb (fun h => a3 h.symm) (fun h => d3 h.symm)
    have n3 := key c.b (fun h => a4 h.symm) (fun h => d4 h.symm)
    have n4 := key c.wb (fun h => a5 h.symm) (fun h => d5 h.symm)
    have n5 := key c.lb (fun h => a6 h.symm) (fun h => d6 h.symm)
    refine ⟨⟨?_, hF.at h.a.s n1, ?_, h.a.h.fr hF n2 n3 n4 n5, h.a.ok, h.a.wd, hf, h.a.ap⟩, h.fr.trans hF (fun x hx => .inl ?_)⟩
    · rw [blk_set, if_pos rfl, blk_set, if_neg a2, h.a.k]; rfl
    · rw [blk_set, if_neg (fun h => a2 h.symm), blk_set, if_pos rfl, h.a.r]; rfl
    · unfold Sk.own
      simp only [List.mem_cons, List.not_mem_nil, or_false] at hx ⊢
      rcases hx with h | h <;> simp [h])
  have l3 : ∃ v, w.cell? ⟨c.kb, 3, none⟩ = some v := ⟨_, k3⟩
  clear h a1 a3 a4 a5 a6 b2 b3 b4 b5 b6 d3 d4 d5 d6 e4 e5 e6
  go_enter Try.func107, Try.ntmps107
  go_wp2
  go_end0
  exact ⟨rfl, D.out⟩
end Go.Proofs.Ytjgndfhfiekomaa
