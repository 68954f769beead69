/- Fibers: the stack in memory; fields of objects, numbers. -/
import Derived.Test.YtjgndfhfiekomaaHeapL
import Derived.Test.YtjgndfhfiekomaaRoomA
namespace Go.Proofs.Ytjgndfhfiekomaa
open Go.ChangeShapes Go.WideShapes Go.RowKit
def W64 (x : Int) : Prop := 0 ≤ x ∧ x < 18446744073709551616
def I64 (x : Int) : Prop := -9223372036854775808 ≤ x ∧ x ≤ 9223372036854775807
theorem I64.of {x : Int} (h : -1000000 ≤ x ∧ x ≤ 1000000) : I64 x := by unfold I64; omega
/-- A field of an object; 45 (nothing) where there is none. -/
def gtF (A : Ar) (m : Nat) (x i : Int) : Int := if (getF A m x i).2 = 0 then (getF A m x i).1 else 45
def nmF (A : Ar) (m : Nat) (x i : Int) : Int := wVal (gtF A m x i)
def stF (A : Ar) (m : Nat) (x i v : Int) : Ar := (setF A m x i v).1
/-- Where a stack's blocks are. -/
structure Sk where
  kb : Nat
  sb : Nat
  rb : Nat
  hb : Nat
  b : Nat
  wb : Nat
  lb : Nat
  m : Nat
  rem : Bool
  nv : Value
  mv : Value
def Sk.own (c : Sk) : List Nat := [c.kb, c.rb, c.b, c.wb, c.lb]
structure SkAt (w : World) (c : Sk) (A : Ar) (top : Int) (last : Value) : Prop where
  k : blk w c.kb = some (.cells #[.pointer (some ⟨c.sb, 0, none⟩), .slice (some ⟨c.rb, 0, none⟩) 1 1, .bool c.rem, last] 153 (0, 0))
  s : blk w c.sb = some (.cells #[.pointer (some ⟨c.hb, 0, none⟩), c.nv, c.mv] 150 (0, 0))
  r : blk w c.rb = some (.cells #[.int .u64 top] 37 (0, 0))
  h : HeAt w c.hb c.b c.wb c.lb A
  ok : A.Ok c.m
  wd : A.Wd
  t : W64 top
  ap : [c.kb, c.sb, c.rb, c.hb, c.b, c.wb, c.lb].Nodup
/-- The stack in a world that came from another one. -/
structure St (w0 w : World) (c : Sk) (A : Ar) (top : Int) (last : Value) : Prop where
  a : SkAt w c A top last
  fr : Fr c.own w0 w
variable {w0 w w1 w' : World} {c : Sk} {A A' : Ar} {top : Int} {last : Value}
theorem SkAt.keep (h : SkAt w c A top last) (hF : Fr [] w w') : SkAt w' c A top last :=
  ⟨hF.at h.k (by simp), hF.at h.s (by simp), hF.at h.r (by simp), h.h.keep hF, h.ok, h.wd, h.t, h.ap⟩
theorem St.keep (h : St w0 w c A top last) (hF : Fr [] w w') : St w0 w' c A top last := ⟨h.a.keep hF, h.fr.trans hF (by simp)⟩
theorem St.alloc (h : St w0 w c A top last) (o : Obj) : St w0 (w.alloc o) c A top last := h.keep ((Fr.refl _ _).alloc _)
theorem St.drew (h : St w0 w c A top last) : St w0 w.drew c A top last := h.keep (Fr.refl _ _).drew
theorem St.base (h : St w0 w c A top last) : St w w c A top last := ⟨h.a, Fr.refl _ _⟩
theorem St.join (h : St w0 w c A top last) {top' : Int} {last' : Value} (h2 : St w w1 c A' top' last') : St w0 w1 c A' top' last' := ⟨h2.a, h.fr.same h2.fr⟩
/-- The heap's arena is another one. -/
theorem St.heap (h : St w0 w c A top last) (hF : Fr [c.b, c.wb, c.lb] w w') (he : HeAt w' c.hb c.b c.wb c.lb A') (ok : A'.Ok c.m) (wd : A'.Wd) : St w0 w' c A' top last := by
  have ap := h.a.ap
  simp only [List.nodup_cons, List.mem_cons, List.not_mem_nil, or_false, not_or] at ap
  obtain ⟨⟨a1, a2, a3, a4, a5, a6⟩, ⟨b2, b3, b4, b5, b6⟩, ⟨d3, d4, d5, d6⟩, _⟩ := ap
  refine ⟨⟨hF.at h.a.k ?_, hF.at h.a.s ?_, hF.at h.a.r ?_, he, ok, wd, h.a.t, h.a.ap⟩, h.fr.trans hF ?_⟩
  · simp only [List.mem_cons, List.not_mem_nil, or_false, not_or]; exact ⟨a4, a5, a6⟩
  · simp only [List.mem_cons, List.not_mem_nil, or_false, not_or]; exact ⟨b4, b5, b6⟩
  · simp only [List.mem_cons, List.not_mem_nil, or_false, not_or]; exact ⟨d4, d5, d6⟩
  · intro x hx
    left
    unfold Sk.own
    simp only [List.mem_cons, List.not_mem_nil, or_false] at hx ⊢
    rcases hx with h | h | h <;> simp [h]
theorem St.k0 (h : St w0 w c A top last) : w.cell? ⟨c.kb, 0, none⟩ = some (.pointer (some ⟨c.sb, 0, none⟩)) := cell_of h.a.k rfl
theorem St.k1 (h : St w0 w c A top last) : w.cell? ⟨c.kb, 1, none⟩ = some (.slice (some ⟨c.rb, 0, none⟩) 1 1) := cell_of h.a.k rfl
theorem St.k2 (h : St w0 w c A top last) : w.cell? ⟨c.kb, 2, none⟩ = some (.bool c.rem) := cell_of h.a.k rfl
theorem St.k3 (h : St w0 w c A top last) : w.cell? ⟨c.kb, 3, none⟩ = some last := cell_of h.a.k rfl
theorem St.kf (h : St w0 w c A top last) (i : Nat) : w.frozen? ⟨c.kb, i, none⟩ = false := free_of h.a.k
theorem St.s0 (h : St w0 w c A top last) : w.cell? ⟨c.sb, 0, none⟩ = some (.pointer (some ⟨c.hb, 0, none⟩)) := cell_of h.a.s rfl
theorem St.r0 (h : St w0 w c A top last) : w.cell? ⟨c.rb, 0, none⟩ = some (.int .u64 top) := cell_of h.a.r rfl
theorem St.rf (h : St w0 w c A top last) (i : Nat) : w.frozen? ⟨c.rb, i, none⟩ = false := free_of h.a.r
theorem getF_w (wd : A.Wd) (m : Nat) (x i : Int) : W64 (getF A m x i).1 := by
  unfold getF
  cases hAt A m x with
  | none => exact (show W64 0 from ⟨by omega, by omega⟩)
  | some o =>
    simp only
    by_cases h : i < 0 ∨ (o.n : Int) ≤ i ∨ (m : Int) * 256 ≤ o.a + 1 + i
    · rw [if_pos h]; exact (show W64 0 from ⟨by omega, by omega⟩)
    · rw [if_neg h]; exact wd.at _
theorem gtF_w (wd : A.Wd) (m : Nat) (x i : Int) : W64 (gtF A m x i) := by
  unfold gtF
  by_cases h : (getF A m x i).2 = 0
  · rw [if_pos h]; exact getF_w wd m x i
  · rw [if_neg h]; exact (show W64 45 from ⟨by omega, by omega⟩)
theorem St.gw (h : St w0 w c A top last) (x i : Int) : W64 (gtF A c.m x i) := gtF_w h.a.wd _ _ _
theorem wVal_b {x : Int} (h : W64 x) : -1152921504606846976 ≤ wVal x ∧ wVal x < 2305843009213693952 := by
  unfold W64 at h
  unfold wVal
  split <;> omega
theorem getF_e (A : Ar) (m : Nat) (x i : Int) : (getF A m x i).2 = 0 ∨ ((getF A m x i).2 = 151) := by
  unfold getF
  split
  · simp
  · split <;> simp
theorem vheap_c (h : St w0 w c A top last) : Calls Try.prog 143 #[.pointer (some ⟨c.sb, 0, none⟩)] w fun e w' => e = .returned (.pointer (some ⟨c.hb, 0, none⟩)) ∧ w = w' := by
  have s0 := h.s0
  clear h
  go_enter Try.func143, Try.ntmps143
  go_wp2
  go_ret
  exact ⟨rfl, rfl⟩
theorem nothing_c (w : World) : Calls Try.prog 98 #[] w fun e w' => e = .returned (.int .u64 45) ∧ w = w' := by
  go_enter Try.func98, Try.ntmps98
  go_wp2_with (go_at_call 70; refine (single_c _ _).mono ?_; rintro e w' ⟨rfl, rfl⟩)
  go_ret
  exact ⟨rfl, rfl⟩
theorem kget_c (h : St w0 w c A top last) (x i : Int) (hx : W64 x) (hi : I64 i) : Calls Try.prog 102 #[.pointer (some ⟨c.kb, 0, none⟩), .int .u64 x, .int .i64 i] w fun e w' => e = .returned (.int .u64 (gtF A c.m x i)) ∧ St w0 w' c A top last := by
  have k0 := h.k0
  have CV := Lib.hid (vheap_c h)
  have CG := Lib.hid (oget_c w h.a.h h.a.ok h.a.wd x i hx.1 hx.2 hi)
  have H := Lib.hid h
  have GE := getF_e A c.m x i
  have G : Hid (gtF A c.m x i = if (getF A c.m x i).2 = 0 then (getF A c.m x i).1 else 45) := Lib.hid rfl
  obtain ⟨gv, hgv⟩ : ∃ y, y = gtF A c.m x i := ⟨_, rfl⟩
  rw [← hgv] at G ⊢
  obtain ⟨y, er, hye⟩ : ∃ y er, getF A c.m x i = (y, er) := ⟨_, _, rfl⟩
  rw [hye] at G CG GE
  simp only at G GE
  clear h hye hgv hx hi
  rcases GE with rfl | rfl
  · have G2 : gv = y := by rw [G.out]; rfl
    subst G2
    clear G
    go_enter Try.func102, Try.ntmps102
    go_wp2_with fail
    refine CV.out.mono ?_
    rintro e w' ⟨rfl, rfl⟩
    go_wp2_with fail
    refine CG.out.mono ?_
    rintro e w1 ⟨rfl, F1⟩
    go_wp2
    go_ret
    exact ⟨rfl, H.out.keep F1⟩
  · have G2 : gv = 45 := by rw [G.out]; rfl
    subst G2
    clear G
    go_enter Try.func102, Try.ntmps102
    go_wp2_with fail
    refine CV.out.mono ?_
    rintro e w' ⟨rfl, rfl⟩
    go_wp2_with fail
    refine CG.out.mono ?_
    rintro e w1 ⟨rfl, F1⟩
    go_wp2_with (go_at_call 98; refine (nothing_c _).mono ?_; rintro e w' ⟨rfl, rfl⟩)
    go_ret
    exact ⟨rfl, H.out.keep F1⟩
end Go.Proofs.Ytjgndfhfiekomaa
