/- Collecting: Run by the law; the chapter's example. -/
import Derived.Test.YtjgndfhfiekomaaColQ
import Derived.Test.YtjgndfhfiekomaaColS
set_option linter.all false
namespace Go.Proofs.Ytjgndfhfiekomaa
open Go.ChangeShapes Go.WideShapes Go.RowKit Go.Maps
variable {w w' : World} {hb b wb lb : Nat} {A : Ar} {m N : Nat} {G K : List Bool} {D : Nat → Option Ob}
def RunG (hb b wb lb m : Nat) (rs : List Rw) (D : Nat → Option Ob) (ls : List (List Int)) (p0 p1 : Int) (w : World) (e : Ending) (w' : World) : Prop :=
  ∃ (cl : Int → Int) (T : Tr) (ls' : List (List Int)) (G K : List Bool) (C : Nat → Option Ob) (ms : List Nat), After D m cl ls ls' T G K C ms ∧ (p0 ≤ 0 ∨ p1 ≤ 0 → T.moved = 0) ∧
    e = .returned (.agg #[.int .i64 T.live, .int .i64 T.moved, .int .i64 (emptyIn T.A.sweep.lines m)]) ∧ HeAt w' hb b wb lb T.A.sweep ∧ RowsIn w' rs ls' ∧ Fr (b :: wb :: lb :: rs.map Rw.g) w w'
theorem run_law (hH : HeAt w hb b wb lb A) (hg : HG A m G K D) (un : Unmarked A m) (hN : ∀ j o, D j = some o → j < N) (hN2 : N ≤ 1000000) (hcl : Closed D) (rv : Value) (rs : List Rw) (ls : List (List Int)) (hA : RowsArg w hb b wb lb rv rs) (hR : RowsIn w rs ls)
    (hl : ∀ l, l ∈ ls → ∀ x, x ∈ l → x % 8 ≠ 1 ∨ ∃ j o, D j = some o ∧ x = pw o.a) (hw : ∀ l, l ∈ ls → ∀ x, x ∈ l → 0 ≤ x ∧ x < 18446744073709551616) (p0 p1 : Int) :
    Calls Try.prog 36 #[.pointer (some ⟨hb, 0, none⟩), rv, .agg #[.int .i64 p0, .int .i64 p1]] w (RunG hb b wb lb m rs D ls p0 p1 w) := by
  refine (run_c2 hH hg.inv.ok hg.wd rv rs ls hA hR p0 p1 (P := fun cl T ls' => (p0 ≤ 0 ∨ p1 ≤ 0 → T.moved = 0) ∧ ∃ G K C ms, After D m cl ls ls' T G K C ms) ?_).mono ?_
  · intro cl least _ hpl
    obtain ⟨T, ls', G', K', C, ms, h1, h2⟩ := collect_law hg un hN hN2 hcl cl least ls hl hw
    exact ⟨T, ls', h1, fun hp => h2.cz (fun x => by rw [hpl hp]), G', K', C, ms, h2⟩
  · rintro e w' ⟨cl, T, ls', ⟨h1, G', K', C, ms, h2⟩, h3, h4, h5, h6⟩
    exact ⟨cl, T, ls', G', K', C, ms, h2, h1, h3, h4, h5, h6⟩
def cx1 : Ar := (makeF (Ar.new 3) 3 0 2).1
def cx2 : Ar := (makeF cx1 3 0 2).1
def cx3 : Ar := (setF cx2 3 1 0 25).1
def cx4 : Ar := (setF cx3 3 25 0 1).1
def cx5 : Ar := (setF cx4 3 25 1 64).1
def cxD : Nat → Option Ob := updD (updD (fun _ => none) 0 ⟨0, 0, 0, [25, 45]⟩) 1 ⟨3, 0, 0, [1, 64]⟩
theorem updD_upd (D : Nat → Option Ob) (j : Nat) (o p : Ob) : updD (updD D j o) j p = updD D j p := by
  funext i; unfold updD; split <;> rfl
theorem updD_comm (D : Nat → Option Ob) {i j : Nat} (h : i ≠ j) (o p : Ob) : updD (updD D i o) j p = updD (updD D j p) i o := by
  funext k; unfold updD
  by_cases h1 : k = i
  · subst h1; simp [h]
  · simp [h1]
theorem cx_hg : Unmarked cx5 3 ∧ ∃ G, HG cx5 3 G (List.replicate (3 * 16) false) cxD := by
  have h0 := HG.start (m := 3) (by omega) (by omega)
  have u0 := Unmarked.start 3
  have e1 : (makeF (Ar.new 3) 3 0 2).2 = some 1 := by decide +kernel
  have e2 : (makeF cx1 3 0 2).2 = some 25 := by decide +kernel
  have u1 := u0.make h0 0 2 (j := 0) rfl
  obtain ⟨G1, a1, q1, _, _, _, _, h1⟩ := h0.makeS e1 (j := 0) rfl
  have p1 : a1 = 0 := by unfold pw at q1; omega
  subst p1
  change HG cx1 3 G1 _ _ at h1
  change Unmarked cx1 3 at u1
  have u2 := u1.make h1 0 2 (j := 1) rfl
  obtain ⟨G2, a2, q2, _, _, _, _, h2⟩ := h1.makeS e2 (j := 1) rfl
  have p2 : a2 = 3 := by unfold pw at q2; omega
  subst p2
  change HG cx2 3 G2 _ _ at h2
  change Unmarked cx2 3 at u2
  have h3 := (h2.setS (j := 0) (o := ⟨0, 0, 0, [45, 45]⟩) rfl 0 (by simp) (v := 25) (by omega) (by omega)).2
  change HG cx3 3 G2 _ _ at h3
  have h4 := (h3.setS (j := 1) (o := ⟨3, 0, 0, [45, 45]⟩) rfl 0 (by simp) (v := 1) (by omega) (by omega)).2
  change HG cx4 3 G2 _ _ at h4
  have h5 := (h4.setS (j := 1) (o := ⟨3, 0, 0, [1, 45]⟩) rfl 1 (by simp) (v := 64) (by omega) (by omega)).2
  change HG cx5 3 G2 _ _ at h5
  refine ⟨(((u2.set 1 0 25).set 25 0 1).set 25 1 64), G2, ?_⟩
  have : cxD = updD (updD (updD (updD (updD (fun _ => none) 0 ⟨0, 0, 0, [45, 45]⟩) 1 ⟨3, 0, 0, [45, 45]⟩) 0 ⟨0, 0, 0, [25, 45]⟩) 1 ⟨3, 0, 0, [1, 45]⟩) 1 ⟨3, 0, 0, [1, 64]⟩ := by
    funext i
    unfold cxD updD
    by_cases h1 : i = 1
    · simp [h1]
    · by_cases h0 : i = 0 <;> simp [h0, h1]
  rw [this]
  exact h5
theorem cxD_bd : ∀ j o, cxD j = some o → j < 2 := by
  intro j o h
  unfold cxD updD at h
  split at h
  · omega
  · split at h
    · omega
    · simp at h
theorem cx_closed : Closed cxD := by
  intro j o i h hi
  have hi2 := Nat.lt_of_lt_of_le hi (cntO_le o)
  unfold cxD updD at h
  split at h
  · injection h with h
    subst h
    match i, hi2 with
    | 0, _ => exact .inr ⟨0, ⟨0, 0, 0, [25, 45]⟩, rfl, rfl⟩
    | 1, _ => exact .inl (by simp)
  · split at h
    · injection h with h
      subst h
      match i, hi2 with
      | 0, _ => exact .inr ⟨1, ⟨3, 0, 0, [1, 64]⟩, rfl, rfl⟩
      | 1, _ => exact .inl (by simp)
    · simp at h
/-- What the first collection of the example leaves. -/
theorem cx_after {cl : Int → Int} {ls' : List (List Int)} {T : Tr} {G K : List Bool} {C : Nat → Option Ob} {ms : List Nat} (h : After cxD 3 cl [[25, 8]] ls' T G K C ms) :
    T.live = 2 ∧ ∃ y, ls' = [[y, 8]] ∧ 0 ≤ y ∧ y < 18446744073709551616 ∧ getF T.A.sweep 3 y 1 = (64, 0) := by
  have d0 : cxD 0 = some ⟨0, 0, 0, [25, 45]⟩ := rfl
  have d1 : cxD 1 = some ⟨3, 0, 0, [1, 64]⟩ := rfl
  have r1 : Reach cxD [[25, 8]] 1 := .root [25, 8] 25 1 _ (by simp) (by simp) d1 rfl
  have r0 : Reach cxD [[25, 8]] 0 := .field 1 _ 0 0 _ r1 d1 (by decide) d0 rfl
  have hms : ms.length = 2 := by
    rw [len_count (fun _ => true) 2 ms h.nd]
    · rfl
    · intro j
      rw [h.md]
      constructor
      · intro hj
        obtain ⟨o, c, h1, _⟩ := h.mo j ((h.md j).2 hj)
        exact ⟨cxD_bd j o h1, rfl⟩
      · rintro ⟨h1, _⟩
        match j, h1 with
        | 0, _ => exact r0
        | 1, _ => exact r1
  obtain ⟨hlen, hrow⟩ := h.rt 0 (by simp)
  have hl := h.rl
  obtain ⟨l, rfl⟩ : ∃ l, ls' = [l] := List.length_eq_one_iff.1 (by simpa using hl)
  simp only [List.getElem?_cons_zero, Option.getD_some, List.length_cons, List.length_nil] at hlen hrow
  have t0 := hrow 0 (by omega)
  have t1 := hrow 1 (by omega)
  simp only [List.getElem?_cons_zero, List.getElem?_cons_succ, Option.getD_some] at t0 t1
  have t1 := t1.non (by decide)
  rcases t0 with ⟨t0, _⟩ | ⟨k, ok, ck, s1, s2, s3, s4, s5⟩
  · exact absurd rfl t0
  · have hk : k = 1 := by
      unfold cxD updD at s1
      split at s1
      · assumption
      · split at s1
        · injection s1 with s1
          subst s1
          unfold pw at s2
          simp at s2
        · simp at s1
    subst hk
    obtain ⟨o, c, m1, m2, m3, _⟩ := h.mo 1 s3
    rw [d1] at m1
    injection m1 with m1
    rw [s4] at m2
    injection m2 with m2
    subst m1 m2
    have hkp : keptD C ms 1 = some ck := by unfold keptD; rw [if_pos s3]; exact s4
    have hlc := m3.l
    simp only [List.length_cons, List.length_nil] at hlc
    have hgt := h.hg.get hkp 1 (by omega)
    have hpw := h.hg.pwb hkp
    have hf := (m3.a 1 (by decide) (by simp)).non (by decide)
    simp only [List.getElem?_cons_succ, List.getElem?_cons_zero, Option.getD_some] at hf
    rw [hf] at hgt
    refine ⟨by rw [h.lv, hms]; rfl, l[0]?.getD 0, ?_, ?_, ?_, ?_⟩
    · match l, hlen with
      | [a, b], _ => simp only [List.getElem?_cons_zero, List.getElem?_cons_succ, Option.getD_some] at t1 ⊢; rw [t1]
    · rw [s5]; exact hpw.1
    · rw [s5]; exact hpw.2
    · rw [s5]; exact hgt
end Go.Proofs.Ytjgndfhfiekomaa
