/- The arena: Alloc, Fresh. -/
import Derived.Test.YtjgndfhfiekomaaArenaE
set_option linter.all false
namespace Go.Proofs.Ytjgndfhfiekomaa
open Go.ChangeShapes Go.WideShapes Go.RowKit
variable {w : World} {b wb lb : Nat} {A : Ar}
theorem find_spec (l : List (Bool × Bool)) (i : Nat) (many : Int) (hm : 1 ≤ many) (f t : Nat) (h : find l i many = some (f, t)) : i ≤ f ∧ f < t ∧ t ≤ l.length ∧ many ≤ (t : Int) - f ∧ t = hole l f := by
  unfold find at h
  generalize l.length - i = fuel at h
  induction fuel generalizing i with
  | zero => simp [findF] at h
  | succ n ih =>
    simp only [findF] at h
    split at h
    · split at h
      · simp at h; obtain ⟨rfl, rfl⟩ := h
        have := hole_le l i (by omega); omega
      · have := ih _ h; omega
    · simp at h
theorem Ar.Ok.claim {m : Nat} (ok : A.Ok m) (f t : Nat) : (A.claim f t).Ok m :=
  ⟨ok.m1, ok.m2, ok.wl, by simp [Ar.claim, len_claimed, ok.ll], ok.s1, ok.s2, ok.g1, ok.g2, ok.c1, ok.c2, ok.x1⟩
def optVal : Option Nat → Value
  | some n => .tuple #[.int .i64 n, .bool true]
  | none => .tuple #[.int .i64 0, .bool false]
/-- As Alloc, of at most a line's words (so many are asked: one or more). -/
def Ar.smallA (A : Ar) (n : Nat) : Ar × Option Nat :=
  if n ≤ A.st - A.sf then ({ A with sf := A.sf + n }, some A.sf) else
  match find A.lines A.next 1 with
  | none => (A, none)
  | some (f, t) => ({ A.claim f t with sf := f * 16 + n, st := t * 16, next := t }, some (f * 16))
def Ar.greatA (A : Ar) (n : Nat) (m : Nat) : Ar × Option Nat :=
  if n ≤ A.gt - A.gf then ({ A with gf := A.gf + n }, some A.gf) else
  match blockBelow A.lines m with
  | some q => ({ A.claim (q * 16) ((q + 1) * 16) with gf := q * 16 * 16 + n, gt := (q + 1) * 16 * 16 }, some (q * 16 * 16))
  | none =>
    match find A.lines 0 ((n + 15) / 16 : Nat) with
    | none => (A, none)
    | some (f, t) => ({ A.claim f t with gf := f * 16 + n, gt := t * 16 }, some (f * 16))
def Ar.freshA (A : Ar) (n : Nat) (m : Nat) : Ar × Option Nat :=
  if n ≤ A.ct - A.cf then ({ A with cf := A.cf + n }, some A.cf) else
  match blockBelow A.lines m with
  | some q => ({ A.claim (q * 16) ((q + 1) * 16) with cf := q * 16 * 16 + n, ct := (q + 1) * 16 * 16 }, some (q * 16 * 16))
  | none => (A, none)
def Done (b wb lb : Nat) (w : World) (r : Ar × Option Nat) (e : Ending) (w' : World) : Prop := e = .returned (optVal r.2) ∧ ArAt w' b wb lb r.1 ∧ Fr [b, lb] w w'
theorem done_mk {w' : World} {r : Ar × Option Nat} {A' : Ar} {o : Option Nat} {v : Value} (hr : r = (A', o)) (hv : v = optVal o) (hA : ArAt w' b wb lb A') (hF : Fr [b, lb] w w') : Done b wb lb w r (.returned v) w' := by
  subst hr hv; exact ⟨rfl, hA, hF⟩
theorem claim_i (w : World) {m : Nat} (hA : ArAt w b wb lb A) (ok : A.Ok m) (F T : Int) (f t : Nat) (hF : F = f) (hT : T = t) (hft : f ≤ t) (ht : t ≤ m * 16) :
    Calls Try.prog 122 #[.pointer (some ⟨b, 0, none⟩), .int .i64 F, .int .i64 T] w fun e w' => e = .returned (.agg #[.int .i64 (F * 16), .int .i64 (T * 16)]) ∧ ArAt w' b wb lb (A.claim f t) ∧ Fr [lb] w w' := by
  subst hF hT
  exact claim_c w hA ok f t hft ht
theorem small_take (w : World) {m : Nat} (hA : ArAt w b wb lb A) (ok : A.Ok m) (n : Nat) (h0 : 1 ≤ n) (h1 : n ≤ 16) :
    Calls Try.prog 67 #[.pointer (some ⟨b, 0, none⟩), .int .i64 (n : Int)] w (Done b wb lb w (A.smallA n)) := by
  have m1 := ok.m1
  have m2 := ok.m2
  have s1 := ok.s1
  have s2 := ok.s2
  by_cases hs : n ≤ A.st - A.sf
  · have hr : A.smallA n = ({ A with sf := A.sf + n }, some A.sf) := by unfold Ar.smallA; rw [if_pos hs]
    have AT := Lib.hid hA
    have HR := Lib.hid hr
    clear hr ok hA
    go_enter Try.func67, Try.ntmps67
    go_wp2_with fail
    refine (take_yes _ b 2 A.sf A.st n AT.out.c2 AT.out.c3 (AT.out.fb 2) (by omega) (by omega) (by omega) (by omega) (by omega) (by omega) (by omega)).mono ?_
    rintro e w' ⟨rfl, hw⟩
    subst hw
    go_wp2
    go_ret2
    exact done_mk HR.out rfl (ArAt.fr (AT.out.field { A with sf := A.sf + n } 2 _ rfl rfl rfl) ((Fr.refl [] _).drew) (by simp) (by simp) (by simp)) ((Fr.refl _ _).setCell (by simp) _).drew
  · have c8 := hA.c8
    have x1 := ok.x1
    cases hfind : find A.lines A.next 1 with
    | none =>
      have HR : Hid (A.smallA n = (A, none)) := Lib.hid (by unfold Ar.smallA; rw [if_neg hs, hfind])
      have CF := Lib.hid (find_c w.drew (ArAt.fr hA (Fr.refl [] w).drew (by simp) (by simp) (by simp)) ok A.next 1 x1 (by omega) (by omega))
      rw [hfind] at CF
      simp only [findVal] at CF
      have AT := Lib.hid hA
      clear ok hA hfind
      go_enter Try.func67, Try.ntmps67
      go_wp2_with fail
      refine (take_no _ b 2 A.sf A.st n AT.out.c2 AT.out.c3 (by omega) (by omega) (by omega) (by omega) (by omega)).mono ?_
      rintro e w' ⟨rfl, hw⟩
      subst hw
      go_wp2_with fail
      refine CF.out.mono ?_
      rintro e w' ⟨rfl, rfl⟩
      go_wp2
      go_ret2
      exact done_mk HR.out rfl (ArAt.fr AT.out (Fr.refl [] w).drew (by simp) (by simp) (by simp)) (Fr.refl _ _).drew
    | some ft =>
      obtain ⟨f, t⟩ := ft
      obtain ⟨p1, p2, p3, p4, p5⟩ := find_spec _ _ _ (by omega) _ _ hfind
      rw [ok.ll] at p3
      have HR : Hid (A.smallA n = ({ A.claim f t with sf := f * 16 + n, st := t * 16, next := t }, some (f * 16))) := Lib.hid (by unfold Ar.smallA; rw [if_neg hs, hfind])
      have hd : ArAt w.drew b wb lb A := ArAt.fr hA (Fr.refl [] w).drew (by simp) (by simp) (by simp)
      have CF := Lib.hid (find_c w.drew hd ok A.next 1 x1 (by omega) (by omega))
      rw [hfind] at CF
      simp only [findVal] at CF
      have CC := Lib.hid (claim_c w.drew hd ok f t (by omega) p3)
      have AT := Lib.hid hA
      clear ok hA hfind p5 hd
      go_enter Try.func67, Try.ntmps67
      go_wp2_with fail
      refine (take_no _ b 2 A.sf A.st n AT.out.c2 AT.out.c3 (by omega) (by omega) (by omega) (by omega) (by omega)).mono ?_
      rintro e w' ⟨rfl, hw⟩
      subst hw
      go_wp2_with fail
      refine CF.out.mono ?_
      rintro e w' ⟨rfl, rfl⟩
      go_wp2_with fail
      refine CC.out.mono ?_
      rintro e w1 ⟨rfl, hA1, hF1⟩
      have k2 := hA1.c2
      have k3 := hA1.c3
      have k8 := hA1.c8
      have kf := hA1.fb
      have AT1 := Lib.hid hA1
      clear hA1
      go_wp2_with fail
      have hA3 := ((AT1.out.field { A.claim f t with sf := f * 16 } 2 (.int .i64 ((f : Int) * 16)) (by simp [Ar.cells]) rfl rfl).field { A.claim f t with sf := f * 16, st := t * 16 } 3 (.int .i64 ((t : Int) * 16)) (by simp [Ar.cells]) rfl rfl).field { A.claim f t with sf := f * 16, st := t * 16, next := t } 8 (.int .i64 (t : Int)) rfl rfl rfl
      have AT3 := Lib.hid hA3
      clear hA3
      refine (take_yes _ b 2 (f * 16 : Nat) (t * 16 : Nat) n AT3.out.c2 AT3.out.c3 (AT3.out.fb 2) (by omega) (by omega) (by omega) (by omega) (by omega) (by omega) (by omega)).mono ?_
      rintro e w' ⟨rfl, hw⟩
      subst hw
      go_wp2
      go_ret2
      refine done_mk HR.out rfl (ArAt.fr (AT3.out.field { A.claim f t with sf := f * 16 + n, st := t * 16, next := t } 2 _ (by simp [Ar.cells]) rfl rfl) ((Fr.refl [] _).drew) (by simp) (by simp) (by simp)) ?_
      exact (((((((Fr.refl _ w).drew.trans hF1 (by simp)).setCell (by simp) _).setCell (by simp) _).setCell (by simp) _).setCell (by simp) _)).drew
theorem greater_c (w : World) {m : Nat} (hA : ArAt w b wb lb A) (ok : A.Ok m) (n : Nat) (h0 : 17 ≤ n) (h1 : n ≤ 256) :
    Calls Try.prog 119 #[.pointer (some ⟨b, 0, none⟩), .int .i64 (n : Int)] w (Done b wb lb w (A.greatA n m)) := by
  have m1 := ok.m1
  have m2 := ok.m2
  have s1 := ok.g1
  have s2 := ok.g2
  by_cases hs : n ≤ A.gt - A.gf
  · have HR : Hid (A.greatA n m = ({ A with gf := A.gf + n }, some A.gf)) := Lib.hid (by unfold Ar.greatA; rw [if_pos hs])
    have AT := Lib.hid hA
    clear ok hA
    go_enter Try.func119, Try.ntmps119
    go_wp2_with fail
    refine (take_yes _ b 4 A.gf A.gt n AT.out.c4 AT.out.c5 (AT.out.fb 4) (by omega) (by omega) (by omega) (by omega) (by omega) (by omega) (by omega)).mono ?_
    rintro e w' ⟨rfl, hw⟩
    subst hw
    go_wp2
    go_ret2
    exact done_mk HR.out rfl (ArAt.fr (AT.out.field { A with gf := A.gf + n } 4 _ rfl rfl rfl) ((Fr.refl [] _).drew) (by simp) (by simp) (by simp)) ((Fr.refl _ _).setCell (by simp) _).drew
  · have hd : ArAt w.drew b wb lb A := ArAt.fr hA (Fr.refl [] w).drew (by simp) (by simp) (by simp)
    have CB := Lib.hid (block_c w.drew hd ok)
    have AT := Lib.hid hA
    have OK := Lib.hid ok
    cases hb : blockBelow A.lines m with
    | some q =>
      obtain ⟨q1, q2⟩ := blockBelow_lt _ _ _ hb
      have HR : Hid (A.greatA n m = ({ A.claim (q * 16) ((q + 1) * 16) with gf := q * 16 * 16 + n, gt := (q + 1) * 16 * 16 }, some (q * 16 * 16))) := Lib.hid (by unfold Ar.greatA; rw [if_neg hs, hb])
      rw [hb] at CB
      simp only [blockVal] at CB
      clear ok hA hb q2 hd
      go_enter Try.func119, Try.ntmps119
      go_wp2_with fail
      refine (take_no _ b 4 A.gf A.gt n AT.out.c4 AT.out.c5 (by omega) (by omega) (by omega) (by omega) (by omega)).mono ?_
      rintro e w' ⟨rfl, hw⟩
      subst hw
      go_wp2_with fail
      refine CB.out.mono ?_
      rintro e w1 ⟨rfl, hF0⟩
      go_wp2_with fail
      refine (claim_i w1 (ArAt.fr AT.out ((Fr.refl [] w).drew.same hF0) (by simp) (by simp) (by simp)) OK.out _ _ (q * 16) ((q + 1) * 16) (by omega) (by omega) (by omega) (by omega)).mono ?_
      rintro e w2 ⟨rfl, hA1, hF1⟩
      have k2 := hA1.c4
      have k3 := hA1.c5
      have kf := hA1.fb
      have AT1 := Lib.hid hA1
      clear hA1
      go_wp2_with fail
      have hA3 := (AT1.out.field { A.claim (q * 16) ((q + 1) * 16) with gf := q * 16 * 16 } 4 (.int .i64 ((q : Int) * 16 * 16)) (by simp [Ar.cells]) rfl rfl).field { A.claim (q * 16) ((q + 1) * 16) with gf := q * 16 * 16, gt := (q + 1) * 16 * 16 } 5 (.int .i64 (((q : Int) + 1) * 16 * 16)) (by simp [Ar.cells]) rfl rfl
      have AT3 := Lib.hid hA3
      clear hA3
      refine (take_yes _ b 4 (q * 16 * 16 : Nat) ((q + 1) * 16 * 16 : Nat) n AT3.out.c4 AT3.out.c5 (AT3.out.fb 4) (by omega) (by omega) (by omega) (by omega) (by omega) (by omega) (by omega)).mono ?_
      rintro e w' ⟨rfl, hw⟩
      subst hw
      go_wp2
      go_ret2
      refine done_mk HR.out rfl (ArAt.fr (AT3.out.field { A.claim (q * 16) ((q + 1) * 16) with gf := q * 16 * 16 + n, gt := (q + 1) * 16 * 16 } 4 _ (by simp [Ar.cells]) rfl rfl) ((Fr.refl [] _).drew) (by simp) (by simp) (by simp)) ?_
      exact ((((((Fr.refl _ w).drew.trans hF0 (by simp)).trans hF1 (by simp)).setCell (by simp) _).setCell (by simp) _).setCell (by simp) _).drew
    | none =>
      rw [hb] at CB
      simp only [blockVal] at CB
      have hq : ((n : Int) + 16 - 1) / 16 = (((n + 15) / 16 : Nat) : Int) := by omega
      cases hfind : find A.lines 0 ((n + 15) / 16 : Nat) with
      | none =>
        have HR : Hid (A.greatA n m = (A, none)) := Lib.hid (by unfold Ar.greatA; rw [if_neg hs, hb]; simp only []; rw [hfind])
        have HF := Lib.hid hfind
        have HQ := Lib.hid hq
        clear ok hA hb hfind hd hq
        go_enter Try.func119, Try.ntmps119
        go_wp2_with fail
        refine (take_no _ b 4 A.gf A.gt n AT.out.c4 AT.out.c5 (by omega) (by omega) (by omega) (by omega) (by omega)).mono ?_
        rintro e w' ⟨rfl, hw⟩
        subst hw
        go_wp2_with fail
        refine CB.out.mono ?_
        rintro e w1 ⟨rfl, hF0⟩
        go_wp2_with fail
        have hA1 := ArAt.fr AT.out ((Fr.refl [] w).drew.same hF0) (by simp) (by simp) (by simp)
        have CF := find_c w1 hA1 OK.out 0 (((n : Int) + 16 - 1) / 16) (by omega) (by omega) (by omega)
        rw [HQ.out, HF.out, ← HQ.out] at CF
        simp only [findVal] at CF
        refine CF.mono ?_
        rintro e w' ⟨rfl, rfl⟩
        clear CF
        go_wp2
        go_ret2
        exact done_mk HR.out rfl hA1 (((Fr.refl _ w).drew.trans hF0 (by simp)))
      | some ft =>
        obtain ⟨f, t⟩ := ft
        obtain ⟨p1, p2, p3, p4, p5⟩ := find_spec _ _ _ (by omega) _ _ hfind
        rw [ok.ll] at p3
        have HR : Hid (A.greatA n m = ({ A.claim f t with gf := f * 16 + n, gt := t * 16 }, some (f * 16))) := Lib.hid (by unfold Ar.greatA; rw [if_neg hs, hb]; simp only []; rw [hfind])
        have HF := Lib.hid hfind
        have HQ := Lib.hid hq
        clear ok hA hb hfind hd hq p5
        go_enter Try.func119, Try.ntmps119
        go_wp2_with fail
        refine (take_no _ b 4 A.gf A.gt n AT.out.c4 AT.out.c5 (by omega) (by omega) (by omega) (by omega) (by omega)).mono ?_
        rintro e w' ⟨rfl, hw⟩
        subst hw
        go_wp2_with fail
        refine CB.out.mono ?_
        rintro e w1 ⟨rfl, hF0⟩
        go_wp2_with fail
        have hA1 := ArAt.fr AT.out ((Fr.refl [] w).drew.same hF0) (by simp) (by simp) (by simp)
        have CF := find_c w1 hA1 OK.out 0 (((n : Int) + 16 - 1) / 16) (by omega) (by omega) (by omega)
        rw [HQ.out, HF.out, ← HQ.out] at CF
        simp only [findVal] at CF
        refine CF.mono ?_
        rintro e w' ⟨rfl, rfl⟩
        clear CF
        have A1 := Lib.hid hA1
        clear hA1
        go_wp2_with fail
        refine (claim_c w1 A1.out OK.out f t (by omega) p3).mono ?_
        rintro e w2 ⟨rfl, hA1, hF1⟩
        have k2 := hA1.c4
        have k3 := hA1.c5
        have kf := hA1.fb
        have AT1 := Lib.hid hA1
        clear hA1
        go_wp2_with fail
        have hA3 := (AT1.out.field { A.claim f t with gf := f * 16 } 4 (.int .i64 ((f : Int) * 16)) (by simp [Ar.cells]) rfl rfl).field { A.claim f t with gf := f * 16, gt := t * 16 } 5 (.int .i64 ((t : Int) * 16)) (by simp [Ar.cells]) rfl rfl
        have AT3 := Lib.hid hA3
        clear hA3
        refine (take_yes _ b 4 (f * 16 : Nat) (t * 16 : Nat) n AT3.out.c4 AT3.out.c5 (AT3.out.fb 4) (by omega) (by omega) (by omega) (by omega) (by omega) (by omega) (by omega)).mono ?_
        rintro e w' ⟨rfl, hw⟩
        subst hw
        go_wp2
        go_ret2
        refine done_mk HR.out rfl (ArAt.fr (AT3.out.field { A.claim f t with gf := f * 16 + n, gt := t * 16 } 4 _ (by simp [Ar.cells]) rfl rfl) ((Fr.refl [] _).drew) (by simp) (by simp) (by simp)) ?_
        exact ((((((Fr.refl _ w).drew.trans hF0 (by simp)).trans hF1 (by simp)).setCell (by simp) _).setCell (by simp) _).setCell (by simp) _).drew
/-- Alloc, of whatever number. -/
def Ar.alloc (A : Ar) (m : Nat) (n : Int) : Ar × Option Nat := if n < 1 ∨ 256 < n then (A, none) else if 16 < n then A.greatA n.toNat m else A.smallA n.toNat
theorem alloc_c (w : World) {m : Nat} (hA : ArAt w b wb lb A) (ok : A.Ok m) (n : Int) :
    Calls Try.prog 67 #[.pointer (some ⟨b, 0, none⟩), .int .i64 n] w (Done b wb lb w (A.alloc m n)) := by
  unfold Ar.alloc
  by_cases h0 : n < 1 ∨ 256 < n
  · rw [if_pos h0]
    have AT := Lib.hid hA
    clear ok hA
    rcases h0 with h0 | h0
    all_goals
      go_enter Try.func67, Try.ntmps67
      go_wp2
      go_ret2
      exact done_mk rfl rfl AT.out (Fr.refl _ _)
  · rw [if_neg h0]
    by_cases h1 : 16 < n
    · rw [if_pos h1]
      have CG := greater_c w hA ok n.toNat (by omega) (by omega)
      rw [show ((n.toNat : Nat) : Int) = n from by omega] at CG
      have CG := Lib.hid CG
      have h2 : 1 ≤ n := by omega
      have h3 : n ≤ 256 := by omega
      generalize A.greatA n.toNat m = r at CG
      have AT := Lib.hid hA
      clear ok hA h0
      cases ho : r.2 with
      | none =>
        go_enter Try.func67, Try.ntmps67
        go_wp2_with fail
        refine CG.out.mono ?_
        rintro e w' ⟨rfl, hA', hF'⟩
        rw [ho]
        simp only [optVal]
        have D := Lib.hid (done_mk (w := w) (r := r) (A' := r.1) (o := none) (by rw [← ho]) rfl hA' hF')
        clear hA' hF' ho CG
        go_wp2
        go_ret2
        exact D.out
      | some k =>
        go_enter Try.func67, Try.ntmps67
        go_wp2_with fail
        refine CG.out.mono ?_
        rintro e w' ⟨rfl, hA', hF'⟩
        rw [ho]
        simp only [optVal]
        have D := Lib.hid (done_mk (w := w) (r := r) (A' := r.1) (o := some k) (by rw [← ho]) rfl hA' hF')
        clear hA' hF' ho CG
        go_wp2
        go_ret2
        exact D.out
    · rw [if_neg h1]
      have := small_take w hA ok n.toNat (by omega) (by omega)
      rwa [show ((n.toNat : Nat) : Int) = n from by omega] at this
/-- Fresh, of whatever number. -/
def Ar.fresh (A : Ar) (m : Nat) (n : Int) : Ar × Option Nat := if n < 1 ∨ 256 < n then (A, none) else A.freshA n.toNat m
theorem fresh_c (w : World) {m : Nat} (hA : ArAt w b wb lb A) (ok : A.Ok m) (n : Int) :
    Calls Try.prog 79 #[.pointer (some ⟨b, 0, none⟩), .int .i64 n] w (Done b wb lb w (A.fresh m n)) := by
  unfold Ar.fresh
  by_cases h0 : n < 1 ∨ 256 < n
  · rw [if_pos h0]
    have AT := Lib.hid hA
    clear ok hA
    rcases h0 with h0 | h0
    all_goals
      go_enter Try.func79, Try.ntmps79
      go_wp2
      go_ret2
      exact done_mk rfl rfl AT.out (Fr.refl _ _)
  rw [if_neg h0]
  have h2 : 1 ≤ n := by omega
  have h3 : n ≤ 256 := by omega
  clear h0
  obtain ⟨n, rfl⟩ := Int.eq_ofNat_of_zero_le (show 0 ≤ n by omega)
  simp only [Int.toNat_natCast]
  have h2 : 1 ≤ n := by omega
  have h3 : n ≤ 256 := by omega
  have m1 := ok.m1
  have m2 := ok.m2
  have s1 := ok.c1
  have s2 := ok.c2
  by_cases hs : n ≤ A.ct - A.cf
  · have HR : Hid (A.freshA n m = ({ A with cf := A.cf + n }, some A.cf)) := Lib.hid (by unfold Ar.freshA; rw [if_pos hs])
    have AT := Lib.hid hA
    clear ok hA
    go_enter Try.func79, Try.ntmps79
    go_wp2_with fail
    refine (take_yes _ b 6 A.cf A.ct n AT.out.c6 AT.out.c7 (AT.out.fb 6) (by omega) (by omega) (by omega) (by omega) (by omega) (by omega) (by omega)).mono ?_
    rintro e w' ⟨rfl, hw⟩
    subst hw
    go_wp2
    go_ret2
    exact done_mk HR.out rfl (ArAt.fr (AT.out.field { A with cf := A.cf + n } 6 _ rfl rfl rfl) ((Fr.refl [] _).drew) (by simp) (by simp) (by simp)) ((Fr.refl _ _).setCell (by simp) _).drew
  · have hd : ArAt w.drew b wb lb A := ArAt.fr hA (Fr.refl [] w).drew (by simp) (by simp) (by simp)
    have CB := Lib.hid (block_c w.drew hd ok)
    have AT := Lib.hid hA
    have OK := Lib.hid ok
    cases hb : blockBelow A.lines m with
    | some q =>
      obtain ⟨q1, q2⟩ := blockBelow_lt _ _ _ hb
      have HR : Hid (A.freshA n m = ({ A.claim (q * 16) ((q + 1) * 16) with cf := q * 16 * 16 + n, ct := (q + 1) * 16 * 16 }, some (q * 16 * 16))) := Lib.hid (by unfold Ar.freshA; rw [if_neg hs, hb])
      rw [hb] at CB
      simp only [blockVal] at CB
      clear ok hA hb q2 hd
      go_enter Try.func79, Try.ntmps79
      go_wp2_with fail
      refine (take_no _ b 6 A.cf A.ct n AT.out.c6 AT.out.c7 (by omega) (by omega) (by omega) (by omega) (by omega)).mono ?_
      rintro e w' ⟨rfl, hw⟩
      subst hw
      go_wp2_with fail
      refine CB.out.mono ?_
      rintro e w1 ⟨rfl, hF0⟩
      go_wp2_with fail
      refine (claim_i w1 (ArAt.fr AT.out ((Fr.refl [] w).drew.same hF0) (by simp) (by simp) (by simp)) OK.out _ _ (q * 16) ((q + 1) * 16) (by omega) (by omega) (by omega) (by omega)).mono ?_
      rintro e w2 ⟨rfl, hA1, hF1⟩
      have k2 := hA1.c6
      have k3 := hA1.c7
      have kf := hA1.fb
      have AT1 := Lib.hid hA1
      clear hA1
      go_wp2_with fail
      have hA3 := (AT1.out.field { A.claim (q * 16) ((q + 1) * 16) with cf := q * 16 * 16 } 6 (.int .i64 ((q : Int) * 16 * 16)) (by simp [Ar.cells]) rfl rfl).field { A.claim (q * 16) ((q + 1) * 16) with cf := q * 16 * 16, ct := (q + 1) * 16 * 16 } 7 (.int .i64 (((q : Int) + 1) * 16 * 16)) (by simp [Ar.cells]) rfl rfl
      have AT3 := Lib.hid hA3
      clear hA3
      refine (take_yes _ b 6 (q * 16 * 16 : Nat) ((q + 1) * 16 * 16 : Nat) n AT3.out.c6 AT3.out.c7 (AT3.out.fb 6) (by omega) (by omega) (by omega) (by omega) (by omega) (by omega) (by omega)).mono ?_
      rintro e w' ⟨rfl, hw⟩
      subst hw
      go_wp2
      go_ret2
      refine done_mk HR.out rfl (ArAt.fr (AT3.out.field { A.claim (q * 16) ((q + 1) * 16) with cf := q * 16 * 16 + n, ct := (q + 1) * 16 * 16 } 6 _ (by simp [Ar.cells]) rfl rfl) ((Fr.refl [] _).drew) (by simp) (by simp) (by simp)) ?_
      exact ((((((Fr.refl _ w).drew.trans hF0 (by simp)).trans hF1 (by simp)).setCell (by simp) _).setCell (by simp) _).setCell (by simp) _).drew
    | none =>
      have HR : Hid (A.freshA n m = (A, none)) := Lib.hid (by unfold Ar.freshA; rw [if_neg hs, hb])
      rw [hb] at CB
      simp only [blockVal] at CB
      clear ok hA hb hd
      go_enter Try.func79, Try.ntmps79
      go_wp2_with fail
      refine (take_no _ b 6 A.cf A.ct n AT.out.c6 AT.out.c7 (by omega) (by omega) (by omega) (by omega) (by omega)).mono ?_
      rintro e w' ⟨rfl, hw⟩
      subst hw
      go_wp2_with fail
      refine CB.out.mono ?_
      rintro e w1 ⟨rfl, hF0⟩
      go_wp2
      go_ret2
      exact done_mk HR.out rfl (ArAt.fr AT.out ((Fr.refl [] w).drew.same hF0) (by simp) (by simp) (by simp)) (((Fr.refl _ w).drew.trans hF0 (by simp)))
end Go.Proofs.Ytjgndfhfiekomaa
