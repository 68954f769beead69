import Derived.Test.YtjdanblijcdllaaGreatDoorExaE
/- Exact: capped sums and products. -/
set_option linter.all false
namespace Go.Proofs.YtjdanblijcdllaaGreatDoor
open Go.ChangeShapes Go.WideShapes Go.RowKit
variable {w w' w2 wr : World} {a b : Option Addr} {cap cap2 : Nat} {L M : List Nat} {B : Nat}
/-- What a capped function gave, opened. -/
def CapV (g : Bool) (s : Bool) (n : Nat) (sx : Bool) (a : Option Addr) (len cap : Nat) (er : Int) (w' : World) : Prop :=
  match g with
  | true => sx = s ∧ len = (lims n).length ∧ er = 0 ∧ In w' a cap (lims n)
  | false => sx = false ∧ a = none ∧ len = 0 ∧ cap = 0 ∧ er = 11
theorem capI_open {g s : Bool} {n : Nat} {e : Ending} (h : CapI w g s n e w') : ∃ sx a len cap er, e = .returned (.tuple #[.agg #[.bool sx, .slice a len cap], .int .i64 er]) ∧ CapV g s n sx a len cap er w' ∧ Fr [] w w' := by
  cases g with
  | true => obtain ⟨a, c, rfl, h1, h2⟩ := h; exact ⟨s, a, _, c, 0, rfl, ⟨rfl, rfl, rfl, h1⟩, h2⟩
  | false => obtain ⟨rfl, h2⟩ := h; exact ⟨false, none, 0, 0, 11, rfl, ⟨rfl, rfl, rfl, rfl, rfl⟩, h2⟩
theorem capI_shut {g s sx : Bool} {n len c : Nat} {er : Int} (h : CapV g s n sx a len c er w') (hF : Fr [] w w') : CapI w g s n (.returned (.tuple #[.agg #[.bool sx, .slice a len c], .int .i64 er])) w' := by
  cases g with
  | true => obtain ⟨rfl, rfl, rfl, h1⟩ := h; exact ⟨a, c, rfl, h1, hF⟩
  | false => obtain ⟨rfl, rfl, rfl, rfl, rfl⟩ := h; exact ⟨rfl, hF⟩
theorem CapV.set2 {g s sx s' : Bool} {n len c k n' c' : Nat} {a' : Option Addr} {er : Int} (h : CapV g s n sx a len c er w) (hb : Bx w k (.bool s') (.slice a' n' c')) (x y : Value) : CapV g s n sx a len c er ((w.setCell ⟨k, 0, none⟩ x).setCell ⟨k, 1, none⟩ y) := by
  cases g with
  | true => exact ⟨h.1, h.2.1, h.2.2.1, h.2.2.2.set2 hb x y⟩
  | false => exact h
theorem CapV.keep {g s sx : Bool} {n len c : Nat} {er : Int} (h : CapV g s n sx a len c er w) (hF : Fr [] w w') : CapV g s n sx a len c er w' := by
  cases g with
  | true => exact ⟨h.1, h.2.1, h.2.2.1, h.2.2.2.keep hF⟩
  | false => exact h
/-- The product of two with signs. -/
def MulI (w : World) (s : Bool) (n : Nat) (s2 : Bool) (m : Nat) (e : Ending) (w' : World) : Prop := CapI w (fits (n * m)) (sg (s != s2) (n * m)) (n * m) e w'
theorem emul_c (w : World) (s s2 : Bool) (n m : Nat) (h : In w a cap (lims n)) (h2 : In w b cap2 (lims m)) (hn : fits n = true) (hm : fits m = true) : Calls Tryz.prog 115 #[.agg #[.bool s, .slice a (lims n).length cap], .agg #[.bool s2, .slice b (lims m).length cap2]] w (MulI w s n s2 m) := by
  have H := Lib.hid h
  have H2 := Lib.hid h2
  clear h h2
  have F0 : Hid (Fr [] w (((w.alloc (.cells #[.bool s, .slice a (lims n).length cap] 25)).alloc (.cells #[.bool s2, .slice b (lims m).length cap2] 25)).alloc (.cells #[.bool false, .slice none 0 0] 25))) := Lib.hid ((((Fr.refl [] w).alloc _).alloc _).alloc _)
  have P : Hid (Bx (((w.alloc (.cells #[.bool s, .slice a (lims n).length cap] 25)).alloc (.cells #[.bool s2, .slice b (lims m).length cap2] 25)).alloc (.cells #[.bool false, .slice none 0 0] 25)) (w.heap.size) (.bool s) (.slice a (lims n).length cap)) := Lib.hid ((Bx.new _ _ _).fr (((Fr.refl [] _).alloc _).alloc _))
  have Q : Hid (Bx (((w.alloc (.cells #[.bool s, .slice a (lims n).length cap] 25)).alloc (.cells #[.bool s2, .slice b (lims m).length cap2] 25)).alloc (.cells #[.bool false, .slice none 0 0] 25)) (w.heap.size + 1) (.bool s2) (.slice b (lims m).length cap2)) := Lib.hid (((Bx.new _ _ _).eq (by simp)).fr ((Fr.refl [] _).alloc _))
  have R : Hid (Bx (((w.alloc (.cells #[.bool s, .slice a (lims n).length cap] 25)).alloc (.cells #[.bool s2, .slice b (lims m).length cap2] 25)).alloc (.cells #[.bool false, .slice none 0 0] 25)) (w.heap.size + 2) (.bool false) (.slice none 0 0)) := Lib.hid (((Bx.new _ _ _).eq (by simp)).fr (Fr.refl [] _))
  replace pc0 := P.out.c0
  replace pc1 := P.out.c1
  replace pl := P.out.lt
  replace qc0 := Q.out.c0
  replace qc1 := Q.out.c1
  replace ql := Q.out.lt
  replace rc0 := R.out.c0
  replace rc1 := R.out.c1
  replace rl := R.out.lt
  replace rf0 := R.out.f 0
  replace rf1 := R.out.f 1
  have CM := Lib.hid (lmul_c _ (H.out.keep F0.out) (H2.out.keep F0.out))
  rw [val_lims, val_lims, hn, hm, Bool.true_and, Bool.true_and] at CM
  clear hn hm
  unfold MulI
  cases hf : fits (n * m) with
  | true =>
    rw [hf] at CM
    clear hf
    go_enter Tryz.func115, Tryz.ntmps115
    go_wp2_with fail
    refine CM.out.mono ?_
    rintro e w1 ⟨a1, c1, rfl, N1, F1⟩
    have CS := Lib.hid (signed_c w1 (s != s2) (n * m) N1.in)
    replace P := Lib.hid (P.out.fr F1)
    replace pc0 := P.out.c0
    replace pc1 := P.out.c1
    replace pl := P.out.lt
    replace Q := Lib.hid (Q.out.fr F1)
    replace qc0 := Q.out.c0
    replace qc1 := Q.out.c1
    replace ql := Q.out.lt
    replace R := Lib.hid (R.out.fr F1)
    replace rc0 := R.out.c0
    replace rc1 := R.out.c1
    replace rl := R.out.lt
    replace rf0 := R.out.f 0
    replace rf1 := R.out.f 1
    have F1 := Lib.hid (F0.out.same F1)
    clear N1 CM
    go_wp2_with fail
    refine CS.out.mono ?_
    rintro e w8 ⟨a8, c8, rfl, I8, F8⟩
    have I8 := Lib.hid I8
    replace P := Lib.hid (P.out.fr F8)
    replace pc0 := P.out.c0
    replace pc1 := P.out.c1
    replace pl := P.out.lt
    replace Q := Lib.hid (Q.out.fr F8)
    replace qc0 := Q.out.c0
    replace qc1 := Q.out.c1
    replace ql := Q.out.lt
    replace R := Lib.hid (R.out.fr F8)
    replace rc0 := R.out.c0
    replace rc1 := R.out.c1
    replace rl := R.out.lt
    replace rf0 := R.out.f 0
    replace rf1 := R.out.f 1
    have F8 := Lib.hid (F1.out.same F8)
    clear CS
    go_wp2_with fail
    refine bodyPost_ret (ret_iv2 rfl _ _ _ _ _ rfl (R.out.set _ _)) rfl ?_
    exact ⟨a8, c8, rfl, I8.out.set2 R.out _ _, F8.out.set2 (by omega) _ _⟩
  | false =>
    rw [hf] at CM
    clear hf
    go_enter Tryz.func115, Tryz.ntmps115
    go_wp2_with fail
    refine CM.out.mono ?_
    rintro e w1 ⟨rfl, F1⟩
    replace P := Lib.hid (P.out.fr F1)
    replace pc0 := P.out.c0
    replace pc1 := P.out.c1
    replace pl := P.out.lt
    replace Q := Lib.hid (Q.out.fr F1)
    replace qc0 := Q.out.c0
    replace qc1 := Q.out.c1
    replace ql := Q.out.lt
    replace R := Lib.hid (R.out.fr F1)
    replace rc0 := R.out.c0
    replace rc1 := R.out.c1
    replace rl := R.out.lt
    replace rf0 := R.out.f 0
    replace rf1 := R.out.f 1
    have F1 := Lib.hid (F0.out.same F1)
    clear CM
    go_wp2_with fail
    refine bodyPost_ret (ret_iv2 rfl _ _ _ _ _ rfl (R.out.set _ _)) rfl ?_
    exact ⟨rfl, F1.out.set2 (by omega) _ _⟩
end Go.Proofs.YtjdanblijcdllaaGreatDoor
/- Exact: what a quotient gives. -/
namespace Go.Proofs.YtjdanblijcdllaaGreatDoor
open Go.ChangeShapes Go.WideShapes Go.RowKit
variable {w w' w2 wr : World} {a b : Option Addr} {cap cap2 : Nat} {L M : List Nat} {B : Nat}
theorem ret_iv3 {fn : Func} {p q u : Tmp} (h : fn.results = #[.cell p 25, .cell q 25, .tmp u]) (tmps : Array Value) (w : World) (g g2 : Nat) (x y x2 y2 : Value) (hp : tmps.getD p undef = .pointer (some ⟨g, 0, none⟩)) (hq : tmps.getD q undef = .pointer (some ⟨g2, 0, none⟩))
    (hb : blk w g = some (.cells #[x, y] 25 (0, 0))) (hb2 : blk w g2 = some (.cells #[x2, y2] 25 (0, 0))) :
    (results fn tmps).run Tryz.prog w = .ok (.tuple #[.agg #[x, y], .agg #[x2, y2], tmps.getD u undef]) w := by
  have l1 := load_iv w g x y hb
  have l2 := load_iv w g2 x2 y2 hb2
  have hp' : tmps[p]?.getD undef = .pointer (some ⟨g, 0, none⟩) := by simpa using hp
  have hq' : tmps[q]?.getD undef = .pointer (some ⟨g2, 0, none⟩) := by simpa using hq
  simp only [results, h]
  simp [hp', hq', asAddr, l1, l2]
theorem Bx.other {k k2 : Nat} {x y : Value} (h : Bx w k x y) (hne : k ≠ k2) (x' y' : Value) : Bx ((w.setCell ⟨k2, 0, none⟩ x').setCell ⟨k2, 1, none⟩ y') k x y := by
  unfold Bx at *
  rw [blk_set, if_neg hne, blk_set, if_neg hne, h]
theorem Bx.c4 {k k2 : Nat} {x y x2 y2 : Value} (h : Bx w k x y) (h2 : Bx w k2 x2 y2) : w.cell? ⟨k, 0, none⟩ = some x ∧ w.cell? ⟨k, 1, none⟩ = some y ∧ w.cell? ⟨k2, 0, none⟩ = some x2 ∧ w.cell? ⟨k2, 1, none⟩ = some y2 := ⟨h.c0, h.c1, h2.c0, h2.c1⟩
/-- The quotient and the rest of two with signs. -/
def QuoI (w : World) (s : Bool) (n : Nat) (s2 : Bool) (m : Nat) (e : Ending) (w' : World) : Prop :=
  if m = 0 then e = .returned (.tuple #[.agg #[.bool false, .slice none 0 0], .agg #[.bool false, .slice none 0 0], .int .i64 12]) ∧ Fr [] w w'
  else ∃ a c a2 c2, e = .returned (.tuple #[.agg #[.bool (sg (s != s2) (n / m)), .slice a (lims (n / m)).length c], .agg #[.bool (sg s (n % m)), .slice a2 (lims (n % m)).length c2], .int .i64 0]) ∧ In w' a c (lims (n / m)) ∧ In w' a2 c2 (lims (n % m)) ∧ Fr [] w w'
end Go.Proofs.YtjdanblijcdllaaGreatDoor
/- Exact: differences. -/
namespace Go.Proofs.YtjdanblijcdllaaGreatDoor
open Go.ChangeShapes Go.WideShapes Go.RowKit
variable {w w' w2 wr : World} {a b : Option Addr} {cap cap2 : Nat} {L M : List Nat} {B : Nat}
end Go.Proofs.YtjdanblijcdllaaGreatDoor
/- Exact, the reference: differences. -/
namespace Go.Proofs.YtjdanblijcdllaaGreatDoor
open Go.ChangeShapes Go.WideShapes Go.RowKit
variable {w w' w2 wr : World} {a b : Option Addr} {cap cap2 : Nat} {L M : List Nat} {B : Nat}
end Go.Proofs.YtjdanblijcdllaaGreatDoor
/- Exact, the reference: products. -/
namespace Go.Proofs.YtjdanblijcdllaaGreatDoor
open Go.ChangeShapes Go.WideShapes Go.RowKit
variable {w w' w2 wr : World} {a b : Option Addr} {cap cap2 : Nat} {L M : List Nat} {B : Nat}
set_option maxHeartbeats 16000000 in
theorem r2times_c (w : World) (s s2 : Bool) (n m : Nat) (h : In w a cap (lims n)) (h2 : In w b cap2 (lims m)) (hl : (lims n).length ≤ 40000) (hl2 : (lims m).length ≤ 40000) : Calls Tryz.prog 118 #[.agg #[.bool s, .slice a (lims n).length cap], .agg #[.bool s2, .slice b (lims m).length cap2]] w (GivesI w (sg (s != s2) (n * m)) (n * m)) := by
  have H := Lib.hid h
  have H2 := Lib.hid h2
  clear h h2
  have F0 : Hid (Fr [] w (((w.alloc (.cells #[.bool s, .slice a (lims n).length cap] 25)).alloc (.cells #[.bool s2, .slice b (lims m).length cap2] 25)).alloc (.cells #[.bool false, .slice none 0 0] 25))) := Lib.hid ((((Fr.refl [] w).alloc _).alloc _).alloc _)
  have P : Hid (Bx (((w.alloc (.cells #[.bool s, .slice a (lims n).length cap] 25)).alloc (.cells #[.bool s2, .slice b (lims m).length cap2] 25)).alloc (.cells #[.bool false, .slice none 0 0] 25)) (w.heap.size) (.bool s) (.slice a (lims n).length cap)) := Lib.hid ((Bx.new _ _ _).fr (((Fr.refl [] _).alloc _).alloc _))
  have Q : Hid (Bx (((w.alloc (.cells #[.bool s, .slice a (lims n).length cap] 25)).alloc (.cells #[.bool s2, .slice b (lims m).length cap2] 25)).alloc (.cells #[.bool false, .slice none 0 0] 25)) (w.heap.size + 1) (.bool s2) (.slice b (lims m).length cap2)) := Lib.hid (((Bx.new _ _ _).eq (by simp)).fr ((Fr.refl [] _).alloc _))
  have R : Hid (Bx (((w.alloc (.cells #[.bool s, .slice a (lims n).length cap] 25)).alloc (.cells #[.bool s2, .slice b (lims m).length cap2] 25)).alloc (.cells #[.bool false, .slice none 0 0] 25)) (w.heap.size + 2) (.bool false) (.slice none 0 0)) := Lib.hid (((Bx.new _ _ _).eq (by simp)).fr (Fr.refl [] _))
  replace pc0 := P.out.c0
  replace pc1 := P.out.c1
  replace pl := P.out.lt
  replace qc0 := Q.out.c0
  replace qc1 := Q.out.c1
  replace ql := Q.out.lt
  replace rc0 := R.out.c0
  replace rc1 := R.out.c1
  replace rl := R.out.lt
  replace rf0 := R.out.f 0
  replace rf1 := R.out.f 1
  have C1 : Hid (∀ W, Fr [] w W → Calls Tryz.prog 156 #[.slice a (lims n).length cap, .slice b (lims m).length cap2] W (Gives W (lims (n * m)))) := Lib.hid (fun W hW => by
    have := r1times_c W (H.out.keep hW) (H2.out.keep hW) (by omega)
    rwa [val_lims, val_lims] at this)
  have CM : Hid (∀ W a1 c1, In W a1 c1 (lims (n * m)) → Calls Tryz.prog 111 #[.bool (s != s2), .slice a1 (lims (n * m)).length c1] W (GivesI W (sg (s != s2) (n * m)) (n * m))) := Lib.hid (fun W a1 c1 h => made_c W (s != s2) (n * m) h)
  generalize n * m = k at *
  go_enter Tryz.func118, Tryz.ntmps118
  go_wp2_with fail
  go_region_held3 (fun W => W.cell? ⟨w.heap.size, 0, none⟩ = some (.bool s) ∧ W.cell? ⟨w.heap.size, 1, none⟩ = some (.slice a (lims n).length cap) ∧ W.cell? ⟨w.heap.size + 1, 0, none⟩ = some (.bool s2) ∧ W.cell? ⟨w.heap.size + 1, 1, none⟩ = some (.slice b (lims m).length cap2)) (with_reducible first | exact Bx.c4 (P.out.fr (Fr.refl [] _).drew) (Q.out.fr (Fr.refl [] _).drew) | exact Bx.c4 P6.out Q6.out | exact Bx.c4 P5.out Q5.out | exact Bx.c4 (P6.out.other (by omega) _ _) (Q6.out.other (by omega) _ _) | exact Bx.c4 ((P6.out.other (by omega) _ _).other (by omega) _ _) ((Q6.out.other (by omega) _ _).other (by omega) _ _)) (first | (go_at_call 156; refine Calls.mono (C1.out _ F0.out.drew) ?_; rintro e w5 ⟨a5, c5, rfl, N5, G5⟩; have P5 := Lib.hid ((P.out.fr ((Fr.refl [] _).drew)).fr G5); have Q5 := Lib.hid ((Q.out.fr ((Fr.refl [] _).drew)).fr G5); have R5 := Lib.hid ((R.out.fr ((Fr.refl [] _).drew)).fr G5)) | (go_at_call 111; refine Calls.mono (CM.out _ _ _ N5.in) ?_; rintro e w6 ⟨a6, c6, rfl, I6, G6⟩; have P6 := Lib.hid (P5.out.fr G6); have Q6 := Lib.hid (Q5.out.fr G6); have R6 := Lib.hid (R5.out.fr G6); have rr0 := R6.out.c0; have rr1 := R6.out.c1; have rf0 := R6.out.f 0; have rf1 := R6.out.f 1; have rrl := R6.out.lt))
  all_goals
    go_wp2
    refine bodyPost_ret (ret_iv rfl _ _ _ _ _ rfl (R6.out.set _ _)) rfl ?_
    exact ⟨a6, c6, rfl, I6.set2 R6.out _ _, ((F0.out.drew.same G5).same G6).set2 (by omega) _ _⟩
end Go.Proofs.YtjdanblijcdllaaGreatDoor
