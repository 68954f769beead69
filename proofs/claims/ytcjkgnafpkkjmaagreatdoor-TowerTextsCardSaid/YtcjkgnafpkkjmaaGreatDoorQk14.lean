/- The texts and numbers of numbers: a part of the walk. No condition. -/
import Derived.Test.YtcjkgnafpkkjmaaGreatDoorQk12
set_option linter.all false
section
namespace Go.Proofs.YtcjkgnafpkkjmaaGreatDoor
open Go.ChangeShapes Go.WideShapes Go.RowKit
variable {w w' w2 wr : World} {a b : Option Addr} {cap cap2 : Nat} {L M : List Nat} {B : Nat}
end Go.Proofs.YtcjkgnafpkkjmaaGreatDoor
end
section
namespace Go.Proofs.YtcjkgnafpkkjmaaGreatDoor
open Go.ChangeShapes Go.WideShapes Go.RowKit
variable {w w' w2 wr : World} {a b : Option Addr} {cap cap2 : Nat} {L M : List Nat} {B : Nat}
end Go.Proofs.YtcjkgnafpkkjmaaGreatDoor
namespace Go.Proofs.YtcjkgnafpkkjmaaGreatDoor
open Go.ChangeShapes Go.WideShapes Go.RowKit
variable {w w' w2 wr : World} {a b : Option Addr} {cap cap2 : Nat} {L M : List Nat} {B : Nat}
theorem ret_iv3 {fn : Func} {p q u : Tmp} (h : fn.results = #[.cell p 36, .cell q 36, .tmp u]) (tmps : Array Value) (w : World) (g g2 : Nat) (x y x2 y2 : Value) (hp : tmps.getD p undef = .pointer (some ⟨g, 0, none⟩)) (hq : tmps.getD q undef = .pointer (some ⟨g2, 0, none⟩))
    (hb : blk w g = some (.cells #[x, y] 36 (0, 0))) (hb2 : blk w g2 = some (.cells #[x2, y2] 36 (0, 0))) :
    (results fn tmps).run Tryz.prog w = .ok (.tuple #[.agg #[x, y], .agg #[x2, y2], tmps.getD u undef]) w := by
  have l1 := load_iv w g x y hb
  have l2 := load_iv w g2 x2 y2 hb2
  have hp' : tmps[p]?.getD undef = .pointer (some ⟨g, 0, none⟩) := by simpa using hp
  have hq' : tmps[q]?.getD undef = .pointer (some ⟨g2, 0, none⟩) := by simpa using hq
  simp only [results, h]
  simp [hp', hq', asAddr, l1, l2]
theorem Bx.other {k k2 : Nat} {x y : Value} (h : Bx w k x y) (hne : k ≠ k2) (x' y' : Value) : Bx ((w.setCell ⟨k2, 0, none⟩ x').setCell ⟨k2, 1, none⟩ y') k x y := by
  unfold Bx at *
  rw [blk_set, if_neg hne, blk_set, if_neg hne, h]
theorem Bx.c4 {k k2 : Nat} {x y x2 y2 : Value} (h : Bx w k x y) (h2 : Bx w k2 x2 y2) : w.cell? ⟨k, 0, none⟩ = some x ∧ w.cell? ⟨k, 1, none⟩ = some y ∧ w.cell? ⟨k2, 0, none⟩ = some x2 ∧ w.cell? ⟨k2, 1, none⟩ = some y2 := ⟨h.c0, h.c1, h2.c0, h2.c1⟩
def QuoI (w : World) (s : Bool) (n : Nat) (s2 : Bool) (m : Nat) (e : Ending) (w' : World) : Prop :=
  if m = 0 then e = .returned (.tuple #[.agg #[.bool false, .slice none 0 0], .agg #[.bool false, .slice none 0 0], .int .i64 12]) ∧ Fr [] w w'
  else ∃ a c a2 c2, e = .returned (.tuple #[.agg #[.bool (sg (s != s2) (n / m)), .slice a (lims (n / m)).length c], .agg #[.bool (sg s (n % m)), .slice a2 (lims (n % m)).length c2], .int .i64 0]) ∧ In w' a c (lims (n / m)) ∧ In w' a2 c2 (lims (n % m)) ∧ Fr [] w w'
end Go.Proofs.YtcjkgnafpkkjmaaGreatDoor
namespace Go.Proofs.YtcjkgnafpkkjmaaGreatDoor
open Go.ChangeShapes Go.WideShapes Go.RowKit
variable {w w' w2 wr : World} {a b : Option Addr} {cap cap2 : Nat} {L M : List Nat} {B : Nat}
end Go.Proofs.YtcjkgnafpkkjmaaGreatDoor
namespace Go.Proofs.YtcjkgnafpkkjmaaGreatDoor
open Go.ChangeShapes Go.WideShapes Go.RowKit
variable {w w' w2 wr : World} {a b : Option Addr} {cap cap2 : Nat} {L M : List Nat} {B : Nat}
end Go.Proofs.YtcjkgnafpkkjmaaGreatDoor
namespace Go.Proofs.YtcjkgnafpkkjmaaGreatDoor
open Go.ChangeShapes Go.WideShapes Go.RowKit
variable {w w' w2 wr : World} {a b : Option Addr} {cap cap2 : Nat} {L M : List Nat} {B : Nat}
end Go.Proofs.YtcjkgnafpkkjmaaGreatDoor
end
section
namespace Go.Proofs.YtcjkgnafpkkjmaaGreatDoor
open Go.ChangeShapes Go.WideShapes Go.RowKit
variable {w w' w2 wr : World} {a b : Option Addr} {cap cap2 : Nat} {L M : List Nat} {B : Nat}
end Go.Proofs.YtcjkgnafpkkjmaaGreatDoor
namespace Go.Proofs.YtcjkgnafpkkjmaaGreatDoor
open Go.ChangeShapes Go.WideShapes Go.RowKit
variable {w w' w2 wr : World} {a b : Option Addr} {cap cap2 : Nat} {L M : List Nat} {B : Nat}
set_option maxRecDepth 100000 in
set_option maxHeartbeats 4000000 in
theorem equo_c (w : World) (s s2 : Bool) (n m : Nat) (h : In w a cap (lims n)) (h2 : In w b cap2 (lims m)) (hn : fits n = true) (hm : fits m = true) : Calls Tryz.prog 75 #[.agg #[.bool s, .slice a (lims n).length cap], .agg #[.bool s2, .slice b (lims m).length cap2]] w (QuoI w s n s2 m) := by
  have H := Lib.hid h
  have H2 := Lib.hid h2
  clear h h2
  have F0 : Hid (Fr [] w ((((w.alloc (.cells #[.bool s, .slice a (lims n).length cap] 36)).alloc (.cells #[.bool s2, .slice b (lims m).length cap2] 36)).alloc (.cells #[.bool false, .slice none 0 0] 36)).alloc (.cells #[.bool false, .slice none 0 0] 36))) := Lib.hid (((((Fr.refl [] w).alloc _).alloc _).alloc _).alloc _)
  have P : Hid (Bx ((((w.alloc (.cells #[.bool s, .slice a (lims n).length cap] 36)).alloc (.cells #[.bool s2, .slice b (lims m).length cap2] 36)).alloc (.cells #[.bool false, .slice none 0 0] 36)).alloc (.cells #[.bool false, .slice none 0 0] 36)) (w.heap.size) (.bool s) (.slice a (lims n).length cap)) := Lib.hid ((Bx.new _ _ _).fr ((((Fr.refl [] _).alloc _).alloc _).alloc _))
  have Q : Hid (Bx ((((w.alloc (.cells #[.bool s, .slice a (lims n).length cap] 36)).alloc (.cells #[.bool s2, .slice b (lims m).length cap2] 36)).alloc (.cells #[.bool false, .slice none 0 0] 36)).alloc (.cells #[.bool false, .slice none 0 0] 36)) (w.heap.size + 1) (.bool s2) (.slice b (lims m).length cap2)) := Lib.hid (((Bx.new _ _ _).eq (by simp)).fr (((Fr.refl [] _).alloc _).alloc _))
  have R : Hid (Bx ((((w.alloc (.cells #[.bool s, .slice a (lims n).length cap] 36)).alloc (.cells #[.bool s2, .slice b (lims m).length cap2] 36)).alloc (.cells #[.bool false, .slice none 0 0] 36)).alloc (.cells #[.bool false, .slice none 0 0] 36)) (w.heap.size + 2) (.bool false) (.slice none 0 0)) := Lib.hid (((Bx.new _ _ _).eq (by simp)).fr ((Fr.refl [] _).alloc _))
  have T : Hid (Bx ((((w.alloc (.cells #[.bool s, .slice a (lims n).length cap] 36)).alloc (.cells #[.bool s2, .slice b (lims m).length cap2] 36)).alloc (.cells #[.bool false, .slice none 0 0] 36)).alloc (.cells #[.bool false, .slice none 0 0] 36)) (w.heap.size + 3) (.bool false) (.slice none 0 0)) := Lib.hid (((Bx.new _ _ _).eq (by simp)).fr (Fr.refl [] _))
  replace pc0 := P.out.c0
  replace pc1 := P.out.c1
  replace pl := P.out.lt
  replace qc0 := Q.out.c0
  replace qc1 := Q.out.c1
  replace ql := Q.out.lt
  replace rc0 := R.out.c0
  replace rc1 := R.out.c1
  replace rl := R.out.lt
  replace rf0 := R.out.f 0
  replace rf1 := R.out.f 1
  replace tc0 := T.out.c0
  replace tc1 := T.out.c1
  replace tl := T.out.lt
  replace tf0 := T.out.f 0
  replace tf1 := T.out.f 1
  have CD := Lib.hid (ldiv_c _ (H.out.keep F0.out) (H2.out.keep F0.out))
  rw [val_lims, val_lims] at CD
  by_cases hm0 : m = 0
  · have D : Hid (∀ W, Fr [] w W → QuoI w s n s2 m (.returned (.tuple #[.agg #[.bool false, .slice none 0 0], .agg #[.bool false, .slice none 0 0], .int .i64 12])) W) := Lib.hid (fun W h => by unfold QuoI; rw [if_pos hm0]; exact ⟨rfl, h⟩)
    have RES : Hid (∀ W e w1, DivR W n m e w1 → e = .returned (.tuple #[.slice none 0 0, .slice none 0 0, .int .i64 12]) ∧ Fr [] W w1) := Lib.hid (fun W e w1 hr => by
      unfold DivR at hr; rw [hn, hm, if_neg (by simp), if_pos hm0] at hr; exact hr)
    clear hm0 hn hm
    go_enter Tryz.func75, Tryz.ntmps75
    go_wp2_with fail
    refine CD.out.mono ?_
    intro e w1 hr
    obtain ⟨rfl, F1⟩ := RES.out _ _ _ hr
    replace P := Lib.hid (P.out.fr F1)
    replace pc0 := P.out.c0
    replace pc1 := P.out.c1
    replace pl := P.out.lt
    replace Q := Lib.hid (Q.out.fr F1)
    replace qc0 := Q.out.c0
    replace qc1 := Q.out.c1
    replace ql := Q.out.lt
    replace R := Lib.hid (R.out.fr F1)
    replace rc0 := R.out.c0
    replace rc1 := R.out.c1
    replace rl := R.out.lt
    replace rf0 := R.out.f 0
    replace rf1 := R.out.f 1
    replace T := Lib.hid (T.out.fr F1)
    replace tc0 := T.out.c0
    replace tc1 := T.out.c1
    replace tl := T.out.lt
    replace tf0 := T.out.f 0
    replace tf1 := T.out.f 1
    have F1 := Lib.hid (F0.out.same F1)
    clear hr CD
    go_wp2_with fail
    have U2 := Lib.hid (T.out.other (k2 := w.heap.size + 2) (by omega) (.bool false) (.slice none 0 0))
    refine bodyPost_ret (ret_iv3 rfl _ _ _ _ _ _ _ _ rfl rfl ((R.out.set _ _).other (by omega) _ _) (U2.out.set _ _)) rfl ?_
    exact D.out _ ((F1.out.set2 (by omega) _ _).set2 (by omega) _ _)
  · have D : Hid (∀ W a c a2 c2, In W a c (lims (n / m)) → In W a2 c2 (lims (n % m)) → Fr [] w W → QuoI w s n s2 m (.returned (.tuple #[.agg #[.bool (sg (s != s2) (n / m)), .slice a (lims (n / m)).length c], .agg #[.bool (sg s (n % m)), .slice a2 (lims (n % m)).length c2], .int .i64 0])) W) := Lib.hid (fun W a c a2 c2 h1 h2 h3 => by
      unfold QuoI; rw [if_neg hm0]; exact ⟨a, c, a2, c2, rfl, h1, h2, h3⟩)
    have RES : Hid (∀ W e w1, DivR W n m e w1 → ∃ a c a2 c2, e = .returned (.tuple #[.slice a (lims (n / m)).length c, .slice a2 (lims (n % m)).length c2, .int .i64 0]) ∧ In w1 a c (lims (n / m)) ∧ In w1 a2 c2 (lims (n % m)) ∧ Fr [] W w1) := Lib.hid (fun W e w1 hr => by
      unfold DivR at hr; rw [hn, hm, if_neg (by simp), if_neg hm0] at hr
      obtain ⟨a1, c1, a2, c2, h1, h2, h3, h4⟩ := hr
      exact ⟨a1, c1, a2, c2, h1, h2.in, h3.in, h4⟩)
    have SQ : Hid (∀ W a c, In W a c (lims (n / m)) → Calls Tryz.prog 83 #[.bool (s != s2), .slice a (lims (n / m)).length c] W (GivesI W (sg (s != s2) (n / m)) (n / m))) := Lib.hid (fun W a c h => signed_c W (s != s2) (n / m) h)
    have SR : Hid (∀ W a c, In W a c (lims (n % m)) → Calls Tryz.prog 83 #[.bool s, .slice a (lims (n % m)).length c] W (GivesI W (sg s (n % m)) (n % m))) := Lib.hid (fun W a c h => signed_c W s (n % m) h)
    generalize sg (s != s2) (n / m) = sq1 at *
    generalize sg s (n % m) = sr1 at *
    generalize n / m = q at *
    generalize n % m = r at *
    clear hm0 hn hm
    go_enter Tryz.func75, Tryz.ntmps75
    go_wp2_with fail
    refine CD.out.mono ?_
    intro e w1 hr
    obtain ⟨a3, c3, a4, c4, rfl, J3, J4, F1⟩ := RES.out _ _ _ hr
    have CQ : Hid (∀ W, Fr [] w1 W → Calls Tryz.prog 83 #[.bool (s != s2), .slice a3 (lims q).length c3] W (GivesI W sq1 q)) := Lib.hid (fun W hW => SQ.out W a3 c3 (J3.keep hW))
    have CR : Hid (∀ W, Fr [] w1 W → Calls Tryz.prog 83 #[.bool s, .slice a4 (lims r).length c4] W (GivesI W sr1 r)) := Lib.hid (fun W hW => SR.out W a4 c4 (J4.keep hW))
    replace P := Lib.hid (P.out.fr F1)
    replace pc0 := P.out.c0
    replace pc1 := P.out.c1
    replace pl := P.out.lt
    replace Q := Lib.hid (Q.out.fr F1)
    replace qc0 := Q.out.c0
    replace qc1 := Q.out.c1
    replace ql := Q.out.lt
    replace R := Lib.hid (R.out.fr F1)
    replace rc0 := R.out.c0
    replace rc1 := R.out.c1
    replace rl := R.out.lt
    replace rf0 := R.out.f 0
    replace rf1 := R.out.f 1
    replace T := Lib.hid (T.out.fr F1)
    replace tc0 := T.out.c0
    replace tc1 := T.out.c1
    replace tl := T.out.lt
    replace tf0 := T.out.f 0
    replace tf1 := T.out.f 1
    have F1 := Lib.hid (F0.out.same F1)
    clear hr CD J3 J4 RES SQ SR
    go_wp2_with fail
    go_region_held3 (fun W => W.cell? ⟨w.heap.size, 0, none⟩ = some (.bool s) ∧ W.cell? ⟨w.heap.size, 1, none⟩ = some (.slice a (lims n).length cap) ∧ W.cell? ⟨w.heap.size + 1, 0, none⟩ = some (.bool s2) ∧ W.cell? ⟨w.heap.size + 1, 1, none⟩ = some (.slice b (lims m).length cap2)) (with_reducible first | exact Bx.c4 (P.out.fr (Fr.refl [] _).drew) (Q.out.fr (Fr.refl [] _).drew) | exact Bx.c4 P6.out Q6.out | exact Bx.c4 P5.out Q5.out | exact Bx.c4 (P6.out.other (by omega) _ _) (Q6.out.other (by omega) _ _) | exact Bx.c4 ((P6.out.other (by omega) _ _).other (by omega) _ _) ((Q6.out.other (by omega) _ _).other (by omega) _ _)) (first | (go_at_call_of 83 a3; refine Calls.mono (CQ.out _ (Fr.refl [] _).drew) ?_; rintro e w5 ⟨a5, c5, rfl, I5, G5⟩; have K5 := Lib.hid ((Fr.refl [] w1).drew.same G5); have P5 := Lib.hid (P.out.fr K5.out); have Q5 := Lib.hid (Q.out.fr K5.out); have R5 := Lib.hid (R.out.fr K5.out); have T5 := Lib.hid (T.out.fr K5.out)) | (go_at_call_of 83 a4; refine Calls.mono (CR.out _ K5.out) ?_; rintro e w6 ⟨a6, c6, rfl, I6, G6⟩; have P6 := Lib.hid (P5.out.fr G6); have Q6 := Lib.hid (Q5.out.fr G6); have R6 := Lib.hid (R5.out.fr G6); have T6 := Lib.hid (T5.out.fr G6); have I5' := Lib.hid (I5.keep G6); have K6 := Lib.hid (K5.out.same G6); have rr0 := R6.out.c0; have rr1 := R6.out.c1; have rrl := R6.out.lt; have rrf0 := R6.out.f 0; have rrf1 := R6.out.f 1; have tt0 := T6.out.c0; have tt1 := T6.out.c1; have ttl := T6.out.lt; have ttf0 := T6.out.f 0; have ttf1 := T6.out.f 1))
    all_goals
      go_wp2
      have U1 := Lib.hid (R6.out.set (.bool sq1) (.slice a5 (lims q).length c5))
      have U2 := Lib.hid (T6.out.other (k2 := w.heap.size + 2) (by omega) (.bool sq1) (.slice a5 (lims q).length c5))
      refine bodyPost_ret (ret_iv3 rfl _ _ _ _ _ _ _ _ rfl rfl (U1.out.other (by omega) _ _) (U2.out.set _ _)) rfl ?_
      exact D.out _ _ _ _ _ ((I5'.out.set2 R6.out _ _).set2 U2.out _ _) ((I6.set2 R6.out _ _).set2 U2.out _ _) (((F1.out.same K6.out).set2 (by omega) _ _).set2 (by omega) _ _)
end Go.Proofs.YtcjkgnafpkkjmaaGreatDoor
namespace Go.Proofs.YtcjkgnafpkkjmaaGreatDoor
open Go.ChangeShapes Go.WideShapes Go.RowKit
variable {w w' w2 wr : World} {a b : Option Addr} {cap cap2 : Nat} {L M : List Nat} {B : Nat}
end Go.Proofs.YtcjkgnafpkkjmaaGreatDoor
namespace Go.Proofs.YtcjkgnafpkkjmaaGreatDoor
open Go.ChangeShapes Go.WideShapes Go.RowKit
variable {w w' w2 wr : World} {a b : Option Addr} {cap cap2 : Nat} {L M : List Nat} {B : Nat}
end Go.Proofs.YtcjkgnafpkkjmaaGreatDoor
end
