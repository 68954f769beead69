/- Exact, the reference: sums. -/
import Derived.Test.YtjdanblijcdllaaGreatDoorExaA
set_option linter.all false
namespace Go.Proofs.YtjdanblijcdllaaGreatDoor
open Go.ChangeShapes Go.WideShapes Go.RowKit
variable {w w' w2 wr : World} {a b : Option Addr} {cap cap2 : Nat} {L M : List Nat} {B : Nat}
set_option maxHeartbeats 2000000 in
theorem r2plus_same (w : World) (s s2 : Bool) (n m : Nat) (h : In w a cap (lims n)) (h2 : In w b cap2 (lims m)) (hl : (lims n).length ≤ 80000) (hl2 : (lims m).length ≤ 80000) (hs : s = s2) : Calls Tryz.prog 97 #[.agg #[.bool s, .slice a (lims n).length cap], .agg #[.bool s2, .slice b (lims m).length cap2]] w (GivesI w (addP s n s2 m).1 (addP s n s2 m).2) := by
  have H := Lib.hid h
  have H2 := Lib.hid h2
  clear h h2
  have F0 : Hid (Fr [] w (((w.alloc (.cells #[.bool s, .slice a (lims n).length cap] 25)).alloc (.cells #[.bool s2, .slice b (lims m).length cap2] 25)).alloc (.cells #[.bool false, .slice none 0 0] 25))) := Lib.hid ((((Fr.refl [] w).alloc _).alloc _).alloc _)
  have P : Hid (Bx (((w.alloc (.cells #[.bool s, .slice a (lims n).length cap] 25)).alloc (.cells #[.bool s2, .slice b (lims m).length cap2] 25)).alloc (.cells #[.bool false, .slice none 0 0] 25)) (w.heap.size) (.bool s) (.slice a (lims n).length cap)) := Lib.hid ((Bx.new _ _ _).fr (((Fr.refl [] _).alloc _).alloc _))
  have Q : Hid (Bx (((w.alloc (.cells #[.bool s, .slice a (lims n).length cap] 25)).alloc (.cells #[.bool s2, .slice b (lims m).length cap2] 25)).alloc (.cells #[.bool false, .slice none 0 0] 25)) (w.heap.size + 1) (.bool s2) (.slice b (lims m).length cap2)) := Lib.hid (((Bx.new _ _ _).eq (by simp)).fr ((Fr.refl [] _).alloc _))
  have R : Hid (Bx (((w.alloc (.cells #[.bool s, .slice a (lims n).length cap] 25)).alloc (.cells #[.bool s2, .slice b (lims m).length cap2] 25)).alloc (.cells #[.bool false, .slice none 0 0] 25)) (w.heap.size + 2) (.bool false) (.slice none 0 0)) := Lib.hid (((Bx.new _ _ _).eq (by simp)).fr (Fr.refl [] _))
  replace pc0 := P.out.c0
  replace pc1 := P.out.c1
  replace pl := P.out.lt
  replace qc0 := Q.out.c0
  replace qc1 := Q.out.c1
  replace ql := Q.out.lt
  replace rc0 := R.out.c0
  replace rc1 := R.out.c1
  replace rl := R.out.lt
  replace rf0 := R.out.f 0
  replace rf1 := R.out.f 1
  subst hs
  have hp : addP s n s m = (sg s (n + m), n + m) := by unfold addP; rw [if_pos rfl]
  have ES : (s == s) = true := beq_self_eq_true s
  have C1 : Hid (∀ W, Fr [] w W → Calls Tryz.prog 113 #[.slice a (lims n).length cap, .slice b (lims m).length cap2] W (Gives W (lims (n + m)))) := Lib.hid (fun W hW => by
    have := r1plus_c W (H.out.keep hW) (H2.out.keep hW) (by omega) (by omega)
    rwa [val_lims, val_lims] at this)
  have D : Hid (∀ W a c, In W a c (lims (n + m)) → Fr [] w W → GivesI w (addP s n s m).1 (addP s n s m).2 (.returned (.agg #[.bool (sg s (n + m)), .slice a (lims (n + m)).length c])) W) := Lib.hid (fun W a c h1 h2 => by rw [hp]; exact ⟨a, c, rfl, h1, h2⟩)
  have CM : Hid (∀ W a1 c1, In W a1 c1 (lims (n + m)) → Calls Tryz.prog 111 #[.bool s, .slice a1 (lims (n + m)).length c1] W (GivesI W (sg s (n + m)) (n + m))) := Lib.hid (fun W a1 c1 h => made_c W s (n + m) h)
  clear hp
  go_enter Tryz.func97, Tryz.ntmps97
  go_wp2_with fail
  go_region_with (first | (go_at_call 113; refine Calls.mono (C1.out _ ?_) ?_; (· (repeat (first | exact Fr.refl _ _ | apply Fr.drew | apply Fr.alloc))); rintro e w5 ⟨a5, c5, rfl, N5, G5⟩; have P5 := Lib.hid ((P.out.fr ((Fr.refl [] _).drew)).fr G5); have Q5 := Lib.hid ((Q.out.fr ((Fr.refl [] _).drew)).fr G5); have R5 := Lib.hid ((R.out.fr ((Fr.refl [] _).drew)).fr G5); have pp0 := P5.out.c0; have pp1 := P5.out.c1; have ppl := P5.out.lt; have qq0 := Q5.out.c0; have qq1 := Q5.out.c1; have qql := Q5.out.lt) | (go_at_call 111; refine Calls.mono (CM.out _ _ _ ?_) ?_; (· exact N5.in); rintro e w6 ⟨a6, c6, rfl, I6, G6⟩; have R6 := Lib.hid (R5.out.fr G6); have rr0 := R6.out.c0; have rr1 := R6.out.c1; have rf0 := R6.out.f 0; have rf1 := R6.out.f 1; have rrl := R6.out.lt))
  all_goals
    go_wp2
    refine bodyPost_ret (ret_iv rfl _ _ _ _ _ rfl (R6.out.set _ _)) rfl ?_
    exact D.out _ _ _ (I6.set2 R6.out _ _) (((F0.out.drew.same G5).same G6).set2 (by omega) _ _)
set_option maxHeartbeats 2000000 in
theorem r2plus_ge (w : World) (s s2 : Bool) (n m : Nat) (h : In w a cap (lims n)) (h2 : In w b cap2 (lims m)) (hl : (lims n).length ≤ 80000) (_ : (lims m).length ≤ 80000) (hs : ¬ s = s2) (hle : m ≤ n) : Calls Tryz.prog 97 #[.agg #[.bool s, .slice a (lims n).length cap], .agg #[.bool s2, .slice b (lims m).length cap2]] w (GivesI w (addP s n s2 m).1 (addP s n s2 m).2) := by
  have H := Lib.hid h
  have H2 := Lib.hid h2
  clear h h2
  have F0 : Hid (Fr [] w (((w.alloc (.cells #[.bool s, .slice a (lims n).length cap] 25)).alloc (.cells #[.bool s2, .slice b (lims m).length cap2] 25)).alloc (.cells #[.bool false, .slice none 0 0] 25))) := Lib.hid ((((Fr.refl [] w).alloc _).alloc _).alloc _)
  have P : Hid (Bx (((w.alloc (.cells #[.bool s, .slice a (lims n).length cap] 25)).alloc (.cells #[.bool s2, .slice b (lims m).length cap2] 25)).alloc (.cells #[.bool false, .slice none 0 0] 25)) (w.heap.size) (.bool s) (.slice a (lims n).length cap)) := Lib.hid ((Bx.new _ _ _).fr (((Fr.refl [] _).alloc _).alloc _))
  have Q : Hid (Bx (((w.alloc (.cells #[.bool s, .slice a (lims n).length cap] 25)).alloc (.cells #[.bool s2, .slice b (lims m).length cap2] 25)).alloc (.cells #[.bool false, .slice none 0 0] 25)) (w.heap.size + 1) (.bool s2) (.slice b (lims m).length cap2)) := Lib.hid (((Bx.new _ _ _).eq (by simp)).fr ((Fr.refl [] _).alloc _))
  have R : Hid (Bx (((w.alloc (.cells #[.bool s, .slice a (lims n).length cap] 25)).alloc (.cells #[.bool s2, .slice b (lims m).length cap2] 25)).alloc (.cells #[.bool false, .slice none 0 0] 25)) (w.heap.size + 2) (.bool false) (.slice none 0 0)) := Lib.hid (((Bx.new _ _ _).eq (by simp)).fr (Fr.refl [] _))
  replace pc0 := P.out.c0
  replace pc1 := P.out.c1
  replace pl := P.out.lt
  replace qc0 := Q.out.c0
  replace qc1 := Q.out.c1
  replace ql := Q.out.lt
  replace rc0 := R.out.c0
  replace rc1 := R.out.c1
  replace rl := R.out.lt
  replace rf0 := R.out.f 0
  replace rf1 := R.out.f 1
  have ES : (s == s2) = false := by simpa using hs
  have CC : Hid (∀ W, Fr [] w W → Calls Tryz.prog 147 #[.slice a (lims n).length cap, .slice b (lims m).length cap2] W fun e w' => e = .returned (.int .i64 (cmpN n m)) ∧ W = w') := Lib.hid (fun W hW => by
    have := r1cmp_c W (H.out.keep hW) (H2.out.keep hW)
    simpa only [val_lims] using this)
  have hp : addP s n s2 m = (sg s (n - m), n - m) := by unfold addP; rw [if_neg hs, if_pos hle]
  have C1 : Hid (∀ W, Fr [] w W → Calls Tryz.prog 148 #[.slice a (lims n).length cap, .slice b (lims m).length cap2] W (Gives W (lims (n - m)))) := Lib.hid (fun W hW => by
    have := r1minus_c W (H.out.keep hW) (H2.out.keep hW) (by omega) (by rw [val_lims, val_lims]; exact hle)
    rwa [val_lims, val_lims] at this)
  have D : Hid (∀ W a c, In W a c (lims (n - m)) → Fr [] w W → GivesI w (addP s n s2 m).1 (addP s n s2 m).2 (.returned (.agg #[.bool (sg s (n - m)), .slice a (lims (n - m)).length c])) W) := Lib.hid (fun W a c h1 h2 => by rw [hp]; exact ⟨a, c, rfl, h1, h2⟩)
  have CM : Hid (∀ W a1 c1, In W a1 c1 (lims (n - m)) → Calls Tryz.prog 111 #[.bool s, .slice a1 (lims (n - m)).length c1] W (GivesI W (sg s (n - m)) (n - m))) := Lib.hid (fun W a1 c1 h => made_c W s (n - m) h)
  obtain ⟨c, hcd⟩ : ∃ c, c = cmpN n m := ⟨_, rfl⟩
  have hc0 : (0 : Int) ≤ c := by rw [hcd]; unfold cmpN; rw [if_neg (by omega)]; split <;> decide
  simp only [← hcd] at CC
  clear hp hle hs hcd
  go_enter Tryz.func97, Tryz.ntmps97
  go_wp2_with fail
  refine (CC.out _ F0.out).mono ?_
  rintro e w1 ⟨rfl, rfl⟩
  go_wp2_with fail
  go_region_with (first | (go_at_call 148; refine Calls.mono (C1.out _ ?_) ?_; (· (repeat (first | exact Fr.refl _ _ | apply Fr.drew | apply Fr.alloc))); rintro e w5 ⟨a5, c5, rfl, N5, G5⟩; have P5 := Lib.hid ((P.out.fr ((Fr.refl [] _).drew)).fr G5); have Q5 := Lib.hid ((Q.out.fr ((Fr.refl [] _).drew)).fr G5); have R5 := Lib.hid ((R.out.fr ((Fr.refl [] _).drew)).fr G5); have pp0 := P5.out.c0; have pp1 := P5.out.c1; have ppl := P5.out.lt; have qq0 := Q5.out.c0; have qq1 := Q5.out.c1; have qql := Q5.out.lt) | (go_at_call 111; refine Calls.mono (CM.out _ _ _ ?_) ?_; (· exact N5.in); rintro e w6 ⟨a6, c6, rfl, I6, G6⟩; have R6 := Lib.hid (R5.out.fr G6); have rr0 := R6.out.c0; have rr1 := R6.out.c1; have rf0 := R6.out.f 0; have rf1 := R6.out.f 1; have rrl := R6.out.lt))
  all_goals
    go_wp2
    refine bodyPost_ret (ret_iv rfl _ _ _ _ _ rfl (R6.out.set _ _)) rfl ?_
    exact D.out _ _ _ (I6.set2 R6.out _ _) (((F0.out.drew.same G5).same G6).set2 (by omega) _ _)
set_option maxHeartbeats 2000000 in
theorem r2plus_lt (w : World) (s s2 : Bool) (n m : Nat) (h : In w a cap (lims n)) (h2 : In w b cap2 (lims m)) (_ : (lims n).length ≤ 80000) (hl2 : (lims m).length ≤ 80000) (hs : ¬ s = s2) (hle : ¬ m ≤ n) : Calls Tryz.prog 97 #[.agg #[.bool s, .slice a (lims n).length cap], .agg #[.bool s2, .slice b (lims m).length cap2]] w (GivesI w (addP s n s2 m).1 (addP s n s2 m).2) := by
  have H := Lib.hid h
  have H2 := Lib.hid h2
  clear h h2
  have F0 : Hid (Fr [] w (((w.alloc (.cells #[.bool s, .slice a (lims n).length cap] 25)).alloc (.cells #[.bool s2, .slice b (lims m).length cap2] 25)).alloc (.cells #[.bool false, .slice none 0 0] 25))) := Lib.hid ((((Fr.refl [] w).alloc _).alloc _).alloc _)
  have P : Hid (Bx (((w.alloc (.cells #[.bool s, .slice a (lims n).length cap] 25)).alloc (.cells #[.bool s2, .slice b (lims m).length cap2] 25)).alloc (.cells #[.bool false, .slice none 0 0] 25)) (w.heap.size) (.bool s) (.slice a (lims n).length cap)) := Lib.hid ((Bx.new _ _ _).fr (((Fr.refl [] _).alloc _).alloc _))
  have Q : Hid (Bx (((w.alloc (.cells #[.bool s, .slice a (lims n).length cap] 25)).alloc (.cells #[.bool s2, .slice b (lims m).length cap2] 25)).alloc (.cells #[.bool false, .slice none 0 0] 25)) (w.heap.size + 1) (.bool s2) (.slice b (lims m).length cap2)) := Lib.hid (((Bx.new _ _ _).eq (by simp)).fr ((Fr.refl [] _).alloc _))
  have R : Hid (Bx (((w.alloc (.cells #[.bool s, .slice a (lims n).length cap] 25)).alloc (.cells #[.bool s2, .slice b (lims m).length cap2] 25)).alloc (.cells #[.bool false, .slice none 0 0] 25)) (w.heap.size + 2) (.bool false) (.slice none 0 0)) := Lib.hid (((Bx.new _ _ _).eq (by simp)).fr (Fr.refl [] _))
  replace pc0 := P.out.c0
  replace pc1 := P.out.c1
  replace pl := P.out.lt
  replace qc0 := Q.out.c0
  replace qc1 := Q.out.c1
  replace ql := Q.out.lt
  replace rc0 := R.out.c0
  replace rc1 := R.out.c1
  replace rl := R.out.lt
  replace rf0 := R.out.f 0
  replace rf1 := R.out.f 1
  have ES : (s == s2) = false := by simpa using hs
  have CC : Hid (∀ W, Fr [] w W → Calls Tryz.prog 147 #[.slice a (lims n).length cap, .slice b (lims m).length cap2] W fun e w' => e = .returned (.int .i64 (cmpN n m)) ∧ W = w') := Lib.hid (fun W hW => by
    have := r1cmp_c W (H.out.keep hW) (H2.out.keep hW)
    simpa only [val_lims] using this)
  have hp : addP s n s2 m = (sg s2 (m - n), m - n) := by unfold addP; rw [if_neg hs, if_neg hle]
  have C1 : Hid (∀ W, Fr [] w W → Calls Tryz.prog 148 #[.slice b (lims m).length cap2, .slice a (lims n).length cap] W (Gives W (lims (m - n)))) := Lib.hid (fun W hW => by
    have := r1minus_c W (H2.out.keep hW) (H.out.keep hW) (by omega) (by rw [val_lims, val_lims]; omega)
    rwa [val_lims, val_lims] at this)
  have D : Hid (∀ W a c, In W a c (lims (m - n)) → Fr [] w W → GivesI w (addP s n s2 m).1 (addP s n s2 m).2 (.returned (.agg #[.bool (sg s2 (m - n)), .slice a (lims (m - n)).length c])) W) := Lib.hid (fun W a c h1 h2 => by rw [hp]; exact ⟨a, c, rfl, h1, h2⟩)
  have CM : Hid (∀ W a1 c1, In W a1 c1 (lims (m - n)) → Calls Tryz.prog 111 #[.bool s2, .slice a1 (lims (m - n)).length c1] W (GivesI W (sg s2 (m - n)) (m - n))) := Lib.hid (fun W a1 c1 h => made_c W s2 (m - n) h)
  obtain ⟨c, hcd⟩ : ∃ c, c = cmpN n m := ⟨_, rfl⟩
  have hc0 : ¬ (0 : Int) ≤ c := by rw [hcd]; unfold cmpN; rw [if_pos (by omega)]; decide
  simp only [← hcd] at CC
  clear hp hle hs hcd
  go_enter Tryz.func97, Tryz.ntmps97
  go_wp2_with fail
  refine (CC.out _ F0.out).mono ?_
  rintro e w1 ⟨rfl, rfl⟩
  go_wp2_with fail
  go_region_with (first | (go_at_call 148; refine Calls.mono (C1.out _ ?_) ?_; (· (repeat (first | exact Fr.refl _ _ | apply Fr.drew | apply Fr.alloc))); rintro e w5 ⟨a5, c5, rfl, N5, G5⟩; have P5 := Lib.hid ((P.out.fr ((Fr.refl [] _).drew)).fr G5); have Q5 := Lib.hid ((Q.out.fr ((Fr.refl [] _).drew)).fr G5); have R5 := Lib.hid ((R.out.fr ((Fr.refl [] _).drew)).fr G5); have pp0 := P5.out.c0; have pp1 := P5.out.c1; have ppl := P5.out.lt; have qq0 := Q5.out.c0; have qq1 := Q5.out.c1; have qql := Q5.out.lt) | (go_at_call 111; refine Calls.mono (CM.out _ _ _ ?_) ?_; (· exact N5.in); rintro e w6 ⟨a6, c6, rfl, I6, G6⟩; have R6 := Lib.hid (R5.out.fr G6); have rr0 := R6.out.c0; have rr1 := R6.out.c1; have rf0 := R6.out.f 0; have rf1 := R6.out.f 1; have rrl := R6.out.lt))
  all_goals
    go_wp2
    refine bodyPost_ret (ret_iv rfl _ _ _ _ _ rfl (R6.out.set _ _)) rfl ?_
    exact D.out _ _ _ (I6.set2 R6.out _ _) (((F0.out.drew.same G5).same G6).set2 (by omega) _ _)
theorem r2plus_c (w : World) (s s2 : Bool) (n m : Nat) (h : In w a cap (lims n)) (h2 : In w b cap2 (lims m)) (hl : (lims n).length ≤ 80000) (hl2 : (lims m).length ≤ 80000) : Calls Tryz.prog 97 #[.agg #[.bool s, .slice a (lims n).length cap], .agg #[.bool s2, .slice b (lims m).length cap2]] w (GivesI w (addP s n s2 m).1 (addP s n s2 m).2) := by
  by_cases hs : s = s2
  · exact r2plus_same w s s2 n m h h2 hl hl2 hs
  · by_cases hle : m ≤ n
    · exact r2plus_ge w s s2 n m h h2 hl hl2 hs hle
    · exact r2plus_lt w s s2 n m h h2 hl hl2 hs hle
end Go.Proofs.YtjdanblijcdllaaGreatDoor
