import Derived.Test.YtjdanblijcdllaaGreatDoorExaF
/- Exact, the reference: which is less. -/
set_option linter.all false
namespace Go.Proofs.YtjdanblijcdllaaGreatDoor
open Go.ChangeShapes Go.WideShapes Go.RowKit
variable {w w' w2 wr : World} {a b : Option Addr} {cap cap2 : Nat} {L M : List Nat} {B : Nat}
/-- The sign of a difference. -/
def sgnP (s : Bool) (n : Nat) : Int := if n = 0 then 0 else if s = true then -1 else 1
theorem addP_len (s s2 : Bool) (n m : Nat) : (addP s n s2 m).2 ≤ n + m := by unfold addP; split; exact Nat.le_refl _; split <;> simp <;> omega
set_option maxHeartbeats 2000000 in
theorem r2cmp_c (w : World) (s s2 : Bool) (n m : Nat) (h : In w a cap (lims n)) (h2 : In w b cap2 (lims m)) (hl : (lims n).length ≤ 70000) (hl2 : (lims m).length ≤ 70000) : Calls Tryz.prog 44 #[.agg #[.bool s, .slice a (lims n).length cap], .agg #[.bool s2, .slice b (lims m).length cap2]] w fun e w' => e = .returned (.int .i64 (sgnP (addP s n (sg (!s2) m) m).1 (addP s n (sg (!s2) m) m).2)) ∧ Fr [] w w' := by
  have H := Lib.hid h
  have H2 := Lib.hid h2
  clear h h2
  have F0 : Hid (Fr [] w ((w.alloc (.cells #[.bool s, .slice a (lims n).length cap] 25)).alloc (.cells #[.bool s2, .slice b (lims m).length cap2] 25))) := Lib.hid (((Fr.refl [] w).alloc _).alloc _)
  have P : Hid (Bx ((w.alloc (.cells #[.bool s, .slice a (lims n).length cap] 25)).alloc (.cells #[.bool s2, .slice b (lims m).length cap2] 25)) (w.heap.size) (.bool s) (.slice a (lims n).length cap)) := Lib.hid ((Bx.new _ _ _).fr ((Fr.refl [] _).alloc _))
  have Q : Hid (Bx ((w.alloc (.cells #[.bool s, .slice a (lims n).length cap] 25)).alloc (.cells #[.bool s2, .slice b (lims m).length cap2] 25)) (w.heap.size + 1) (.bool s2) (.slice b (lims m).length cap2)) := Lib.hid (((Bx.new _ _ _).eq (by simp)).fr (Fr.refl [] _))
  replace pc0 := P.out.c0
  replace pc1 := P.out.c1
  replace pl := P.out.lt
  replace qc0 := Q.out.c0
  replace qc1 := Q.out.c1
  replace ql := Q.out.lt
  have C1 : Hid (∀ W, Fr [] w W → Calls Tryz.prog 98 #[.agg #[.bool s2, .slice b (lims m).length cap2]] W (GivesI W (sg (!s2) m) m)) := Lib.hid (fun W hW => r2neg_c W s2 m (H2.out.keep hW))
  have C2 : Hid (∀ W a1 c1, In W a cap (lims n) → In W a1 c1 (lims m) → Calls Tryz.prog 97 #[.agg #[.bool s, .slice a (lims n).length cap], .agg #[.bool (sg (!s2) m), .slice a1 (lims m).length c1]] W (GivesI W (addP s n (sg (!s2) m) m).1 (addP s n (sg (!s2) m) m).2)) := Lib.hid (fun W a1 c1 h1 h2 => r2plus_c W s (sg (!s2) m) n m h1 h2 (by omega) (by omega))
  generalize (addP s n (sg (!s2) m) m).1 = sp at *
  generalize (addP s n (sg (!s2) m) m).2 = kp at *
  generalize sg (!s2) m = s3 at *
  go_enter Tryz.func44, Tryz.ntmps44
  go_wp2_with fail
  go_region_with (first | (go_at_call 98; refine Calls.mono (C1.out _ ?_) ?_; (· (repeat (first | exact Fr.refl _ _ | apply Fr.drew | apply Fr.alloc))); rintro e w5 ⟨a5, c5, rfl, I5, G5⟩; have P5 := Lib.hid (P.out.fr (Fr.same (by repeat (first | exact Fr.refl _ _ | apply Fr.drew | apply Fr.alloc)) G5)); have pp0 := P5.out.c0; have pp1 := P5.out.c1; have ppl := P5.out.lt; have K5 := Lib.hid (F0.out.same (Fr.same (by repeat (first | exact Fr.refl _ _ | apply Fr.drew | apply Fr.alloc)) G5)); have J5 := Lib.hid (H.out.keep K5.out); try (have D5 := Lib.hid ((((Bx.new _ (.bool false) (.slice none 0 0)).eq (k' := w.heap.size + 2) (by simp)).fr ((Fr.refl [] _).drew)).fr G5))) | (go_at_call 97; refine Calls.mono (C2.out _ _ _ ?_ ?_) ?_; (· exact J5.out.keep (by repeat (first | exact Fr.refl _ _ | apply Fr.drew | apply Fr.alloc))); (· exact I5.keep (by repeat (first | exact Fr.refl _ _ | apply Fr.drew | apply Fr.alloc))); rintro e w6 ⟨a6, c6, rfl, I6, G6⟩; have K6 := Lib.hid (K5.out.same (Fr.same (by repeat (first | exact Fr.refl _ _ | apply Fr.drew | apply Fr.alloc)) G6)); try (first | have D6 := Lib.hid (D5.out.fr G6) | have D6 := Lib.hid ((Bx.new _ (.bool false) (.slice none 0 0)).fr G6)); try (have dd0 := D6.out.c0; have dd1 := D6.out.c1; have df0 := D6.out.f 0; have df1 := D6.out.f 1; have ddl := D6.out.lt)))
  all_goals
    have kz := K5.out.size
    by_cases hk : kp = 0
    · have hz : (((lims kp).length : Int) == 0) = true := by rw [hk]; rfl
      have hv : sgnP sp kp = 0 := by unfold sgnP; rw [if_pos hk]
      replace hv := Lib.hid hv
      clear hk
      go_wp2
      go_ret
      exact ⟨by rw [hv.out]; rfl, by first | exact K6.out.alloc _ | exact K6.out.set2 (by omega) _ _⟩
    · have hz : (((lims kp).length : Int) == 0) = false := by rw [beq_eq_false_iff_ne]; have := lims_len_pos.2 hk; omega
      cases sp with
      | true =>
        have hv : sgnP true kp = -1 := by unfold sgnP; rw [if_neg hk, if_pos rfl]
        replace hv := Lib.hid hv
        clear hk
        go_wp2
        go_ret
        exact ⟨by rw [hv.out]; rfl, by first | exact K6.out.alloc _ | exact K6.out.set2 (by omega) _ _⟩
      | false =>
        have hv : sgnP false kp = 1 := by unfold sgnP; rw [if_neg hk, if_neg (by decide)]
        replace hv := Lib.hid hv
        clear hk
        go_wp2
        go_ret
        exact ⟨by rw [hv.out]; rfl, by first | exact K6.out.alloc _ | exact K6.out.set2 (by omega) _ _⟩
end Go.Proofs.YtjdanblijcdllaaGreatDoor
/- Exact: the quotient. -/
namespace Go.Proofs.YtjdanblijcdllaaGreatDoor
open Go.ChangeShapes Go.WideShapes Go.RowKit
variable {w w' w2 wr : World} {a b : Option Addr} {cap cap2 : Nat} {L M : List Nat} {B : Nat}
set_option maxRecDepth 100000 in
set_option maxHeartbeats 4000000 in
theorem equo_c (w : World) (s s2 : Bool) (n m : Nat) (h : In w a cap (lims n)) (h2 : In w b cap2 (lims m)) (hn : fits n = true) (hm : fits m = true) : Calls Tryz.prog 58 #[.agg #[.bool s, .slice a (lims n).length cap], .agg #[.bool s2, .slice b (lims m).length cap2]] w (QuoI w s n s2 m) := by
  have H := Lib.hid h
  have H2 := Lib.hid h2
  clear h h2
  have F0 : Hid (Fr [] w ((((w.alloc (.cells #[.bool s, .slice a (lims n).length cap] 25)).alloc (.cells #[.bool s2, .slice b (lims m).length cap2] 25)).alloc (.cells #[.bool false, .slice none 0 0] 25)).alloc (.cells #[.bool false, .slice none 0 0] 25))) := Lib.hid (((((Fr.refl [] w).alloc _).alloc _).alloc _).alloc _)
  have P : Hid (Bx ((((w.alloc (.cells #[.bool s, .slice a (lims n).length cap] 25)).alloc (.cells #[.bool s2, .slice b (lims m).length cap2] 25)).alloc (.cells #[.bool false, .slice none 0 0] 25)).alloc (.cells #[.bool false, .slice none 0 0] 25)) (w.heap.size) (.bool s) (.slice a (lims n).length cap)) := Lib.hid ((Bx.new _ _ _).fr ((((Fr.refl [] _).alloc _).alloc _).alloc _))
  have Q : Hid (Bx ((((w.alloc (.cells #[.bool s, .slice a (lims n).length cap] 25)).alloc (.cells #[.bool s2, .slice b (lims m).length cap2] 25)).alloc (.cells #[.bool false, .slice none 0 0] 25)).alloc (.cells #[.bool false, .slice none 0 0] 25)) (w.heap.size + 1) (.bool s2) (.slice b (lims m).length cap2)) := Lib.hid (((Bx.new _ _ _).eq (by simp)).fr (((Fr.refl [] _).alloc _).alloc _))
  have R : Hid (Bx ((((w.alloc (.cells #[.bool s, .slice a (lims n).length cap] 25)).alloc (.cells #[.bool s2, .slice b (lims m).length cap2] 25)).alloc (.cells #[.bool false, .slice none 0 0] 25)).alloc (.cells #[.bool false, .slice none 0 0] 25)) (w.heap.size + 2) (.bool false) (.slice none 0 0)) := Lib.hid (((Bx.new _ _ _).eq (by simp)).fr ((Fr.refl [] _).alloc _))
  have T : Hid (Bx ((((w.alloc (.cells #[.bool s, .slice a (lims n).length cap] 25)).alloc (.cells #[.bool s2, .slice b (lims m).length cap2] 25)).alloc (.cells #[.bool false, .slice none 0 0] 25)).alloc (.cells #[.bool false, .slice none 0 0] 25)) (w.heap.size + 3) (.bool false) (.slice none 0 0)) := Lib.hid (((Bx.new _ _ _).eq (by simp)).fr (Fr.refl [] _))
  replace pc0 := P.out.c0
  replace pc1 := P.out.c1
  replace pl := P.out.lt
  replace qc0 := Q.out.c0
  replace qc1 := Q.out.c1
  replace ql := Q.out.lt
  replace rc0 := R.out.c0
  replace rc1 := R.out.c1
  replace rl := R.out.lt
  replace rf0 := R.out.f 0
  replace rf1 := R.out.f 1
  replace tc0 := T.out.c0
  replace tc1 := T.out.c1
  replace tl := T.out.lt
  replace tf0 := T.out.f 0
  replace tf1 := T.out.f 1
  have CD := Lib.hid (ldiv_c _ (H.out.keep F0.out) (H2.out.keep F0.out))
  rw [val_lims, val_lims] at CD
  by_cases hm0 : m = 0
  · have D : Hid (∀ W, Fr [] w W → QuoI w s n s2 m (.returned (.tuple #[.agg #[.bool false, .slice none 0 0], .agg #[.bool false, .slice none 0 0], .int .i64 12])) W) := Lib.hid (fun W h => by unfold QuoI; rw [if_pos hm0]; exact ⟨rfl, h⟩)
    have RES : Hid (∀ W e w1, DivR W n m e w1 → e = .returned (.tuple #[.slice none 0 0, .slice none 0 0, .int .i64 12]) ∧ Fr [] W w1) := Lib.hid (fun W e w1 hr => by
      unfold DivR at hr; rw [hn, hm, if_neg (by simp), if_pos hm0] at hr; exact hr)
    clear hm0 hn hm
    go_enter Tryz.func58, Tryz.ntmps58
    go_wp2_with fail
    refine CD.out.mono ?_
    intro e w1 hr
    obtain ⟨rfl, F1⟩ := RES.out _ _ _ hr
    replace P := Lib.hid (P.out.fr F1)
    replace pc0 := P.out.c0
    replace pc1 := P.out.c1
    replace pl := P.out.lt
    replace Q := Lib.hid (Q.out.fr F1)
    replace qc0 := Q.out.c0
    replace qc1 := Q.out.c1
    replace ql := Q.out.lt
    replace R := Lib.hid (R.out.fr F1)
    replace rc0 := R.out.c0
    replace rc1 := R.out.c1
    replace rl := R.out.lt
    replace rf0 := R.out.f 0
    replace rf1 := R.out.f 1
    replace T := Lib.hid (T.out.fr F1)
    replace tc0 := T.out.c0
    replace tc1 := T.out.c1
    replace tl := T.out.lt
    replace tf0 := T.out.f 0
    replace tf1 := T.out.f 1
    have F1 := Lib.hid (F0.out.same F1)
    clear hr CD
    go_wp2_with fail
    have U2 := Lib.hid (T.out.other (k2 := w.heap.size + 2) (by omega) (.bool false) (.slice none 0 0))
    refine bodyPost_ret (ret_iv3 rfl _ _ _ _ _ _ _ _ rfl rfl ((R.out.set _ _).other (by omega) _ _) (U2.out.set _ _)) rfl ?_
    exact D.out _ ((F1.out.set2 (by omega) _ _).set2 (by omega) _ _)
  · have D : Hid (∀ W a c a2 c2, In W a c (lims (n / m)) → In W a2 c2 (lims (n % m)) → Fr [] w W → QuoI w s n s2 m (.returned (.tuple #[.agg #[.bool (sg (s != s2) (n / m)), .slice a (lims (n / m)).length c], .agg #[.bool (sg s (n % m)), .slice a2 (lims (n % m)).length c2], .int .i64 0])) W) := Lib.hid (fun W a c a2 c2 h1 h2 h3 => by
      unfold QuoI; rw [if_neg hm0]; exact ⟨a, c, a2, c2, rfl, h1, h2, h3⟩)
    have RES : Hid (∀ W e w1, DivR W n m e w1 → ∃ a c a2 c2, e = .returned (.tuple #[.slice a (lims (n / m)).length c, .slice a2 (lims (n % m)).length c2, .int .i64 0]) ∧ In w1 a c (lims (n / m)) ∧ In w1 a2 c2 (lims (n % m)) ∧ Fr [] W w1) := Lib.hid (fun W e w1 hr => by
      unfold DivR at hr; rw [hn, hm, if_neg (by simp), if_neg hm0] at hr
      obtain ⟨a1, c1, a2, c2, h1, h2, h3, h4⟩ := hr
      exact ⟨a1, c1, a2, c2, h1, h2.in, h3.in, h4⟩)
    have SQ : Hid (∀ W a c, In W a c (lims (n / m)) → Calls Tryz.prog 110 #[.bool (s != s2), .slice a (lims (n / m)).length c] W (GivesI W (sg (s != s2) (n / m)) (n / m))) := Lib.hid (fun W a c h => signed_c W (s != s2) (n / m) h)
    have SR : Hid (∀ W a c, In W a c (lims (n % m)) → Calls Tryz.prog 110 #[.bool s, .slice a (lims (n % m)).length c] W (GivesI W (sg s (n % m)) (n % m))) := Lib.hid (fun W a c h => signed_c W s (n % m) h)
    generalize sg (s != s2) (n / m) = sq1 at *
    generalize sg s (n % m) = sr1 at *
    generalize n / m = q at *
    generalize n % m = r at *
    clear hm0 hn hm
    go_enter Tryz.func58, Tryz.ntmps58
    go_wp2_with fail
    refine CD.out.mono ?_
    intro e w1 hr
    obtain ⟨a3, c3, a4, c4, rfl, J3, J4, F1⟩ := RES.out _ _ _ hr
    have CQ : Hid (∀ W, Fr [] w1 W → Calls Tryz.prog 110 #[.bool (s != s2), .slice a3 (lims q).length c3] W (GivesI W sq1 q)) := Lib.hid (fun W hW => SQ.out W a3 c3 (J3.keep hW))
    have CR : Hid (∀ W, Fr [] w1 W → Calls Tryz.prog 110 #[.bool s, .slice a4 (lims r).length c4] W (GivesI W sr1 r)) := Lib.hid (fun W hW => SR.out W a4 c4 (J4.keep hW))
    replace P := Lib.hid (P.out.fr F1)
    replace pc0 := P.out.c0
    replace pc1 := P.out.c1
    replace pl := P.out.lt
    replace Q := Lib.hid (Q.out.fr F1)
    replace qc0 := Q.out.c0
    replace qc1 := Q.out.c1
    replace ql := Q.out.lt
    replace R := Lib.hid (R.out.fr F1)
    replace rc0 := R.out.c0
    replace rc1 := R.out.c1
    replace rl := R.out.lt
    replace rf0 := R.out.f 0
    replace rf1 := R.out.f 1
    replace T := Lib.hid (T.out.fr F1)
    replace tc0 := T.out.c0
    replace tc1 := T.out.c1
    replace tl := T.out.lt
    replace tf0 := T.out.f 0
    replace tf1 := T.out.f 1
    have F1 := Lib.hid (F0.out.same F1)
    clear hr CD J3 J4 RES SQ SR
    go_wp2_with fail
    go_region_held3 (fun W => W.cell? ⟨w.heap.size, 0, none⟩ = some (.bool s) ∧ W.cell? ⟨w.heap.size, 1, none⟩ = some (.slice a (lims n).length cap) ∧ W.cell? ⟨w.heap.size + 1, 0, none⟩ = some (.bool s2) ∧ W.cell? ⟨w.heap.size + 1, 1, none⟩ = some (.slice b (lims m).length cap2)) (with_reducible first | exact Bx.c4 (P.out.fr (Fr.refl [] _).drew) (Q.out.fr (Fr.refl [] _).drew) | exact Bx.c4 P6.out Q6.out | exact Bx.c4 P5.out Q5.out | exact Bx.c4 (P6.out.other (by omega) _ _) (Q6.out.other (by omega) _ _) | exact Bx.c4 ((P6.out.other (by omega) _ _).other (by omega) _ _) ((Q6.out.other (by omega) _ _).other (by omega) _ _)) (first | (go_at_call_of 110 a3; refine Calls.mono (CQ.out _ (Fr.refl [] _).drew) ?_; rintro e w5 ⟨a5, c5, rfl, I5, G5⟩; have K5 := Lib.hid ((Fr.refl [] w1).drew.same G5); have P5 := Lib.hid (P.out.fr K5.out); have Q5 := Lib.hid (Q.out.fr K5.out); have R5 := Lib.hid (R.out.fr K5.out); have T5 := Lib.hid (T.out.fr K5.out)) | (go_at_call_of 110 a4; refine Calls.mono (CR.out _ K5.out) ?_; rintro e w6 ⟨a6, c6, rfl, I6, G6⟩; have P6 := Lib.hid (P5.out.fr G6); have Q6 := Lib.hid (Q5.out.fr G6); have R6 := Lib.hid (R5.out.fr G6); have T6 := Lib.hid (T5.out.fr G6); have I5' := Lib.hid (I5.keep G6); have K6 := Lib.hid (K5.out.same G6); have rr0 := R6.out.c0; have rr1 := R6.out.c1; have rrl := R6.out.lt; have rrf0 := R6.out.f 0; have rrf1 := R6.out.f 1; have tt0 := T6.out.c0; have tt1 := T6.out.c1; have ttl := T6.out.lt; have ttf0 := T6.out.f 0; have ttf1 := T6.out.f 1))
    all_goals
      go_wp2
      have U1 := Lib.hid (R6.out.set (.bool sq1) (.slice a5 (lims q).length c5))
      have U2 := Lib.hid (T6.out.other (k2 := w.heap.size + 2) (by omega) (.bool sq1) (.slice a5 (lims q).length c5))
      refine bodyPost_ret (ret_iv3 rfl _ _ _ _ _ _ _ _ rfl rfl (U1.out.other (by omega) _ _) (U2.out.set _ _)) rfl ?_
      exact D.out _ _ _ _ _ ((I5'.out.set2 R6.out _ _).set2 U2.out _ _) ((I6.set2 R6.out _ _).set2 U2.out _ _) (((F1.out.same K6.out).set2 (by omega) _ _).set2 (by omega) _ _)
end Go.Proofs.YtjdanblijcdllaaGreatDoor
/- Exact: the quotient, the reference. -/
namespace Go.Proofs.YtjdanblijcdllaaGreatDoor
open Go.ChangeShapes Go.WideShapes Go.RowKit
variable {w w' w2 wr : World} {a b : Option Addr} {cap cap2 : Nat} {L M : List Nat} {B : Nat}
set_option maxRecDepth 100000 in
set_option maxHeartbeats 4000000 in
theorem r2quo_c (w : World) (s s2 : Bool) (n m : Nat) (h : In w a cap (lims n)) (h2 : In w b cap2 (lims m)) (hl : (lims n).length ≤ 70000) : Calls Tryz.prog 66 #[.agg #[.bool s, .slice a (lims n).length cap], .agg #[.bool s2, .slice b (lims m).length cap2]] w (QuoI w s n s2 m) := by
  have H := Lib.hid h
  have H2 := Lib.hid h2
  clear h h2
  have F0 : Hid (Fr [] w ((((w.alloc (.cells #[.bool s, .slice a (lims n).length cap] 25)).alloc (.cells #[.bool s2, .slice b (lims m).length cap2] 25)).alloc (.cells #[.bool false, .slice none 0 0] 25)).alloc (.cells #[.bool false, .slice none 0 0] 25))) := Lib.hid (((((Fr.refl [] w).alloc _).alloc _).alloc _).alloc _)
  have P : Hid (Bx ((((w.alloc (.cells #[.bool s, .slice a (lims n).length cap] 25)).alloc (.cells #[.bool s2, .slice b (lims m).length cap2] 25)).alloc (.cells #[.bool false, .slice none 0 0] 25)).alloc (.cells #[.bool false, .slice none 0 0] 25)) (w.heap.size) (.bool s) (.slice a (lims n).length cap)) := Lib.hid ((Bx.new _ _ _).fr ((((Fr.refl [] _).alloc _).alloc _).alloc _))
  have Q : Hid (Bx ((((w.alloc (.cells #[.bool s, .slice a (lims n).length cap] 25)).alloc (.cells #[.bool s2, .slice b (lims m).length cap2] 25)).alloc (.cells #[.bool false, .slice none 0 0] 25)).alloc (.cells #[.bool false, .slice none 0 0] 25)) (w.heap.size + 1) (.bool s2) (.slice b (lims m).length cap2)) := Lib.hid (((Bx.new _ _ _).eq (by simp)).fr (((Fr.refl [] _).alloc _).alloc _))
  have R : Hid (Bx ((((w.alloc (.cells #[.bool s, .slice a (lims n).length cap] 25)).alloc (.cells #[.bool s2, .slice b (lims m).length cap2] 25)).alloc (.cells #[.bool false, .slice none 0 0] 25)).alloc (.cells #[.bool false, .slice none 0 0] 25)) (w.heap.size + 2) (.bool false) (.slice none 0 0)) := Lib.hid (((Bx.new _ _ _).eq (by simp)).fr ((Fr.refl [] _).alloc _))
  have T : Hid (Bx ((((w.alloc (.cells #[.bool s, .slice a (lims n).length cap] 25)).alloc (.cells #[.bool s2, .slice b (lims m).length cap2] 25)).alloc (.cells #[.bool false, .slice none 0 0] 25)).alloc (.cells #[.bool false, .slice none 0 0] 25)) (w.heap.size + 3) (.bool false) (.slice none 0 0)) := Lib.hid (((Bx.new _ _ _).eq (by simp)).fr (Fr.refl [] _))
  replace pc0 := P.out.c0
  replace pc1 := P.out.c1
  replace pl := P.out.lt
  replace qc0 := Q.out.c0
  replace qc1 := Q.out.c1
  replace ql := Q.out.lt
  replace rc0 := R.out.c0
  replace rc1 := R.out.c1
  replace rl := R.out.lt
  replace rf0 := R.out.f 0
  replace rf1 := R.out.f 1
  replace tc0 := T.out.c0
  replace tc1 := T.out.c1
  replace tl := T.out.lt
  replace tf0 := T.out.f 0
  replace tf1 := T.out.f 1
  by_cases hm0 : m = 0
  · have D : Hid (∀ W, Fr [] w W → QuoI w s n s2 m (.returned (.tuple #[.agg #[.bool false, .slice none 0 0], .agg #[.bool false, .slice none 0 0], .int .i64 12])) W) := Lib.hid (fun W h => by unfold QuoI; rw [if_pos hm0]; exact ⟨rfl, h⟩)
    have hz : (((lims m).length : Int) == 0) = true := by rw [hm0]; rfl
    clear hm0
    go_enter Tryz.func66, Tryz.ntmps66
    go_wp2
    refine bodyPost_ret (ret_iv3 rfl _ _ _ _ _ _ _ _ rfl rfl (by first | exact R.out) (by first | exact T.out)) rfl ?_
    exact D.out _ F0.out
  · have D : Hid (∀ W a c a2 c2, In W a c (lims (n / m)) → In W a2 c2 (lims (n % m)) → Fr [] w W → QuoI w s n s2 m (.returned (.tuple #[.agg #[.bool (sg (s != s2) (n / m)), .slice a (lims (n / m)).length c], .agg #[.bool (sg s (n % m)), .slice a2 (lims (n % m)).length c2], .int .i64 0])) W) := Lib.hid (fun W a c a2 c2 h1 h2 h3 => by
      unfold QuoI; rw [if_neg hm0]; exact ⟨a, c, a2, c2, rfl, h1, h2, h3⟩)
    have hz : (((lims m).length : Int) == 0) = false := by rw [beq_eq_false_iff_ne]; have := lims_len_pos.2 hm0; omega
    have CD := Lib.hid (r1split_c _ (H.out.keep F0.out) (H2.out.keep F0.out) (by omega) (by rw [val_lims]; exact hm0))
    rw [val_lims, val_lims] at CD
    have RES : Hid (∀ W e w1, SplitR W n m e w1 → ∃ a c a2 c2, e = .returned (.tuple #[.slice a (lims (n / m)).length c, .slice a2 (lims (n % m)).length c2]) ∧ In w1 a c (lims (n / m)) ∧ In w1 a2 c2 (lims (n % m)) ∧ Fr [] W w1) := Lib.hid (fun W e w1 hr => by
      obtain ⟨a1, c1, a2, c2, h1, h2, h3, h4⟩ := hr
      exact ⟨a1, c1, a2, c2, h1, h2.in, h3.in, h4⟩)
    have SQ : Hid (∀ W a c, In W a c (lims (n / m)) → Calls Tryz.prog 111 #[.bool (s != s2), .slice a (lims (n / m)).length c] W (GivesI W (sg (s != s2) (n / m)) (n / m))) := Lib.hid (fun W a c h => made_c W (s != s2) (n / m) h)
    have SR : Hid (∀ W a c, In W a c (lims (n % m)) → Calls Tryz.prog 111 #[.bool s, .slice a (lims (n % m)).length c] W (GivesI W (sg s (n % m)) (n % m))) := Lib.hid (fun W a c h => made_c W s (n % m) h)
    generalize sg (s != s2) (n / m) = sq1 at *
    generalize sg s (n % m) = sr1 at *
    generalize n / m = q at *
    generalize n % m = r at *
    clear hm0
    go_enter Tryz.func66, Tryz.ntmps66
    go_wp2_with fail
    refine CD.out.mono ?_
    intro e w1 hr
    obtain ⟨a3, c3, a4, c4, rfl, J3, J4, F1⟩ := RES.out _ _ _ hr
    have CQ : Hid (∀ W, Fr [] w1 W → Calls Tryz.prog 111 #[.bool (s != s2), .slice a3 (lims q).length c3] W (GivesI W sq1 q)) := Lib.hid (fun W hW => SQ.out W a3 c3 (J3.keep hW))
    have CR : Hid (∀ W, Fr [] w1 W → Calls Tryz.prog 111 #[.bool s, .slice a4 (lims r).length c4] W (GivesI W sr1 r)) := Lib.hid (fun W hW => SR.out W a4 c4 (J4.keep hW))
    replace P := Lib.hid (P.out.fr F1)
    replace pc0 := P.out.c0
    replace pc1 := P.out.c1
    replace pl := P.out.lt
    replace Q := Lib.hid (Q.out.fr F1)
    replace qc0 := Q.out.c0
    replace qc1 := Q.out.c1
    replace ql := Q.out.lt
    replace R := Lib.hid (R.out.fr F1)
    replace rc0 := R.out.c0
    replace rc1 := R.out.c1
    replace rl := R.out.lt
    replace rf0 := R.out.f 0
    replace rf1 := R.out.f 1
    replace T := Lib.hid (T.out.fr F1)
    replace tc0 := T.out.c0
    replace tc1 := T.out.c1
    replace tl := T.out.lt
    replace tf0 := T.out.f 0
    replace tf1 := T.out.f 1
    have F1 := Lib.hid (F0.out.same F1)
    clear hr CD J3 J4 RES SQ SR
    go_wp2_with fail
    go_region_held3 (fun W => W.cell? ⟨w.heap.size, 0, none⟩ = some (.bool s) ∧ W.cell? ⟨w.heap.size, 1, none⟩ = some (.slice a (lims n).length cap) ∧ W.cell? ⟨w.heap.size + 1, 0, none⟩ = some (.bool s2) ∧ W.cell? ⟨w.heap.size + 1, 1, none⟩ = some (.slice b (lims m).length cap2)) (with_reducible first | exact Bx.c4 (P.out.fr (Fr.refl [] _).drew) (Q.out.fr (Fr.refl [] _).drew) | exact Bx.c4 P6.out Q6.out | exact Bx.c4 P5.out Q5.out | exact Bx.c4 (P6.out.other (by omega) _ _) (Q6.out.other (by omega) _ _) | exact Bx.c4 ((P6.out.other (by omega) _ _).other (by omega) _ _) ((Q6.out.other (by omega) _ _).other (by omega) _ _)) (first | (go_at_call_of 111 a3; refine Calls.mono (CQ.out _ (Fr.refl [] _).drew) ?_; rintro e w5 ⟨a5, c5, rfl, I5, G5⟩; have K5 := Lib.hid ((Fr.refl [] w1).drew.same G5); have P5 := Lib.hid (P.out.fr K5.out); have Q5 := Lib.hid (Q.out.fr K5.out); have R5 := Lib.hid (R.out.fr K5.out); have T5 := Lib.hid (T.out.fr K5.out)) | (go_at_call_of 111 a4; refine Calls.mono (CR.out _ K5.out) ?_; rintro e w6 ⟨a6, c6, rfl, I6, G6⟩; have P6 := Lib.hid (P5.out.fr G6); have Q6 := Lib.hid (Q5.out.fr G6); have R6 := Lib.hid (R5.out.fr G6); have T6 := Lib.hid (T5.out.fr G6); have I5' := Lib.hid (I5.keep G6); have K6 := Lib.hid (K5.out.same G6); have rr0 := R6.out.c0; have rr1 := R6.out.c1; have rrl := R6.out.lt; have rrf0 := R6.out.f 0; have rrf1 := R6.out.f 1; have tt0 := T6.out.c0; have tt1 := T6.out.c1; have ttl := T6.out.lt; have ttf0 := T6.out.f 0; have ttf1 := T6.out.f 1))
    all_goals
      go_wp2
      have U1 := Lib.hid (R6.out.set (.bool sq1) (.slice a5 (lims q).length c5))
      have U2 := Lib.hid (T6.out.other (k2 := w.heap.size + 2) (by omega) (.bool sq1) (.slice a5 (lims q).length c5))
      refine bodyPost_ret (ret_iv3 rfl _ _ _ _ _ _ _ _ rfl rfl (U1.out.other (by omega) _ _) (U2.out.set _ _)) rfl ?_
      exact D.out _ _ _ _ _ ((I5'.out.set2 R6.out _ _).set2 U2.out _ _) ((I6.set2 R6.out _ _).set2 U2.out _ _) (((F1.out.same K6.out).set2 (by omega) _ _).set2 (by omega) _ _)
end Go.Proofs.YtjdanblijcdllaaGreatDoor
/- Exact: the rest with the divisor's sign. -/
namespace Go.Proofs.YtjdanblijcdllaaGreatDoor
open Go.ChangeShapes Go.WideShapes Go.RowKit
variable {w w' w2 wr : World} {a b : Option Addr} {cap cap2 : Nat} {L M : List Nat} {B : Nat}
/-- The rest with the divisor's sign. -/
def modP (s : Bool) (n : Nat) (s2 : Bool) (m : Nat) : Bool × Nat :=
  if n % m = 0 ∨ sg s (n % m) = s2 then (sg s (n % m), n % m) else addP (sg s (n % m)) (n % m) s2 m
def ModI (w : World) (s : Bool) (n : Nat) (s2 : Bool) (m : Nat) (e : Ending) (w' : World) : Prop :=
  if m = 0 then e = .returned (.tuple #[.agg #[.bool false, .slice none 0 0], .int .i64 12]) ∧ Fr [] w w'
  else ∃ a c, e = .returned (.tuple #[.agg #[.bool (modP s n s2 m).1, .slice a (lims (modP s n s2 m).2).length c], .int .i64 0]) ∧ In w' a c (lims (modP s n s2 m).2) ∧ Fr [] w w'
theorem add_mod {sr s2 : Bool} {r m : Nat} (hr : r < m) (hs : sr ≠ s2) : (addP sr r s2 m).2 ≤ m := by
  unfold addP; rw [if_neg hs, if_neg (by omega)]; simp
theorem len_le {r m : Nat} (h : r ≤ m) : (lims r).length ≤ (lims m).length := len_lims.2 (Nat.lt_of_le_of_lt h (len_lims.1 (Nat.le_refl _)))
set_option maxRecDepth 100000 in
set_option maxHeartbeats 4000000 in
theorem emod_c (w : World) (s s2 : Bool) (n m : Nat) (h : In w a cap (lims n)) (h2 : In w b cap2 (lims m)) (hn : fits n = true) (hm : fits m = true) : Calls Tryz.prog 59 #[.agg #[.bool s, .slice a (lims n).length cap], .agg #[.bool s2, .slice b (lims m).length cap2]] w (ModI w s n s2 m) := by
  have H := Lib.hid h
  have H2 := Lib.hid h2
  clear h h2
  have F0 : Hid (Fr [] w (((w.alloc (.cells #[.bool s, .slice a (lims n).length cap] 25)).alloc (.cells #[.bool s2, .slice b (lims m).length cap2] 25)).alloc (.cells #[.bool false, .slice none 0 0] 25))) := Lib.hid ((((Fr.refl [] w).alloc _).alloc _).alloc _)
  have P : Hid (Bx (((w.alloc (.cells #[.bool s, .slice a (lims n).length cap] 25)).alloc (.cells #[.bool s2, .slice b (lims m).length cap2] 25)).alloc (.cells #[.bool false, .slice none 0 0] 25)) (w.heap.size) (.bool s) (.slice a (lims n).length cap)) := Lib.hid ((Bx.new _ _ _).fr (((Fr.refl [] _).alloc _).alloc _))
  have Q : Hid (Bx (((w.alloc (.cells #[.bool s, .slice a (lims n).length cap] 25)).alloc (.cells #[.bool s2, .slice b (lims m).length cap2] 25)).alloc (.cells #[.bool false, .slice none 0 0] 25)) (w.heap.size + 1) (.bool s2) (.slice b (lims m).length cap2)) := Lib.hid (((Bx.new _ _ _).eq (by simp)).fr ((Fr.refl [] _).alloc _))
  have R : Hid (Bx (((w.alloc (.cells #[.bool s, .slice a (lims n).length cap] 25)).alloc (.cells #[.bool s2, .slice b (lims m).length cap2] 25)).alloc (.cells #[.bool false, .slice none 0 0] 25)) (w.heap.size + 2) (.bool false) (.slice none 0 0)) := Lib.hid (((Bx.new _ _ _).eq (by simp)).fr (Fr.refl [] _))
  replace pc0 := P.out.c0
  replace pc1 := P.out.c1
  replace pl := P.out.lt
  replace qc0 := Q.out.c0
  replace qc1 := Q.out.c1
  replace ql := Q.out.lt
  replace rc0 := R.out.c0
  replace rc1 := R.out.c1
  replace rl := R.out.lt
  replace rf0 := R.out.f 0
  replace rf1 := R.out.f 1
  have CD := Lib.hid (equo_c _ s s2 n m (H.out.keep F0.out) (H2.out.keep F0.out) hn hm)
  by_cases hm0 : m = 0
  · have D : Hid (∀ W, Fr [] w W → ModI w s n s2 m (.returned (.tuple #[.agg #[.bool false, .slice none 0 0], .int .i64 12])) W) := Lib.hid (fun W h => by unfold ModI; rw [if_pos hm0]; exact ⟨rfl, h⟩)
    have RES : Hid (∀ W e w1, QuoI W s n s2 m e w1 → e = .returned (.tuple #[.agg #[.bool false, .slice none 0 0], .agg #[.bool false, .slice none 0 0], .int .i64 12]) ∧ Fr [] W w1) := Lib.hid (fun W e w1 hr => by unfold QuoI at hr; rwa [if_pos hm0] at hr)
    clear hm0 hn hm
    go_enter Tryz.func59, Tryz.ntmps59
    go_wp2_with fail
    refine CD.out.mono ?_
    intro e w1 hr
    obtain ⟨rfl, F1⟩ := RES.out _ _ _ hr
    replace P := Lib.hid (P.out.fr F1)
    replace pc0 := P.out.c0
    replace pc1 := P.out.c1
    replace pl := P.out.lt
    replace Q := Lib.hid (Q.out.fr F1)
    replace qc0 := Q.out.c0
    replace qc1 := Q.out.c1
    replace ql := Q.out.lt
    replace R := Lib.hid (R.out.fr F1)
    replace rc0 := R.out.c0
    replace rc1 := R.out.c1
    replace rl := R.out.lt
    replace rf0 := R.out.f 0
    replace rf1 := R.out.f 1
    have KF := Lib.hid (F0.out.same F1)
    have kz := KF.out.size
    clear hr CD RES
    go_wp2_with fail
    refine bodyPost_ret (ret_iv2 rfl _ _ _ _ _ rfl ((R.out.set _ _).fr (((Fr.refl [] _).alloc _).alloc _))) rfl ?_
    exact D.out _ (((KF.out.set2 (by omega) _ _).alloc _).alloc _)
  · have RES : Hid (∀ W e w1, QuoI W s n s2 m e w1 → ∃ a c a2 c2, e = .returned (.tuple #[.agg #[.bool (sg (s != s2) (n / m)), .slice a (lims (n / m)).length c], .agg #[.bool (sg s (n % m)), .slice a2 (lims (n % m)).length c2], .int .i64 0]) ∧ In w1 a2 c2 (lims (n % m)) ∧ Fr [] W w1) := Lib.hid (fun W e w1 hr => by
      unfold QuoI at hr; rw [if_neg hm0] at hr; obtain ⟨a, c, a2, c2, h1, _, h2, h3⟩ := hr; exact ⟨a, c, a2, c2, h1, h2, h3⟩)
    have hlt : n % m < m := Nat.mod_lt _ (by omega)
    by_cases hst : n % m = 0 ∨ sg s (n % m) = s2
    · have D : Hid (∀ W a c, In W a c (lims (n % m)) → Fr [] w W → ModI w s n s2 m (.returned (.tuple #[.agg #[.bool (sg s (n % m)), .slice a (lims (n % m)).length c], .int .i64 0])) W) := Lib.hid (fun W a c h1 h2 => by
        have e : modP s n s2 m = (sg s (n % m), n % m) := by unfold modP; rw [if_pos hst]
        unfold ModI; rw [if_neg hm0, e]; exact ⟨a, c, rfl, h1, h2⟩)
      have hz0 : n % m = 0 → (((lims (n % m)).length : Int) == 0) = true ∧ ¬ (0 : Int) < ((lims (n % m)).length : Int) := fun e => by rw [e]; decide
      have hz1 : n % m ≠ 0 → (((lims (n % m)).length : Int) == 0) = false ∧ (0 : Int) < ((lims (n % m)).length : Int) := fun e => by have := lims_len_pos.2 e; rw [beq_eq_false_iff_ne]; omega
      generalize sg (s != s2) (n / m) = sq1 at *
      generalize n / m = q at *
      generalize sg s (n % m) = sr at *
      generalize n % m = r at *
      by_cases hr0 : r = 0
      · obtain ⟨hz, hzp⟩ := hz0 hr0
        clear hz0 hz1 hr0 hst hm0 hlt hn hm
        go_enter Tryz.func59, Tryz.ntmps59
        go_wp2_with fail
        refine CD.out.mono ?_
        intro e w1 hr
        obtain ⟨a3, c3, a4, c4, rfl, J4, F1⟩ := RES.out _ _ _ hr
        replace P := Lib.hid (P.out.fr F1)
        replace pc0 := P.out.c0
        replace pc1 := P.out.c1
        replace pl := P.out.lt
        replace Q := Lib.hid (Q.out.fr F1)
        replace qc0 := Q.out.c0
        replace qc1 := Q.out.c1
        replace ql := Q.out.lt
        replace R := Lib.hid (R.out.fr F1)
        replace rc0 := R.out.c0
        replace rc1 := R.out.c1
        replace rl := R.out.lt
        replace rf0 := R.out.f 0
        replace rf1 := R.out.f 1
        have KF := Lib.hid (F0.out.same F1)
        have kz := KF.out.size
        have J4 := Lib.hid J4
        clear hr CD RES
        go_wp2_with fail
        refine bodyPost_ret (ret_iv2 rfl _ _ _ _ _ rfl ((R.out.set _ _).fr (((Fr.refl [] _).alloc _).alloc _))) rfl ?_
        exact D.out _ _ _ ((J4.out.set2 R.out _ _).keep (((Fr.refl [] _).alloc _).alloc _)) (((KF.out.set2 (by omega) _ _).alloc _).alloc _)
      · obtain ⟨hz, hzp⟩ := hz1 hr0
        obtain rfl : sr = s2 := hst.resolve_left hr0
        have ES : (sr == sr) = true := beq_self_eq_true sr
        have EN : (sr != sr) = false := by simp
        clear hz0 hz1 hr0 hst hm0 hlt hn hm
        go_enter Tryz.func59, Tryz.ntmps59
        go_wp2_with fail
        refine CD.out.mono ?_
        intro e w1 hr
        obtain ⟨a3, c3, a4, c4, rfl, J4, F1⟩ := RES.out _ _ _ hr
        replace P := Lib.hid (P.out.fr F1)
        replace pc0 := P.out.c0
        replace pc1 := P.out.c1
        replace pl := P.out.lt
        replace Q := Lib.hid (Q.out.fr F1)
        replace qc0 := Q.out.c0
        replace qc1 := Q.out.c1
        replace ql := Q.out.lt
        replace R := Lib.hid (R.out.fr F1)
        replace rc0 := R.out.c0
        replace rc1 := R.out.c1
        replace rl := R.out.lt
        replace rf0 := R.out.f 0
        replace rf1 := R.out.f 1
        have KF := Lib.hid (F0.out.same F1)
        have kz := KF.out.size
        have J4 := Lib.hid J4
        clear hr CD RES
        go_wp2_with fail
        refine bodyPost_ret (ret_iv2 rfl _ _ _ _ _ rfl ((R.out.set _ _).fr (((Fr.refl [] _).alloc _).alloc _))) rfl ?_
        exact D.out _ _ _ ((J4.out.set2 R.out _ _).keep (((Fr.refl [] _).alloc _).alloc _)) (((KF.out.set2 (by omega) _ _).alloc _).alloc _)
    · have e0 : modP s n s2 m = addP (sg s (n % m)) (n % m) s2 m := by unfold modP; rw [if_neg hst]
      have hr0 : n % m ≠ 0 := fun e => hst (.inl e)
      have hs0 : sg s (n % m) ≠ s2 := fun e => hst (.inr e)
      have hz : (((lims (n % m)).length : Int) == 0) = false := by have := lims_len_pos.2 hr0; rw [beq_eq_false_iff_ne]; omega
      have hzp : (0 : Int) < ((lims (n % m)).length : Int) := by have := lims_len_pos.2 hr0; omega
      have D : Hid (∀ W a c, In W a c (lims (addP (sg s (n % m)) (n % m) s2 m).2) → Fr [] w W → ModI w s n s2 m (.returned (.tuple #[.agg #[.bool (addP (sg s (n % m)) (n % m) s2 m).1, .slice a (lims (addP (sg s (n % m)) (n % m) s2 m).2).length c], .int .i64 0])) W) := Lib.hid (fun W a c h1 h2 => by
        unfold ModI; rw [if_neg hm0, e0]; exact ⟨a, c, rfl, h1, h2⟩)
      have CA : Hid (∀ W a4 c4, Fr [] w W → In W a4 c4 (lims (n % m)) → Calls Tryz.prog 101 #[.agg #[.bool (sg s (n % m)), .slice a4 (lims (n % m)).length c4], .agg #[.bool s2, .slice b (lims m).length cap2]] W fun e w' => ∃ a c, e = .returned (.tuple #[.agg #[.bool (addP (sg s (n % m)) (n % m) s2 m).1, .slice a (lims (addP (sg s (n % m)) (n % m) s2 m).2).length c], .int .i64 0]) ∧ In w' a c (lims (addP (sg s (n % m)) (n % m) s2 m).2) ∧ Fr [] W w') := Lib.hid (fun W a4 c4 hW hI => by
        have := eadd_c W (sg s (n % m)) s2 (n % m) m hI (H2.out.keep hW) (fits_le (Nat.le_of_lt hlt) hm) hm
        unfold AddI at this
        rwa [fits_le (add_mod hlt hs0) hm] at this)
      have ES : (sg s (n % m) == s2) = false := by simpa using hs0
      have EN : (sg s (n % m) != s2) = true := by simpa using hs0
      generalize (addP (sg s (n % m)) (n % m) s2 m).1 = sx at *
      generalize (addP (sg s (n % m)) (n % m) s2 m).2 = x at *
      generalize sg (s != s2) (n / m) = sq1 at *
      generalize n / m = q at *
      generalize sg s (n % m) = sr at *
      generalize n % m = r at *
      clear e0 hr0 hs0 hst hm0 hlt hn hm
      go_enter Tryz.func59, Tryz.ntmps59
      go_wp2_with fail
      refine CD.out.mono ?_
      intro e w1 hr
      obtain ⟨a3, c3, a4, c4, rfl, J4, F1⟩ := RES.out _ _ _ hr
      replace P := Lib.hid (P.out.fr F1)
      replace pc0 := P.out.c0
      replace pc1 := P.out.c1
      replace pl := P.out.lt
      replace Q := Lib.hid (Q.out.fr F1)
      replace qc0 := Q.out.c0
      replace qc1 := Q.out.c1
      replace ql := Q.out.lt
      replace R := Lib.hid (R.out.fr F1)
      replace rc0 := R.out.c0
      replace rc1 := R.out.c1
      replace rl := R.out.lt
      replace rf0 := R.out.f 0
      replace rf1 := R.out.f 1
      have KF := Lib.hid (F0.out.same F1)
      have kz := KF.out.size
      have hk3 := R.out.lt
      have J4 := Lib.hid J4
      clear hr CD RES
      go_wp2_with fail
      refine (CA.out _ _ _ ((KF.out.alloc _).alloc _) (J4.out.keep (((Fr.refl [] _).alloc _).alloc _))).mono ?_
      rintro e w3 ⟨a5, c5, rfl, J5, F3⟩
      have J5 := Lib.hid J5
      have F3 := Lib.hid F3
      have T := Lib.hid (((Bx.new (w1.alloc (.cells #[.bool sq1, .slice a3 (lims q).length c3] 25)) (.bool sr) (.slice a4 (lims r).length c4)).eq (k' := w1.heap.size + 1) (by simp)).fr F3.out)
      replace P := Lib.hid (P.out.fr ((((Fr.refl [] _).alloc _).alloc _).same F3.out))
      replace Q := Lib.hid (Q.out.fr ((((Fr.refl [] _).alloc _).alloc _).same F3.out))
      replace R := Lib.hid (R.out.fr ((((Fr.refl [] _).alloc _).alloc _).same F3.out))
      replace pc0 := P.out.c0
      replace pc1 := P.out.c1
      replace pl := P.out.lt
      replace qc0 := Q.out.c0
      replace qc1 := Q.out.c1
      replace ql := Q.out.lt
      replace rc0 := R.out.c0
      replace rc1 := R.out.c1
      replace rl := R.out.lt
      replace rf0 := R.out.f 0
      replace rf1 := R.out.f 1
      have tc0 := T.out.c0
      have tc1 := T.out.c1
      have tl := T.out.lt
      have tf0 := T.out.f 0
      have tf1 := T.out.f 1
      have KF := Lib.hid (((KF.out.alloc _).alloc _).same F3.out)
      clear F3
      go_wp2_with fail
      refine bodyPost_ret (ret_iv2 rfl _ _ _ _ _ rfl (R.out.set _ _)) rfl ?_
      exact D.out _ _ _ (J5.out.set2 R.out _ _) (KF.out.set2 (by omega) _ _)
set_option maxRecDepth 100000 in
set_option maxHeartbeats 4000000 in
theorem r2mod_c (w : World) (s s2 : Bool) (n m : Nat) (h : In w a cap (lims n)) (h2 : In w b cap2 (lims m)) (hl : (lims n).length ≤ 70000) (hl2 : (lims m).length ≤ 70000) : Calls Tryz.prog 63 #[.agg #[.bool s, .slice a (lims n).length cap], .agg #[.bool s2, .slice b (lims m).length cap2]] w (ModI w s n s2 m) := by
  have H := Lib.hid h
  have H2 := Lib.hid h2
  clear h h2
  have F0 : Hid (Fr [] w (((w.alloc (.cells #[.bool s, .slice a (lims n).length cap] 25)).alloc (.cells #[.bool s2, .slice b (lims m).length cap2] 25)).alloc (.cells #[.bool false, .slice none 0 0] 25))) := Lib.hid ((((Fr.refl [] w).alloc _).alloc _).alloc _)
  have P : Hid (Bx (((w.alloc (.cells #[.bool s, .slice a (lims n).length cap] 25)).alloc (.cells #[.bool s2, .slice b (lims m).length cap2] 25)).alloc (.cells #[.bool false, .slice none 0 0] 25)) (w.heap.size) (.bool s) (.slice a (lims n).length cap)) := Lib.hid ((Bx.new _ _ _).fr (((Fr.refl [] _).alloc _).alloc _))
  have Q : Hid (Bx (((w.alloc (.cells #[.bool s, .slice a (lims n).length cap] 25)).alloc (.cells #[.bool s2, .slice b (lims m).length cap2] 25)).alloc (.cells #[.bool false, .slice none 0 0] 25)) (w.heap.size + 1) (.bool s2) (.slice b (lims m).length cap2)) := Lib.hid (((Bx.new _ _ _).eq (by simp)).fr ((Fr.refl [] _).alloc _))
  have R : Hid (Bx (((w.alloc (.cells #[.bool s, .slice a (lims n).length cap] 25)).alloc (.cells #[.bool s2, .slice b (lims m).length cap2] 25)).alloc (.cells #[.bool false, .slice none 0 0] 25)) (w.heap.size + 2) (.bool false) (.slice none 0 0)) := Lib.hid (((Bx.new _ _ _).eq (by simp)).fr (Fr.refl [] _))
  replace pc0 := P.out.c0
  replace pc1 := P.out.c1
  replace pl := P.out.lt
  replace qc0 := Q.out.c0
  replace qc1 := Q.out.c1
  replace ql := Q.out.lt
  replace rc0 := R.out.c0
  replace rc1 := R.out.c1
  replace rl := R.out.lt
  replace rf0 := R.out.f 0
  replace rf1 := R.out.f 1
  have CD := Lib.hid (r2quo_c _ s s2 n m (H.out.keep F0.out) (H2.out.keep F0.out) hl)
  by_cases hm0 : m = 0
  · have D : Hid (∀ W, Fr [] w W → ModI w s n s2 m (.returned (.tuple #[.agg #[.bool false, .slice none 0 0], .int .i64 12])) W) := Lib.hid (fun W h => by unfold ModI; rw [if_pos hm0]; exact ⟨rfl, h⟩)
    have RES : Hid (∀ W e w1, QuoI W s n s2 m e w1 → e = .returned (.tuple #[.agg #[.bool false, .slice none 0 0], .agg #[.bool false, .slice none 0 0], .int .i64 12]) ∧ Fr [] W w1) := Lib.hid (fun W e w1 hr => by unfold QuoI at hr; rwa [if_pos hm0] at hr)
    clear hm0 hl hl2
    go_enter Tryz.func63, Tryz.ntmps63
    go_wp2_with fail
    refine CD.out.mono ?_
    intro e w1 hr
    obtain ⟨rfl, F1⟩ := RES.out _ _ _ hr
    replace P := Lib.hid (P.out.fr F1)
    replace pc0 := P.out.c0
    replace pc1 := P.out.c1
    replace pl := P.out.lt
    replace Q := Lib.hid (Q.out.fr F1)
    replace qc0 := Q.out.c0
    replace qc1 := Q.out.c1
    replace ql := Q.out.lt
    replace R := Lib.hid (R.out.fr F1)
    replace rc0 := R.out.c0
    replace rc1 := R.out.c1
    replace rl := R.out.lt
    replace rf0 := R.out.f 0
    replace rf1 := R.out.f 1
    have KF := Lib.hid (F0.out.same F1)
    have kz := KF.out.size
    clear hr CD RES
    go_wp2_with fail
    refine bodyPost_ret (ret_iv2 rfl _ _ _ _ _ rfl ((R.out.set _ _).fr (((Fr.refl [] _).alloc _).alloc _))) rfl ?_
    exact D.out _ (((KF.out.set2 (by omega) _ _).alloc _).alloc _)
  · have RES : Hid (∀ W e w1, QuoI W s n s2 m e w1 → ∃ a c a2 c2, e = .returned (.tuple #[.agg #[.bool (sg (s != s2) (n / m)), .slice a (lims (n / m)).length c], .agg #[.bool (sg s (n % m)), .slice a2 (lims (n % m)).length c2], .int .i64 0]) ∧ In w1 a2 c2 (lims (n % m)) ∧ Fr [] W w1) := Lib.hid (fun W e w1 hr => by
      unfold QuoI at hr; rw [if_neg hm0] at hr; obtain ⟨a, c, a2, c2, h1, _, h2, h3⟩ := hr; exact ⟨a, c, a2, c2, h1, h2, h3⟩)
    have hlt : n % m < m := Nat.mod_lt _ (by omega)
    by_cases hst : n % m = 0 ∨ sg s (n % m) = s2
    · have D : Hid (∀ W a c, In W a c (lims (n % m)) → Fr [] w W → ModI w s n s2 m (.returned (.tuple #[.agg #[.bool (sg s (n % m)), .slice a (lims (n % m)).length c], .int .i64 0])) W) := Lib.hid (fun W a c h1 h2 => by
        have e : modP s n s2 m = (sg s (n % m), n % m) := by unfold modP; rw [if_pos hst]
        unfold ModI; rw [if_neg hm0, e]; exact ⟨a, c, rfl, h1, h2⟩)
      have hz0 : n % m = 0 → (((lims (n % m)).length : Int) == 0) = true ∧ ¬ (0 : Int) < ((lims (n % m)).length : Int) := fun e => by rw [e]; decide
      have hz1 : n % m ≠ 0 → (((lims (n % m)).length : Int) == 0) = false ∧ (0 : Int) < ((lims (n % m)).length : Int) := fun e => by have := lims_len_pos.2 e; rw [beq_eq_false_iff_ne]; omega
      generalize sg (s != s2) (n / m) = sq1 at *
      generalize n / m = q at *
      generalize sg s (n % m) = sr at *
      generalize n % m = r at *
      by_cases hr0 : r = 0
      · obtain ⟨hz, hzp⟩ := hz0 hr0
        clear hz0 hz1 hr0 hst hm0 hlt hl hl2
        go_enter Tryz.func63, Tryz.ntmps63
        go_wp2_with fail
        refine CD.out.mono ?_
        intro e w1 hr
        obtain ⟨a3, c3, a4, c4, rfl, J4, F1⟩ := RES.out _ _ _ hr
        replace P := Lib.hid (P.out.fr F1)
        replace pc0 := P.out.c0
        replace pc1 := P.out.c1
        replace pl := P.out.lt
        replace Q := Lib.hid (Q.out.fr F1)
        replace qc0 := Q.out.c0
        replace qc1 := Q.out.c1
        replace ql := Q.out.lt
        replace R := Lib.hid (R.out.fr F1)
        replace rc0 := R.out.c0
        replace rc1 := R.out.c1
        replace rl := R.out.lt
        replace rf0 := R.out.f 0
        replace rf1 := R.out.f 1
        have KF := Lib.hid (F0.out.same F1)
        have kz := KF.out.size
        have J4 := Lib.hid J4
        clear hr CD RES
        go_wp2_with fail
        refine bodyPost_ret (ret_iv2 rfl _ _ _ _ _ rfl ((R.out.set _ _).fr (((Fr.refl [] _).alloc _).alloc _))) rfl ?_
        exact D.out _ _ _ ((J4.out.set2 R.out _ _).keep (((Fr.refl [] _).alloc _).alloc _)) (((KF.out.set2 (by omega) _ _).alloc _).alloc _)
      · obtain ⟨hz, hzp⟩ := hz1 hr0
        obtain rfl : sr = s2 := hst.resolve_left hr0
        have ES : (sr == sr) = true := beq_self_eq_true sr
        have EN : (sr != sr) = false := by simp
        clear hz0 hz1 hr0 hst hm0 hlt hl hl2
        go_enter Tryz.func63, Tryz.ntmps63
        go_wp2_with fail
        refine CD.out.mono ?_
        intro e w1 hr
        obtain ⟨a3, c3, a4, c4, rfl, J4, F1⟩ := RES.out _ _ _ hr
        replace P := Lib.hid (P.out.fr F1)
        replace pc0 := P.out.c0
        replace pc1 := P.out.c1
        replace pl := P.out.lt
        replace Q := Lib.hid (Q.out.fr F1)
        replace qc0 := Q.out.c0
        replace qc1 := Q.out.c1
        replace ql := Q.out.lt
        replace R := Lib.hid (R.out.fr F1)
        replace rc0 := R.out.c0
        replace rc1 := R.out.c1
        replace rl := R.out.lt
        replace rf0 := R.out.f 0
        replace rf1 := R.out.f 1
        have KF := Lib.hid (F0.out.same F1)
        have kz := KF.out.size
        have J4 := Lib.hid J4
        clear hr CD RES
        go_wp2_with fail
        refine bodyPost_ret (ret_iv2 rfl _ _ _ _ _ rfl ((R.out.set _ _).fr (((Fr.refl [] _).alloc _).alloc _))) rfl ?_
        exact D.out _ _ _ ((J4.out.set2 R.out _ _).keep (((Fr.refl [] _).alloc _).alloc _)) (((KF.out.set2 (by omega) _ _).alloc _).alloc _)
    · have e0 : modP s n s2 m = addP (sg s (n % m)) (n % m) s2 m := by unfold modP; rw [if_neg hst]
      have hr0 : n % m ≠ 0 := fun e => hst (.inl e)
      have hs0 : sg s (n % m) ≠ s2 := fun e => hst (.inr e)
      have hz : (((lims (n % m)).length : Int) == 0) = false := by have := lims_len_pos.2 hr0; rw [beq_eq_false_iff_ne]; omega
      have hzp : (0 : Int) < ((lims (n % m)).length : Int) := by have := lims_len_pos.2 hr0; omega
      have D : Hid (∀ W a c, In W a c (lims (addP (sg s (n % m)) (n % m) s2 m).2) → Fr [] w W → ModI w s n s2 m (.returned (.tuple #[.agg #[.bool (addP (sg s (n % m)) (n % m) s2 m).1, .slice a (lims (addP (sg s (n % m)) (n % m) s2 m).2).length c], .int .i64 0])) W) := Lib.hid (fun W a c h1 h2 => by
        unfold ModI; rw [if_neg hm0, e0]; exact ⟨a, c, rfl, h1, h2⟩)
      have CA : Hid (∀ W a4 c4, Fr [] w W → In W a4 c4 (lims (n % m)) → Calls Tryz.prog 97 #[.agg #[.bool (sg s (n % m)), .slice a4 (lims (n % m)).length c4], .agg #[.bool s2, .slice b (lims m).length cap2]] W (GivesI W (addP (sg s (n % m)) (n % m) s2 m).1 (addP (sg s (n % m)) (n % m) s2 m).2)) := Lib.hid (fun W a4 c4 hW hI => r2plus_c W (sg s (n % m)) s2 (n % m) m hI (H2.out.keep hW) (Nat.le_trans (len_le (Nat.le_of_lt hlt)) (by omega)) (by omega))
      have ES : (sg s (n % m) == s2) = false := by simpa using hs0
      have EN : (sg s (n % m) != s2) = true := by simpa using hs0
      generalize (addP (sg s (n % m)) (n % m) s2 m).1 = sx at *
      generalize (addP (sg s (n % m)) (n % m) s2 m).2 = x at *
      generalize sg (s != s2) (n / m) = sq1 at *
      generalize n / m = q at *
      generalize sg s (n % m) = sr at *
      generalize n % m = r at *
      clear e0 hr0 hs0 hst hm0 hlt hl hl2
      go_enter Tryz.func63, Tryz.ntmps63
      go_wp2_with fail
      refine CD.out.mono ?_
      intro e w1 hr
      obtain ⟨a3, c3, a4, c4, rfl, J4, F1⟩ := RES.out _ _ _ hr
      replace P := Lib.hid (P.out.fr F1)
      replace pc0 := P.out.c0
      replace pc1 := P.out.c1
      replace pl := P.out.lt
      replace Q := Lib.hid (Q.out.fr F1)
      replace qc0 := Q.out.c0
      replace qc1 := Q.out.c1
      replace ql := Q.out.lt
      replace R := Lib.hid (R.out.fr F1)
      replace rc0 := R.out.c0
      replace rc1 := R.out.c1
      replace rl := R.out.lt
      replace rf0 := R.out.f 0
      replace rf1 := R.out.f 1
      have KF := Lib.hid (F0.out.same F1)
      have kz := KF.out.size
      have hk3 := R.out.lt
      have J4 := Lib.hid J4
      clear hr CD RES
      go_wp2_with fail
      refine (CA.out _ _ _ ((KF.out.alloc _).alloc _) (J4.out.keep (((Fr.refl [] _).alloc _).alloc _))).mono ?_
      rintro e w3 ⟨a5, c5, rfl, J5, F3⟩
      have J5 := Lib.hid J5
      have F3 := Lib.hid F3
      have T := Lib.hid (((Bx.new (w1.alloc (.cells #[.bool sq1, .slice a3 (lims q).length c3] 25)) (.bool sr) (.slice a4 (lims r).length c4)).eq (k' := w1.heap.size + 1) (by simp)).fr F3.out)
      replace P := Lib.hid (P.out.fr ((((Fr.refl [] _).alloc _).alloc _).same F3.out))
      replace Q := Lib.hid (Q.out.fr ((((Fr.refl [] _).alloc _).alloc _).same F3.out))
      replace R := Lib.hid (R.out.fr ((((Fr.refl [] _).alloc _).alloc _).same F3.out))
      replace pc0 := P.out.c0
      replace pc1 := P.out.c1
      replace pl := P.out.lt
      replace qc0 := Q.out.c0
      replace qc1 := Q.out.c1
      replace ql := Q.out.lt
      replace rc0 := R.out.c0
      replace rc1 := R.out.c1
      replace rl := R.out.lt
      replace rf0 := R.out.f 0
      replace rf1 := R.out.f 1
      have tc0 := T.out.c0
      have tc1 := T.out.c1
      have tl := T.out.lt
      have tf0 := T.out.f 0
      have tf1 := T.out.f 1
      have KF := Lib.hid (((KF.out.alloc _).alloc _).same F3.out)
      clear F3
      go_wp2_with fail
      have U := Lib.hid (R.out.other (k2 := w1.heap.size + 1) (by omega) (.bool sx) (.slice a5 (lims x).length c5))
      refine bodyPost_ret (ret_iv2 rfl _ _ _ _ _ rfl (U.out.set _ _)) rfl ?_
      exact D.out _ _ _ ((J5.out.set2 T.out _ _).set2 U.out _ _) ((KF.out.set2 (by omega) _ _).set2 (by omega) _ _)
end Go.Proofs.YtjdanblijcdllaaGreatDoor
