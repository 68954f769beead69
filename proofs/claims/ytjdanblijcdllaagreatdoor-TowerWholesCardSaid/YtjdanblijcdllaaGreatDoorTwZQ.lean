import Derived.Test.YtjdanblijcdllaaGreatDoorExaO
import Derived.ScopeJumps
import Derived.WalkMore
import Derived.Deep.LoopGhost
import Derived.Deep.RegionHeld3
import Derived.Test.YtjdanblijcdllaaGreatDoorLimbS
import Derived.Test.YtjdanblijcdllaaGreatDoorTwQ
/- Exact: the greatest common divisor. -/
set_option linter.all false
namespace Go.Proofs.YtjdanblijcdllaaGreatDoor
open Go.ChangeShapes Go.WideShapes Go.RowKit
variable {w w' w2 wr : World} {a b : Option Addr} {cap cap2 : Nat} {L M : List Nat} {B : Nat}
/-- A scope with jumps back to one label: what holds at a jump bears a number, which every pass lowers. -/
theorem wp_scope_ghost {P : Program} {a : Act} {w : World} {Q : Exit → Act → World → Prop} {c rest : Code} (l : Nat) (J : Nat → Act → World → Prop) (hf : findLabel c l = some rest)
    (first : c.wp P (Exit.jump l (fun a w => ∃ n, J n a w) Q) a w)
    (pass : ∀ n a w, J n a w → rest.wp P (Exit.jump l (fun a' w' => ∃ n', n' < n ∧ J n' a' w') Q) a w) : (Code.scope c).wp P Q a w := by
  refine wp_scope_jumps l (fun a w => ∃ n, J n a w) (fun a w => leastOf (fun n => J n a w)) hf first ?_
  intro a w hJ
  refine wp_mono (pass _ a w (leastOf_spec hJ).1) ?_
  intro e a' w' hq
  cases e with
  | goto l' =>
    obtain ⟨h1, n', hlt, h2⟩ := hq
    exact ⟨h1, ⟨n', h2⟩, Nat.lt_of_le_of_lt ((leastOf_spec ⟨n', h2⟩).2 n' h2) hlt⟩
  | normal => exact hq
  | exit id => exact hq
  | ret => exact hq
  | panic ch => exact hq
  | outgrown => exact hq
set_option maxRecDepth 100000 in
set_option maxHeartbeats 4000000 in
theorem r2gcd_c (w : World) (s s2 : Bool) (n m : Nat) (h : In w a cap (lims n)) (h2 : In w b cap2 (lims m)) (hl : (lims n).length ≤ 64) (hl2 : (lims m).length ≤ 64) : Calls Tryz.prog 64 #[.agg #[.bool s, .slice a (lims n).length cap], .agg #[.bool s2, .slice b (lims m).length cap2]] w (GivesI w false (Nat.gcd n m)) := by
  have H := Lib.hid h
  have H2 := Lib.hid h2
  clear h h2
  have F0 : Hid (Fr [] w (((w.alloc (.cells #[.bool s, .slice a (lims n).length cap] 25)).alloc (.cells #[.bool s2, .slice b (lims m).length cap2] 25)).alloc (.cells #[.bool false, .slice none 0 0] 25))) := Lib.hid ((((Fr.refl [] w).alloc _).alloc _).alloc _)
  have P : Hid (Bx (((w.alloc (.cells #[.bool s, .slice a (lims n).length cap] 25)).alloc (.cells #[.bool s2, .slice b (lims m).length cap2] 25)).alloc (.cells #[.bool false, .slice none 0 0] 25)) (w.heap.size) (.bool s) (.slice a (lims n).length cap)) := Lib.hid ((Bx.new _ _ _).fr (((Fr.refl [] _).alloc _).alloc _))
  have Q : Hid (Bx (((w.alloc (.cells #[.bool s, .slice a (lims n).length cap] 25)).alloc (.cells #[.bool s2, .slice b (lims m).length cap2] 25)).alloc (.cells #[.bool false, .slice none 0 0] 25)) (w.heap.size + 1) (.bool s2) (.slice b (lims m).length cap2)) := Lib.hid (((Bx.new _ _ _).eq (by simp)).fr ((Fr.refl [] _).alloc _))
  have R : Hid (Bx (((w.alloc (.cells #[.bool s, .slice a (lims n).length cap] 25)).alloc (.cells #[.bool s2, .slice b (lims m).length cap2] 25)).alloc (.cells #[.bool false, .slice none 0 0] 25)) (w.heap.size + 2) (.bool false) (.slice none 0 0)) := Lib.hid (((Bx.new _ _ _).eq (by simp)).fr (Fr.refl [] _))
  replace pc0 := P.out.c0
  replace pc1 := P.out.c1
  replace pl := P.out.lt
  replace qc0 := Q.out.c0
  replace qc1 := Q.out.c1
  replace ql := Q.out.lt
  replace rc0 := R.out.c0
  replace rc1 := R.out.c1
  replace rl := R.out.lt
  replace rf0 := R.out.f 0
  replace rf1 := R.out.f 1
  have D : Hid (∀ W a c, In W a c (lims (Nat.gcd n m)) → Fr [] w W → GivesI w false (Nat.gcd n m) (.returned (.agg #[.bool false, .slice a (lims (Nat.gcd n m)).length c])) W) := Lib.hid (fun W a c h1 h2 => ⟨a, c, rfl, h1, h2⟩)
  have FD := Lib.hid (F0.out.drew)
  have ID1 := Lib.hid (H.out.keep FD.out)
  have ID2 := Lib.hid (H2.out.keep FD.out)
  have RD := Lib.hid (R.out.fr (Fr.refl [] _).drew)
  have CM : Hid (∀ W a1 c1 x, In W a1 c1 (lims x) → Calls Tryz.prog 111 #[.bool false, .slice a1 (lims x).length c1] W (GivesI W false x)) := Lib.hid (fun W a1 c1 x h => by
    have := made_c W false x h
    rwa [sg_false] at this)
  have CD : Hid (∀ W a1 c1 x a2 c2 k, In W a1 c1 (lims x) → In W a2 c2 (lims k) → (lims x).length ≤ 64 → k ≠ 0 → Calls Tryz.prog 116 #[.slice a1 (lims x).length c1, .slice a2 (lims k).length c2] W fun e w' => ∃ a3 c3 a4 c4, e = .returned (.tuple #[.slice a3 (lims (x / k)).length c3, .slice a4 (lims (x % k)).length c4]) ∧ In w' a4 c4 (lims (x % k)) ∧ Fr [] W w') := Lib.hid (fun W a1 c1 x a2 c2 k h1 h2 hx hk => by
    have := r1split_c W h1 h2 (by omega) (by rw [val_lims]; exact hk)
    rw [val_lims, val_lims] at this
    refine this.mono ?_
    rintro e w' ⟨a3, c3, a4, c4, h1, h2, h3, h4⟩
    exact ⟨a3, c3, a4, c4, h1, h3.in, h4⟩)
  have GC : Hid (∀ x k, Nat.gcd x k = Nat.gcd n m → Nat.gcd k (x % k) = Nat.gcd n m) := Lib.hid (fun x k h => by rw [← h, Nat.gcd_comm x k, Nat.gcd_rec k x, Nat.gcd_comm]) 
  have GZ : Hid (∀ x, Nat.gcd x 0 = Nat.gcd n m → x = Nat.gcd n m) := Lib.hid (fun x h => by rw [← h, Nat.gcd_zero_right])
  obtain ⟨G, hG⟩ : ∃ G, G = Nat.gcd n m := ⟨_, rfl⟩
  have G0 : Hid (Nat.gcd n m = G) := Lib.hid hG.symm
  rw [← hG] at D GC GZ ⊢
  clear hG
  go_enter Tryz.func64, Tryz.ntmps64
  go_wp2_with fail
  go_region_held3 (fun W => W.cell? ⟨w.heap.size, 0, none⟩ = some (.bool s) ∧ W.cell? ⟨w.heap.size, 1, none⟩ = some (.slice a (lims n).length cap) ∧ W.cell? ⟨w.heap.size + 1, 0, none⟩ = some (.bool s2) ∧ W.cell? ⟨w.heap.size + 1, 1, none⟩ = some (.slice b (lims m).length cap2)) (exact Bx.c4 (P.out.fr (Fr.refl [] _).drew) (Q.out.fr (Fr.refl [] _).drew)) (fail)
  go_wp2_with fail
  go_loopg [5, 6, 7, 8] m (fun k s5 s6 _ _ wr => ∃ (a1 : Option Addr) (c1 x : Nat) (a2 : Option Addr) (c2 : Nat), s5 = .slice a1 (lims x).length c1 ∧ s6 = .slice a2 (lims k).length c2 ∧ Hid (In wr a1 c1 (lims x)) ∧ Hid (In wr a2 c2 (lims k)) ∧ Hid (Nat.gcd x k = G) ∧ Hid ((lims x).length ≤ 64 ∧ (lims k).length ≤ 64) ∧ Hid (Bx wr (w.heap.size + 2) (.bool false) (.slice none 0 0)) ∧ Hid (Fr [] w wr))
  case atStart => exact ⟨a, cap, n, b, cap2, rfl, rfl, ID1, ID2, G0, Lib.hid ⟨hl, hl2⟩, RD, FD⟩
  case round =>
    obtain ⟨a1, c1, x, a2, c2, rfl, rfl, J1, J2, HG, HL, R, FW⟩ := hrel
    clear P Q pc0 pc1 pl qc0 qc1 ql rc0 rc1 rl rf0 rf1 F0 FD ID1 ID2 RD H H2 hl hl2 G0
    have rc0 := R.out.c0
    have rc1 := R.out.c1
    have rl := R.out.lt
    have rf0 := R.out.f 0
    have rf1 := R.out.f 1
    by_cases hk : gk = 0
    · subst hk
      have hz : ¬ (0 : Int) < ((lims 0).length : Int) := by decide
      have hx := GZ.out _ HG.out
      subst hx
      clear HG HL J2 CD GC GZ
      go_wp2_with fail
      refine (CM.out _ _ _ _ J1.out).mono ?_
      rintro e w2 ⟨a5, c5, rfl, J5, F2⟩
      have J5 := Lib.hid J5
      replace R := Lib.hid (R.out.fr F2)
      replace rc0 := R.out.c0
      replace rc1 := R.out.c1
      replace rl := R.out.lt
      replace rf0 := R.out.f 0
      replace rf1 := R.out.f 1
      have FW := Lib.hid (FW.out.same F2)
      clear F2 J1 CM
      go_wp2
      refine bodyPost_ret (ret_iv rfl _ _ _ _ _ rfl (R.out.set _ _)) rfl ?_
      exact D.out _ _ _ (J5.out.set2 R.out _ _) (FW.out.set2 (by omega) _ _)
    · have hz : (0 : Int) < ((lims gk).length : Int) := by have := lims_len_pos.2 hk; omega
      have CK := Lib.hid (CD.out wr a1 c1 x a2 c2 gk J1.out J2.out HL.out.1 hk)
      have HN := Lib.hid (GC.out _ _ HG.out)
      have HM := Lib.hid (Nat.mod_lt x (Nat.pos_of_ne_zero hk))
      have HL2 : Hid ((lims gk).length ≤ 64 ∧ (lims (x % gk)).length ≤ 64) := Lib.hid ⟨HL.out.2, Nat.le_trans (len_le (Nat.le_of_lt HM.out)) HL.out.2⟩
      obtain ⟨q, hq⟩ : ∃ q, q = x / gk := ⟨_, rfl⟩
      obtain ⟨r, hr⟩ : ∃ r, r = x % gk := ⟨_, rfl⟩
      rw [← hq, ← hr] at CK
      rw [← hr] at HN HM HL2
      clear hk hq hr HG HL CD GC GZ
      go_wp2_with fail
      refine CK.out.mono ?_
      rintro e w2 ⟨a3, c3, a4, c4, rfl, J4, F2⟩
      have J4 := Lib.hid J4
      have R2 := Lib.hid (R.out.fr F2)
      have J3 := Lib.hid (J2.out.keep F2)
      have FW2 := Lib.hid (FW.out.same F2)
      clear F2 J1 CK
      go_wp2_with fail
      go_roundg r
      case measure => exact HM.out
      case rel => exact ⟨a2, c2, gk, a4, c4, rfl, rfl, J3, J4, HN, HL2, R2, FW2⟩
set_option maxRecDepth 100000 in
set_option maxHeartbeats 4000000 in
theorem egcd_c (w : World) (s s2 : Bool) (n m : Nat) (h : In w a cap (lims n)) (h2 : In w b cap2 (lims m)) (hn : fits n = true) (hm : fits m = true) : Calls Tryz.prog 60 #[.agg #[.bool s, .slice a (lims n).length cap], .agg #[.bool s2, .slice b (lims m).length cap2]] w (GivesI w false (Nat.gcd n m)) := by
  have H := Lib.hid h
  have H2 := Lib.hid h2
  clear h h2
  have F0 : Hid (Fr [] w (((w.alloc (.cells #[.bool s, .slice a (lims n).length cap] 25)).alloc (.cells #[.bool s2, .slice b (lims m).length cap2] 25)).alloc (.cells #[.bool false, .slice none 0 0] 25))) := Lib.hid ((((Fr.refl [] w).alloc _).alloc _).alloc _)
  have P : Hid (Bx (((w.alloc (.cells #[.bool s, .slice a (lims n).length cap] 25)).alloc (.cells #[.bool s2, .slice b (lims m).length cap2] 25)).alloc (.cells #[.bool false, .slice none 0 0] 25)) (w.heap.size) (.bool s) (.slice a (lims n).length cap)) := Lib.hid ((Bx.new _ _ _).fr (((Fr.refl [] _).alloc _).alloc _))
  have Q : Hid (Bx (((w.alloc (.cells #[.bool s, .slice a (lims n).length cap] 25)).alloc (.cells #[.bool s2, .slice b (lims m).length cap2] 25)).alloc (.cells #[.bool false, .slice none 0 0] 25)) (w.heap.size + 1) (.bool s2) (.slice b (lims m).length cap2)) := Lib.hid (((Bx.new _ _ _).eq (by simp)).fr ((Fr.refl [] _).alloc _))
  have R : Hid (Bx (((w.alloc (.cells #[.bool s, .slice a (lims n).length cap] 25)).alloc (.cells #[.bool s2, .slice b (lims m).length cap2] 25)).alloc (.cells #[.bool false, .slice none 0 0] 25)) (w.heap.size + 2) (.bool false) (.slice none 0 0)) := Lib.hid (((Bx.new _ _ _).eq (by simp)).fr (Fr.refl [] _))
  replace pc0 := P.out.c0
  replace pc1 := P.out.c1
  replace pl := P.out.lt
  replace qc0 := Q.out.c0
  replace qc1 := Q.out.c1
  replace ql := Q.out.lt
  replace rc0 := R.out.c0
  replace rc1 := R.out.c1
  replace rl := R.out.lt
  replace rf0 := R.out.f 0
  replace rf1 := R.out.f 1
  have D : Hid (∀ W a c, In W a c (lims (Nat.gcd n m)) → Fr [] w W → GivesI w false (Nat.gcd n m) (.returned (.agg #[.bool false, .slice a (lims (Nat.gcd n m)).length c])) W) := Lib.hid (fun W a c h1 h2 => ⟨a, c, rfl, h1, h2⟩)
  have CS : Hid (∀ W a1 c1 x, In W a1 c1 (lims x) → Calls Tryz.prog 110 #[.bool false, .slice a1 (lims x).length c1] W (GivesI W false x)) := Lib.hid (fun W a1 c1 x h => by
    have := signed_c W false x h
    rwa [sg_false] at this)
  have CT : Hid (∀ W, Fr [] w W → Calls Tryz.prog 85 #[.slice a (lims n).length cap] W (Gives W (lims n))) := Lib.hid (fun W hW => by
    have := ltrim_c W (H.out.keep hW)
    rwa [val_lims] at this)
  have CU : Hid (∀ W, Fr [] w W → Calls Tryz.prog 85 #[.slice b (lims m).length cap2] W (Gives W (lims m))) := Lib.hid (fun W hW => by
    have := ltrim_c W (H2.out.keep hW)
    rwa [val_lims] at this)
  have CD : Hid (∀ W a1 c1 x a2 c2 k, In W a1 c1 (lims x) → In W a2 c2 (lims k) → fits x = true → fits k = true → k ≠ 0 → Calls Tryz.prog 95 #[.slice a1 (lims x).length c1, .slice a2 (lims k).length c2] W fun e w' => ∃ a3 c3 a4 c4, e = .returned (.tuple #[.slice a3 (lims (x / k)).length c3, .slice a4 (lims (x % k)).length c4, .int .i64 0]) ∧ In w' a4 c4 (lims (x % k)) ∧ Fr [] W w') := Lib.hid (fun W a1 c1 x a2 c2 k h1 h2 hx hk0 hk => by
    have := ldiv_c W h1 h2
    rw [val_lims, val_lims] at this
    refine this.mono ?_
    intro e w' hr
    unfold DivR at hr
    rw [hx, hk0, if_neg (by simp), if_neg hk] at hr
    obtain ⟨a3, c3, a4, c4, h1, h2, h3, h4⟩ := hr
    exact ⟨a3, c3, a4, c4, h1, h3.in, h4⟩)
  have GC : Hid (∀ x k, Nat.gcd x k = Nat.gcd n m → Nat.gcd k (x % k) = Nat.gcd n m) := Lib.hid (fun x k h => by rw [← h, Nat.gcd_comm x k, Nat.gcd_rec k x, Nat.gcd_comm])
  have GZ : Hid (∀ x, Nat.gcd x 0 = Nat.gcd n m → x = Nat.gcd n m) := Lib.hid (fun x h => by rw [← h, Nat.gcd_zero_right])
  obtain ⟨G, hG⟩ : ∃ G, G = Nat.gcd n m := ⟨_, rfl⟩
  have G0 : Hid (Nat.gcd n m = G) := Lib.hid hG.symm
  rw [← hG] at D GC GZ ⊢
  clear hG
  go_enter Tryz.func60, Tryz.ntmps60
  go_wp2_with fail
  refine wp_scope_ghost 0 (fun k a' wr => ∃ (a1 : Option Addr) (c1 x : Nat) (a2 : Option Addr) (c2 : Nat) (u7 u8 u9 u10 u11 u12 u13 u14 u15 u16 u17 u18 u19 u20 u21 u22 u23 u24 u25 u26 u27 u28 u29 u30 u31 u32 : Value), a' = { tmps := #[.agg #[.bool s, .slice a (lims n).length cap], .agg #[.bool s2, .slice b (lims m).length cap2], .pointer (some ⟨w.heap.size, 0, none⟩), .pointer (some ⟨w.heap.size + 1, 0, none⟩), .pointer (some ⟨w.heap.size + 1 + 1, 0, none⟩), .slice a1 (lims x).length c1, .slice a2 (lims k).length c2, u7, u8, u9, u10, u11, u12, u13, u14, u15, u16, u17, u18, u19, u20, u21, u22, u23, u24, u25, u26, u27, u28, u29, u30, u31, u32], defers := [] } ∧ Hid (In wr a1 c1 (lims x)) ∧ Hid (In wr a2 c2 (lims k)) ∧ Hid (Nat.gcd x k = G) ∧ Hid (fits x = true ∧ fits k = true) ∧ Hid (Bx wr (w.heap.size + 2) (.bool false) (.slice none 0 0)) ∧ Hid (Fr [] w wr)) rfl ?_ ?_
  · go_wp2_with fail
    go_region_held3 (fun W => W.cell? ⟨w.heap.size, 0, none⟩ = some (.bool s) ∧ W.cell? ⟨w.heap.size, 1, none⟩ = some (.slice a (lims n).length cap) ∧ W.cell? ⟨w.heap.size + 1, 0, none⟩ = some (.bool s2) ∧ W.cell? ⟨w.heap.size + 1, 1, none⟩ = some (.slice b (lims m).length cap2)) (with_reducible first | exact Bx.c4 (P.out.fr (Fr.refl [] _).drew) (Q.out.fr (Fr.refl [] _).drew) | exact Bx.c4 P6.out Q6.out | exact Bx.c4 P5.out Q5.out) (first | (go_at_call_of 85 a; refine Calls.mono (CT.out _ F0.out.drew) ?_; rintro e w5 ⟨a1, c1, rfl, N5, G5⟩; have K5 := Lib.hid ((Fr.refl [] _).drew.same G5); have P5 := Lib.hid (P.out.fr K5.out); have Q5 := Lib.hid (Q.out.fr K5.out); have R5 := Lib.hid (R.out.fr K5.out)) | (go_at_call_of 85 b; refine Calls.mono (CU.out _ (F0.out.same K5.out)) ?_; rintro e w6 ⟨a2, c2, rfl, N6, G6⟩; have P6 := Lib.hid (P5.out.fr G6); have Q6 := Lib.hid (Q5.out.fr G6); have R6 := Lib.hid (R5.out.fr G6); have J1 := Lib.hid (N5.in.keep G6); have J2 := Lib.hid N6.in; have F6 := Lib.hid ((F0.out.same K5.out).same G6)))
    have HFF : Hid (fits n = true ∧ fits m = true) := Lib.hid ⟨hn, hm⟩
    clear P Q P5 Q5 P6 Q6 pc0 pc1 pl qc0 qc1 ql rc0 rc1 rl rf0 rf1 hn hm N5 N6 G5 G6 K5 R5 H H2 CT CU
    go_wp2_with fail
    go_step3
    have rc0 := R6.out.c0
    have rc1 := R6.out.c1
    have rl := R6.out.lt
    have rf0 := R6.out.f 0
    have rf1 := R6.out.f 1
    by_cases hk : m = 0
    · have HG2 := Lib.hid G0.out
      rw [hk] at HG2
      have hx := GZ.out _ HG2.out
      have hz : (((lims m).length : Int) == 0) = true := by rw [hk]; rfl
      have CK := Lib.hid (CS.out _ _ _ _ J1.out)
      have D2 : Hid (∀ W a c, In W a c (lims n) → Fr [] w W → GivesI w false G (.returned (.agg #[.bool false, .slice a (lims n).length c])) W) := Lib.hid (fun W a c h1 h2 => by rw [hx] at h1 ⊢; exact D.out W a c h1 h2)
      clear hx hk HG2 D
      go_wp2_with fail
      refine CK.out.mono ?_
      rintro e wq ⟨a5, c5, rfl, J5, F2⟩
      have J5 := Lib.hid J5
      have R9 := Lib.hid (R6.out.fr F2)
      have sc0 := R9.out.c0
      have sc1 := R9.out.c1
      have sl := R9.out.lt
      have sf0 := R9.out.f 0
      have sf1 := R9.out.f 1
      have FW9 := Lib.hid (F6.out.same F2)
      clear F2
      go_wp2
      simp only [Exit.jump]
      refine bodyPost_ret (ret_iv rfl _ _ _ _ _ rfl (R9.out.set _ _)) rfl ?_
      exact D2.out _ _ _ (J5.out.set2 R9.out _ _) (FW9.out.set2 (by omega) _ _)
    · have hz : (((lims m).length : Int) == 0) = false := by rw [beq_eq_false_iff_ne]; have := lims_len_pos.2 hk; omega
      have CK := Lib.hid (CD.out _ _ _ _ _ _ _ J1.out J2.out HFF.out.1 HFF.out.2 hk)
      have HN := Lib.hid (GC.out _ _ G0.out)
      have HM := Lib.hid (Nat.mod_lt n (Nat.pos_of_ne_zero hk))
      have HL2 : Hid (fits m = true ∧ fits (n % m) = true) := Lib.hid ⟨HFF.out.2, fits_le (Nat.le_of_lt HM.out) HFF.out.2⟩
      obtain ⟨q, hq⟩ : ∃ q, q = n / m := ⟨_, rfl⟩
      obtain ⟨r, hr⟩ : ∃ r, r = n % m := ⟨_, rfl⟩
      rw [← hq, ← hr] at CK
      rw [← hr] at HN HM HL2
      clear hk hq hr
      go_wp2_with fail
      refine CK.out.mono ?_
      rintro e wq ⟨a3, c3, a4, c4, rfl, J4, F2⟩
      have J4 := Lib.hid J4
      have R9 := Lib.hid (R6.out.fr F2)
      have J9 := Lib.hid (J2.out.keep F2)
      have FW9 := Lib.hid (F6.out.same F2)
      clear F2
      go_wp2
      go_step3
      exact ⟨rfl, r, _, _, _, _, _, _, _, _, _, _, _, _, _, _, _, _, _, _, _, _, _, _, _, _, _, _, _, _, _, _, _, rfl, J9, J4, HN, HL2, R9, FW9⟩
  · rintro k a' wr ⟨a1, c1, x, a2, c2, u7, u8, u9, u10, u11, u12, u13, u14, u15, u16, u17, u18, u19, u20, u21, u22, u23, u24, u25, u26, u27, u28, u29, u30, u31, u32, rfl, J1, J2, HG, HFF, R, FW⟩
    clear P Q pc0 pc1 pl qc0 qc1 ql rc0 rc1 rl rf0 rf1 F0 H H2 hn hm G0 CT CU
    have rc0 := R.out.c0
    have rc1 := R.out.c1
    have rl := R.out.lt
    have rf0 := R.out.f 0
    have rf1 := R.out.f 1
    by_cases hk : k = 0
    · have HG2 := Lib.hid HG.out
      rw [hk] at HG2
      have hx := GZ.out _ HG2.out
      have hz : (((lims k).length : Int) == 0) = true := by rw [hk]; rfl
      have CK := Lib.hid (CS.out _ _ _ _ J1.out)
      have D2 : Hid (∀ W a c, In W a c (lims x) → Fr [] w W → GivesI w false G (.returned (.agg #[.bool false, .slice a (lims x).length c])) W) := Lib.hid (fun W a c h1 h2 => by rw [hx] at h1 ⊢; exact D.out W a c h1 h2)
      clear hx hk HG2 D
      go_wp2_with fail
      refine CK.out.mono ?_
      rintro e wq ⟨a5, c5, rfl, J5, F2⟩
      have J5 := Lib.hid J5
      have R9 := Lib.hid (R.out.fr F2)
      have sc0 := R9.out.c0
      have sc1 := R9.out.c1
      have sl := R9.out.lt
      have sf0 := R9.out.f 0
      have sf1 := R9.out.f 1
      have FW9 := Lib.hid (FW.out.same F2)
      clear F2
      go_wp2
      simp only [Exit.jump]
      refine bodyPost_ret (ret_iv rfl _ _ _ _ _ rfl (R9.out.set _ _)) rfl ?_
      exact D2.out _ _ _ (J5.out.set2 R9.out _ _) (FW9.out.set2 (by omega) _ _)
    · have hz : (((lims k).length : Int) == 0) = false := by rw [beq_eq_false_iff_ne]; have := lims_len_pos.2 hk; omega
      have CK := Lib.hid (CD.out _ _ _ _ _ _ _ J1.out J2.out HFF.out.1 HFF.out.2 hk)
      have HN := Lib.hid (GC.out _ _ HG.out)
      have HM := Lib.hid (Nat.mod_lt x (Nat.pos_of_ne_zero hk))
      have HL2 : Hid (fits k = true ∧ fits (x % k) = true) := Lib.hid ⟨HFF.out.2, fits_le (Nat.le_of_lt HM.out) HFF.out.2⟩
      obtain ⟨q, hq⟩ : ∃ q, q = x / k := ⟨_, rfl⟩
      obtain ⟨r, hr⟩ : ∃ r, r = x % k := ⟨_, rfl⟩
      rw [← hq, ← hr] at CK
      rw [← hr] at HN HM HL2
      clear hk hq hr
      go_wp2_with fail
      refine CK.out.mono ?_
      rintro e wq ⟨a3, c3, a4, c4, rfl, J4, F2⟩
      have J4 := Lib.hid J4
      have R9 := Lib.hid (R.out.fr F2)
      have J9 := Lib.hid (J2.out.keep F2)
      have FW9 := Lib.hid (FW.out.same F2)
      clear F2
      go_wp2
      go_step3
      exact ⟨rfl, r, HM.out, _, _, _, _, _, _, _, _, _, _, _, _, _, _, _, _, _, _, _, _, _, _, _, _, _, _, _, _, _, _, _, rfl, J9, J4, HN, HL2, R9, FW9⟩
end Go.Proofs.YtjdanblijcdllaaGreatDoor
/- Exact: the int of a number; which can be. -/
namespace Go.Proofs.YtjdanblijcdllaaGreatDoor
open Go.ChangeShapes Go.WideShapes Go.RowKit
variable {w w' w2 wr : World} {a b : Option Addr} {cap cap2 : Nat} {L M : List Nat} {B : Nat}
/-- Is it an int; the int. -/
def smB (s : Bool) (n : Nat) : Bool := match s with | true => decide (n ≤ 9223372036854775808) | false => decide (n ≤ 9223372036854775807)
def smV (s : Bool) (n : Nat) : Int := match s with | true => -(n : Int) | false => (n : Int)
def SmallI (w : World) (s : Bool) (n : Nat) (e : Ending) (w' : World) : Prop :=
  (if smB s n = true then e = .returned (.tuple #[.int .i64 (smV s n), .bool true]) else e = .returned (.tuple #[.int .i64 0, .bool false])) ∧ Fr [] w w'
theorem neg_back {n : Nat} (h : n ≤ 9223372036854775808) : wrap64 (IntKind.u64.wrap (-(n : Int))) = -(n : Int) := by
  simp only [wrap64, IntKind.wrap, IntKind.bits, IntKind.signed]
  by_cases h0 : n = 0
  · subst h0; decide
  · simp; omega
theorem pos_back {n : Nat} (h : n ≤ 9223372036854775807) : wrap64 (n : Int) = (n : Int) := by
  simp only [wrap64]
  omega
theorem esmall_true (w : World) (n : Nat) (h : In w a cap (lims n)) : Calls Tryz.prog 114 #[.agg #[.bool true, .slice a (lims n).length cap]] w (SmallI w true n) := by
  have H := Lib.hid h
  clear h
  have F0 : Hid (Fr [] w (w.alloc (.cells #[.bool true, .slice a (lims n).length cap] 25))) := Lib.hid ((Fr.refl [] w).alloc _)
  have P : Hid (Bx (w.alloc (.cells #[.bool true, .slice a (lims n).length cap] 25)) w.heap.size (.bool true) (.slice a (lims n).length cap)) := Lib.hid (Bx.new _ _ _)
  have CS := Lib.hid (small_c _ (H.out.keep F0.out))
  rw [val_lims] at CS
  by_cases hb : n < 18446744073709551616
  · have RES : Hid (∀ W e w1, SmallR W n e w1 → e = .returned (.tuple #[.int .u64 (n : Int), .bool true]) ∧ Fr [] W w1) := Lib.hid (fun W e w1 h => by unfold SmallR at h; rwa [if_pos hb] at h)
    by_cases hs : n ≤ 9223372036854775808
    · have D : Hid (∀ W, Fr [] w W → SmallI w true n (.returned (.tuple #[.int .i64 (-(n : Int)), .bool true])) W) := Lib.hid (fun W h => by unfold SmallI smB smV; rw [if_pos (decide_eq_true hs)]; exact ⟨rfl, h⟩)
      have HV := Lib.hid (neg_back hs)
      have hsI : (n : Int) ≤ 9223372036854775808 := by omega
      clear hb
      go_enter Tryz.func114, Tryz.ntmps114
      go_wp2_with fail
      refine CS.out.mono ?_
      intro e w1 h
      obtain ⟨rfl, F1⟩ := RES.out _ _ _ h
      have P1 := Lib.hid (P.out.fr F1)
      have pc0 := P1.out.c0
      have pc1 := P1.out.c1
      have FW := Lib.hid (F0.out.same F1)
      clear h F1
      go_wp2
      go_ret2
      have D2 := D.out _ FW.out
      first | exact D2 | (rw [← HV.out] at D2; exact D2)
    · have D : Hid (∀ W, Fr [] w W → SmallI w true n (.returned (.tuple #[.int .i64 0, .bool false])) W) := Lib.hid (fun W h => by unfold SmallI smB; rw [if_neg (by simp only [decide_eq_true_eq]; exact hs)]; exact ⟨rfl, h⟩)
      have hsI : ¬ (n : Int) ≤ 9223372036854775808 := by omega
      clear hb
      go_enter Tryz.func114, Tryz.ntmps114
      go_wp2_with fail
      refine CS.out.mono ?_
      intro e w1 h
      obtain ⟨rfl, F1⟩ := RES.out _ _ _ h
      have P1 := Lib.hid (P.out.fr F1)
      have pc0 := P1.out.c0
      have pc1 := P1.out.c1
      have FW := Lib.hid (F0.out.same F1)
      clear h F1
      go_wp2
      go_ret2
      exact D.out _ FW.out
  · have RES : Hid (∀ W e w1, SmallR W n e w1 → e = .returned (.tuple #[.int .u64 0, .bool false]) ∧ Fr [] W w1) := Lib.hid (fun W e w1 h => by unfold SmallR at h; rwa [if_neg hb] at h)
    have D : Hid (∀ W, Fr [] w W → SmallI w true n (.returned (.tuple #[.int .i64 0, .bool false])) W) := Lib.hid (fun W h => by unfold SmallI smB; rw [if_neg (by simp only [decide_eq_true_eq]; omega)]; exact ⟨rfl, h⟩)
    clear hb
    go_enter Tryz.func114, Tryz.ntmps114
    go_wp2_with fail
    refine CS.out.mono ?_
    intro e w1 h
    obtain ⟨rfl, F1⟩ := RES.out _ _ _ h
    have P1 := Lib.hid (P.out.fr F1)
    have pc0 := P1.out.c0
    have pc1 := P1.out.c1
    have FW := Lib.hid (F0.out.same F1)
    clear h F1
    go_wp2
    go_ret2
    exact D.out _ FW.out
theorem esmall_false (w : World) (n : Nat) (h : In w a cap (lims n)) : Calls Tryz.prog 114 #[.agg #[.bool false, .slice a (lims n).length cap]] w (SmallI w false n) := by
  have H := Lib.hid h
  clear h
  have F0 : Hid (Fr [] w (w.alloc (.cells #[.bool false, .slice a (lims n).length cap] 25))) := Lib.hid ((Fr.refl [] w).alloc _)
  have P : Hid (Bx (w.alloc (.cells #[.bool false, .slice a (lims n).length cap] 25)) w.heap.size (.bool false) (.slice a (lims n).length cap)) := Lib.hid (Bx.new _ _ _)
  have CS := Lib.hid (small_c _ (H.out.keep F0.out))
  rw [val_lims] at CS
  by_cases hb : n < 18446744073709551616
  · have RES : Hid (∀ W e w1, SmallR W n e w1 → e = .returned (.tuple #[.int .u64 (n : Int), .bool true]) ∧ Fr [] W w1) := Lib.hid (fun W e w1 h => by unfold SmallR at h; rwa [if_pos hb] at h)
    by_cases hs : n ≤ 9223372036854775807
    · have D : Hid (∀ W, Fr [] w W → SmallI w false n (.returned (.tuple #[.int .i64 ((n : Int)), .bool true])) W) := Lib.hid (fun W h => by unfold SmallI smB smV; rw [if_pos (decide_eq_true hs)]; exact ⟨rfl, h⟩)
      have HV := Lib.hid (pos_back hs)
      have hsI : (n : Int) ≤ 9223372036854775807 := by omega
      clear hb
      go_enter Tryz.func114, Tryz.ntmps114
      go_wp2_with fail
      refine CS.out.mono ?_
      intro e w1 h
      obtain ⟨rfl, F1⟩ := RES.out _ _ _ h
      have P1 := Lib.hid (P.out.fr F1)
      have pc0 := P1.out.c0
      have pc1 := P1.out.c1
      have FW := Lib.hid (F0.out.same F1)
      clear h F1
      go_wp2
      go_ret2
      have D2 := D.out _ FW.out
      first | exact D2 | (rw [← HV.out] at D2; exact D2)
    · have D : Hid (∀ W, Fr [] w W → SmallI w false n (.returned (.tuple #[.int .i64 0, .bool false])) W) := Lib.hid (fun W h => by unfold SmallI smB; rw [if_neg (by simp only [decide_eq_true_eq]; exact hs)]; exact ⟨rfl, h⟩)
      have hsI : ¬ (n : Int) ≤ 9223372036854775807 := by omega
      clear hb
      go_enter Tryz.func114, Tryz.ntmps114
      go_wp2_with fail
      refine CS.out.mono ?_
      intro e w1 h
      obtain ⟨rfl, F1⟩ := RES.out _ _ _ h
      have P1 := Lib.hid (P.out.fr F1)
      have pc0 := P1.out.c0
      have pc1 := P1.out.c1
      have FW := Lib.hid (F0.out.same F1)
      clear h F1
      go_wp2
      go_ret2
      exact D.out _ FW.out
  · have RES : Hid (∀ W e w1, SmallR W n e w1 → e = .returned (.tuple #[.int .u64 0, .bool false]) ∧ Fr [] W w1) := Lib.hid (fun W e w1 h => by unfold SmallR at h; rwa [if_neg hb] at h)
    have D : Hid (∀ W, Fr [] w W → SmallI w false n (.returned (.tuple #[.int .i64 0, .bool false])) W) := Lib.hid (fun W h => by unfold SmallI smB; rw [if_neg (by simp only [decide_eq_true_eq]; omega)]; exact ⟨rfl, h⟩)
    clear hb
    go_enter Tryz.func114, Tryz.ntmps114
    go_wp2_with fail
    refine CS.out.mono ?_
    intro e w1 h
    obtain ⟨rfl, F1⟩ := RES.out _ _ _ h
    have P1 := Lib.hid (P.out.fr F1)
    have pc0 := P1.out.c0
    have pc1 := P1.out.c1
    have FW := Lib.hid (F0.out.same F1)
    clear h F1
    go_wp2
    go_ret2
    exact D.out _ FW.out
theorem esmall_c (w : World) (s : Bool) (n : Nat) (h : In w a cap (lims n)) : Calls Tryz.prog 114 #[.agg #[.bool s, .slice a (lims n).length cap]] w (SmallI w s n) := by
  cases s with
  | true => exact esmall_true w n h
  | false => exact esmall_false w n h
theorem small_law_pos {n : Nat} (h : n < 18446744073709551616) : decide (decide (wrap64 (n : Int) < 0) = false ∧ (wrap64 (n : Int)).natAbs = n) = smB false n := by
  unfold smB
  rw [decide_eq_decide, decide_eq_false_iff_not]
  simp only [wrap64]
  omega
theorem small_law_neg {n : Nat} (h : n < 18446744073709551616) (h0 : n ≠ 0) : decide (decide (wrap64 (IntKind.u64.wrap (-(n : Int))) < 0) = true ∧ (wrap64 (IntKind.u64.wrap (-(n : Int)))).natAbs = n) = smB true n := by
  unfold smB
  rw [decide_eq_decide, decide_eq_true_eq]
  simp only [wrap64, IntKind.wrap, IntKind.bits, IntKind.signed]
  simp
  omega
theorem wrap64_rng (x : Int) : -9223372036854775808 ≤ wrap64 x ∧ wrap64 x ≤ 9223372036854775807 := by
  simp only [wrap64]
  omega
set_option maxRecDepth 100000 in
set_option maxHeartbeats 4000000 in
theorem r2small_false_far (w : World) (n : Nat) (h : In w a cap (lims n)) (hl : 2 < (lims n).length) : Calls Tryz.prog 117 #[.agg #[.bool false, .slice a (lims n).length cap]] w (SmallI w false n) := by
  have H := Lib.hid h
  clear h
  have F0 : Hid (Fr [] w (w.alloc (.cells #[.bool false, .slice a (lims n).length cap] 25))) := Lib.hid ((Fr.refl [] w).alloc _)
  have P : Hid (Bx (w.alloc (.cells #[.bool false, .slice a (lims n).length cap] 25)) w.heap.size (.bool false) (.slice a (lims n).length cap)) := Lib.hid (Bx.new _ _ _)
  have H0 := Lib.hid (H.out.keep F0.out)
  have pc0 := P.out.c0
  have pc1 := P.out.c1
  have hb : ¬ n < 18446744073709551616 := by
    intro hlt
    have : (lims n).length ≤ 2 := len_lims.2 (by omega)
    omega
  have LAW : Hid (decide (decide ((0 : Int) < 0) = false ∧ (0 : Int).natAbs = n) = smB false n) := Lib.hid (by unfold smB; rw [decide_eq_decide]; simp; omega)
  have ZV : Hid (smB false n = true → (0 : Int) = smV false n) := Lib.hid (fun e => by unfold smB at e; simp at e; omega)
  have CO : Hid (∀ W, Calls Tryz.prog 57 #[.int .i64 0] W (GivesI W (decide ((0 : Int) < 0)) (0 : Int).natAbs)) := Lib.hid (fun W => r2of_c W 0 (by decide) (by decide))
  have CS : Hid (∀ W a1 c1, Fr [] w W → In W a1 c1 (lims ((0 : Int)).natAbs) → Calls Tryz.prog 54 #[.agg #[.bool (decide ((0 : Int) < 0)), .slice a1 (lims ((0 : Int)).natAbs).length c1], .agg #[.bool false, .slice a (lims n).length cap]] W fun e w' => e = .returned (.bool (smB false n)) ∧ Fr [] W w') := Lib.hid (fun W a1 c1 hW hI => by
    have := r2same_c W (decide ((0 : Int) < 0)) false ((0 : Int)).natAbs n hI (H.out.keep hW)
    rwa [LAW.out] at this)
  have D : Hid (∀ W z, (smB false n = true → z = smV false n) → smB false n = true → Fr [] w W → SmallI w false n (.returned (.tuple #[.int .i64 z, .bool true])) W) := Lib.hid (fun W z hz hg h => by unfold SmallI; rw [if_pos hg, hz hg]; exact ⟨rfl, h⟩)
  have E : Hid (∀ W, smB false n = false → Fr [] w W → SmallI w false n (.returned (.tuple #[.int .i64 0, .bool false])) W) := Lib.hid (fun W hg h => by unfold SmallI; rw [if_neg (by rw [hg]; decide)]; exact ⟨rfl, h⟩)
  have hlI : ¬ ((lims n).length : Int) ≤ 2 := by omega
  have hi0 : (0 : Int) ≤ ((lims n).length : Int) - 1 := by omega
  have hub : ((lims n).length : Int) ≤ 100000 := by have := H0.out.sm; omega
  cases hg : smB false n with
  | true =>
    rw [hg] at CS
    have HG := Lib.hid hg
    clear hg LAW
    go_enter Tryz.func117, Tryz.ntmps117
    go_wp2_with fail
    go_loopg [4, 5] 0 (fun _ s4 s5 wr => s4 = .int .u64 0 ∧ s5 = .int .i64 (((lims n).length : Int) - 1) ∧ wr = w.alloc (.cells #[.bool false, .slice a (lims n).length cap] 25))
    case atStart => exact ⟨rfl, rfl, rfl⟩
    case round =>
      obtain ⟨rfl, rfl, rfl⟩ := hrel
      go_wp2_with fail
      go_region_held3 (fun W => W.cell? ⟨w.heap.size, 0, none⟩ = some (.bool false) ∧ W.cell? ⟨w.heap.size, 1, none⟩ = some (.slice a (lims n).length cap)) (with_reducible first | exact Bx.c2 (P.out.fr (Fr.refl [] _).drew) | exact Bx.c2 P6.out | exact Bx.c2 P5.out) (first | (go_at_call 57; refine Calls.mono (CO.out _) ?_; rintro e w5 ⟨a5, c5, rfl, I5, G5⟩; have K5 := Lib.hid ((Fr.refl [] _).drew.same G5); have P5 := Lib.hid (P.out.fr K5.out)) | (go_at_call 54; refine Calls.mono (CS.out _ _ _ (F0.out.same K5.out) I5) ?_; rintro e w6 ⟨rfl, G6⟩; have P6 := Lib.hid (P5.out.fr G6); have F6 := Lib.hid ((F0.out.same K5.out).same G6)))
      go_wp2
      go_ret2
      exact D.out _ _ ZV.out HG.out F6.out
  | false =>
    rw [hg] at CS
    have HG := Lib.hid hg
    clear hg LAW
    go_enter Tryz.func117, Tryz.ntmps117
    go_wp2_with fail
    go_loopg [4, 5] 0 (fun _ s4 s5 wr => s4 = .int .u64 0 ∧ s5 = .int .i64 (((lims n).length : Int) - 1) ∧ wr = w.alloc (.cells #[.bool false, .slice a (lims n).length cap] 25))
    case atStart => exact ⟨rfl, rfl, rfl⟩
    case round =>
      obtain ⟨rfl, rfl, rfl⟩ := hrel
      go_wp2_with fail
      go_region_held3 (fun W => W.cell? ⟨w.heap.size, 0, none⟩ = some (.bool false) ∧ W.cell? ⟨w.heap.size, 1, none⟩ = some (.slice a (lims n).length cap)) (with_reducible first | exact Bx.c2 (P.out.fr (Fr.refl [] _).drew) | exact Bx.c2 P6.out | exact Bx.c2 P5.out) (first | (go_at_call 57; refine Calls.mono (CO.out _) ?_; rintro e w5 ⟨a5, c5, rfl, I5, G5⟩; have K5 := Lib.hid ((Fr.refl [] _).drew.same G5); have P5 := Lib.hid (P.out.fr K5.out)) | (go_at_call 54; refine Calls.mono (CS.out _ _ _ (F0.out.same K5.out) I5) ?_; rintro e w6 ⟨rfl, G6⟩; have P6 := Lib.hid (P5.out.fr G6); have F6 := Lib.hid ((F0.out.same K5.out).same G6)))
      go_wp2
      go_ret2
      exact E.out _ HG.out F6.out
set_option maxRecDepth 100000 in
set_option maxHeartbeats 4000000 in
theorem r2small_false_two (w : World) (n : Nat) (h : In w a cap (lims n)) (hl : (lims n).length ≤ 2) : Calls Tryz.prog 117 #[.agg #[.bool false, .slice a (lims n).length cap]] w (SmallI w false n) := by
  have H := Lib.hid h
  clear h
  have F0 : Hid (Fr [] w (w.alloc (.cells #[.bool false, .slice a (lims n).length cap] 25))) := Lib.hid ((Fr.refl [] w).alloc _)
  have P : Hid (Bx (w.alloc (.cells #[.bool false, .slice a (lims n).length cap] 25)) w.heap.size (.bool false) (.slice a (lims n).length cap)) := Lib.hid (Bx.new _ _ _)
  have H0 := Lib.hid (H.out.keep F0.out)
  have pc0 := P.out.c0
  have pc1 := P.out.c1
  have hb : n < 18446744073709551616 := by have := len_lims.1 hl; omega
  have LAW : Hid (decide (decide (wrap64 (n : Int) < 0) = false ∧ (wrap64 (n : Int)).natAbs = n) = smB false n) := Lib.hid (small_law_pos hb)
  have ZV : Hid (smB false n = true → wrap64 (n : Int) = smV false n) := Lib.hid (fun e => by unfold smB at e; rw [decide_eq_true_eq] at e; rw [pos_back e]; rfl)
  have CO : Hid (∀ W, Calls Tryz.prog 57 #[.int .i64 (wrap64 (n : Int))] W (GivesI W (decide (wrap64 (n : Int) < 0)) (wrap64 (n : Int)).natAbs)) := Lib.hid (fun W => r2of_c W _ (wrap64_rng _).1 (wrap64_rng _).2)
  have CS : Hid (∀ W a1 c1, Fr [] w W → In W a1 c1 (lims (wrap64 (n : Int)).natAbs) → Calls Tryz.prog 54 #[.agg #[.bool (decide (wrap64 (n : Int) < 0)), .slice a1 (lims (wrap64 (n : Int)).natAbs).length c1], .agg #[.bool false, .slice a (lims n).length cap]] W fun e w' => e = .returned (.bool (smB false n)) ∧ Fr [] W w') := Lib.hid (fun W a1 c1 hW hI => by
    have := r2same_c W (decide (wrap64 (n : Int) < 0)) false (wrap64 (n : Int)).natAbs n hI (H.out.keep hW)
    rwa [LAW.out] at this)
  have D : Hid (∀ W z, (smB false n = true → z = smV false n) → smB false n = true → Fr [] w W → SmallI w false n (.returned (.tuple #[.int .i64 z, .bool true])) W) := Lib.hid (fun W z hz hg h => by unfold SmallI; rw [if_pos hg, hz hg]; exact ⟨rfl, h⟩)
  have E : Hid (∀ W, smB false n = false → Fr [] w W → SmallI w false n (.returned (.tuple #[.int .i64 0, .bool false])) W) := Lib.hid (fun W hg h => by unfold SmallI; rw [if_neg (by rw [hg]; decide)]; exact ⟨rfl, h⟩)
  have HZ : Hid (val ((lims n).drop 0) = n) := Lib.hid (by rw [List.drop_zero, val_lims])
  have HD : Hid (val ((lims n).drop (lims n).length) = 0) := Lib.hid (by rw [List.drop_length]; rfl)
  have STEP : Hid (∀ j, j < (lims n).length → val ((lims n).drop j) = (lims n)[j]?.getD 0 + 4294967296 * val ((lims n).drop (j + 1)) ∧ (lims n)[j]?.getD 0 < 4294967296 ∧ val ((lims n).drop (j + 1)) < 4294967296) := Lib.hid (fun j hj => ⟨val_drop _ j, lim_get (lim_lims n) j, by
    have h1 : val ((lims n).drop (j + 1)) < 4294967296 ^ ((lims n).drop (j + 1)).length := val_lt (lim_drop (lim_lims n) _)
    have h2 : ((lims n).drop (j + 1)).length ≤ 1 := by rw [List.length_drop]; omega
    exact Nat.lt_of_lt_of_le h1 (Nat.le_trans (Nat.pow_le_pow_right (by decide) h2) (by decide))⟩)
  have hlI : ((lims n).length : Int) ≤ 2 := by omega
  cases hg : smB false n with
  | true =>
    rw [hg] at CS
    have HG := Lib.hid hg
    clear hg LAW
    go_enter Tryz.func117, Tryz.ntmps117
    go_wp2_with fail
    go_loopg [4, 5] (lims n).length (fun j s4 s5 wr => s5 = .int .i64 ((j : Int) - 1) ∧ s4 = .int .u64 ((val ((lims n).drop j) : Nat) : Int) ∧ Hid (j ≤ (lims n).length) ∧ wr = w.alloc (.cells #[.bool false, .slice a (lims n).length cap] 25))
    case atStart => exact ⟨rfl, by rw [HD.out]; rfl, Lib.hid (Nat.le_refl _), rfl⟩
    case round =>
      obtain ⟨rfl, rfl, hj, rfl⟩ := hrel
      by_cases hj0 : gk = 0
      · subst hj0
        rw [HZ.out]
        clear HZ HD STEP
        go_wp2_with fail
        go_region_held3 (fun W => W.cell? ⟨w.heap.size, 0, none⟩ = some (.bool false) ∧ W.cell? ⟨w.heap.size, 1, none⟩ = some (.slice a (lims n).length cap)) (with_reducible first | exact Bx.c2 (P.out.fr (Fr.refl [] _).drew) | exact Bx.c2 P6.out | exact Bx.c2 P5.out) (first | (go_at_call 57; refine Calls.mono (CO.out _) ?_; rintro e w5 ⟨a5, c5, rfl, I5, G5⟩; have K5 := Lib.hid ((Fr.refl [] _).drew.same G5); have P5 := Lib.hid (P.out.fr K5.out)) | (go_at_call 54; refine Calls.mono (CS.out _ _ _ (F0.out.same K5.out) I5) ?_; rintro e w6 ⟨rfl, G6⟩; have P6 := Lib.hid (P5.out.fr G6); have F6 := Lib.hid ((F0.out.same K5.out).same G6)))
        go_wp2
        go_ret2
        exact D.out _ _ ZV.out HG.out F6.out
      · obtain ⟨i, rfl⟩ : ∃ i, gk = i + 1 := ⟨gk - 1, by omega⟩
        have hi : i < (lims n).length := hj.out
        obtain ⟨e1, hx, hu⟩ := STEP.out i hi
        obtain ⟨b, o', rfl, hbl, hc⟩ := H0.out.at hi
        have e2 : ((i + 1 : Nat) : Int) - 1 = (i : Int) := by omega
        have e3 : (0 : Int) ≤ (i : Int) := by omega
        have e4 : (i : Int) < ((lims n).length : Int) := by omega
        rw [e2]
        have HV := Lib.hid e1
        obtain ⟨v, hv⟩ : ∃ v, v = val ((lims n).drop i) := ⟨_, rfl⟩
        have HV2 := Lib.hid hv
        rw [← hv] at HV
        have HVI : Hid (((v : Nat) : Int) = ((val ((lims n).drop (i + 1)) : Nat) : Int) * 4294967296 + (((lims n)[i]?.getD 0 : Nat) : Int)) := Lib.hid (by rw [HV.out]; omega)
        have HJ : Hid (i ≤ (lims n).length) := Lib.hid (by omega)
        clear hv e1 e2 STEP HZ HD
        generalize (lims n)[i]?.getD 0 = x at *
        generalize val ((lims n).drop (i + 1)) = u at *
        go_wp2_with fail
        go_roundg i
        case measure => omega
        case rel => exact ⟨rfl, by rw [← HV2.out, HVI.out], HJ, rfl⟩
  | false =>
    rw [hg] at CS
    have HG := Lib.hid hg
    clear hg LAW
    go_enter Tryz.func117, Tryz.ntmps117
    go_wp2_with fail
    go_loopg [4, 5] (lims n).length (fun j s4 s5 wr => s5 = .int .i64 ((j : Int) - 1) ∧ s4 = .int .u64 ((val ((lims n).drop j) : Nat) : Int) ∧ Hid (j ≤ (lims n).length) ∧ wr = w.alloc (.cells #[.bool false, .slice a (lims n).length cap] 25))
    case atStart => exact ⟨rfl, by rw [HD.out]; rfl, Lib.hid (Nat.le_refl _), rfl⟩
    case round =>
      obtain ⟨rfl, rfl, hj, rfl⟩ := hrel
      by_cases hj0 : gk = 0
      · subst hj0
        rw [HZ.out]
        clear HZ HD STEP
        go_wp2_with fail
        go_region_held3 (fun W => W.cell? ⟨w.heap.size, 0, none⟩ = some (.bool false) ∧ W.cell? ⟨w.heap.size, 1, none⟩ = some (.slice a (lims n).length cap)) (with_reducible first | exact Bx.c2 (P.out.fr (Fr.refl [] _).drew) | exact Bx.c2 P6.out | exact Bx.c2 P5.out) (first | (go_at_call 57; refine Calls.mono (CO.out _) ?_; rintro e w5 ⟨a5, c5, rfl, I5, G5⟩; have K5 := Lib.hid ((Fr.refl [] _).drew.same G5); have P5 := Lib.hid (P.out.fr K5.out)) | (go_at_call 54; refine Calls.mono (CS.out _ _ _ (F0.out.same K5.out) I5) ?_; rintro e w6 ⟨rfl, G6⟩; have P6 := Lib.hid (P5.out.fr G6); have F6 := Lib.hid ((F0.out.same K5.out).same G6)))
        go_wp2
        go_ret2
        exact E.out _ HG.out F6.out
      · obtain ⟨i, rfl⟩ : ∃ i, gk = i + 1 := ⟨gk - 1, by omega⟩
        have hi : i < (lims n).length := hj.out
        obtain ⟨e1, hx, hu⟩ := STEP.out i hi
        obtain ⟨b, o', rfl, hbl, hc⟩ := H0.out.at hi
        have e2 : ((i + 1 : Nat) : Int) - 1 = (i : Int) := by omega
        have e3 : (0 : Int) ≤ (i : Int) := by omega
        have e4 : (i : Int) < ((lims n).length : Int) := by omega
        rw [e2]
        have HV := Lib.hid e1
        obtain ⟨v, hv⟩ : ∃ v, v = val ((lims n).drop i) := ⟨_, rfl⟩
        have HV2 := Lib.hid hv
        rw [← hv] at HV
        have HVI : Hid (((v : Nat) : Int) = ((val ((lims n).drop (i + 1)) : Nat) : Int) * 4294967296 + (((lims n)[i]?.getD 0 : Nat) : Int)) := Lib.hid (by rw [HV.out]; omega)
        have HJ : Hid (i ≤ (lims n).length) := Lib.hid (by omega)
        clear hv e1 e2 STEP HZ HD
        generalize (lims n)[i]?.getD 0 = x at *
        generalize val ((lims n).drop (i + 1)) = u at *
        go_wp2_with fail
        go_roundg i
        case measure => omega
        case rel => exact ⟨rfl, by rw [← HV2.out, HVI.out], HJ, rfl⟩
set_option maxRecDepth 100000 in
set_option maxHeartbeats 4000000 in
theorem r2small_true_far (w : World) (n : Nat) (h : In w a cap (lims n)) (hl : 2 < (lims n).length) : Calls Tryz.prog 117 #[.agg #[.bool true, .slice a (lims n).length cap]] w (SmallI w true n) := by
  have H := Lib.hid h
  clear h
  have F0 : Hid (Fr [] w (w.alloc (.cells #[.bool true, .slice a (lims n).length cap] 25))) := Lib.hid ((Fr.refl [] w).alloc _)
  have P : Hid (Bx (w.alloc (.cells #[.bool true, .slice a (lims n).length cap] 25)) w.heap.size (.bool true) (.slice a (lims n).length cap)) := Lib.hid (Bx.new _ _ _)
  have H0 := Lib.hid (H.out.keep F0.out)
  have pc0 := P.out.c0
  have pc1 := P.out.c1
  have hb : ¬ n < 18446744073709551616 := by
    intro hlt
    have : (lims n).length ≤ 2 := len_lims.2 (by omega)
    omega
  have LAW : Hid (decide (decide ((0 : Int) < 0) = true ∧ (0 : Int).natAbs = n) = smB true n) := Lib.hid (by unfold smB; rw [decide_eq_decide]; simp; omega)
  have ZV : Hid (smB true n = true → (0 : Int) = smV true n) := Lib.hid (fun e => by unfold smB at e; simp at e; omega)
  have CO : Hid (∀ W, Calls Tryz.prog 57 #[.int .i64 0] W (GivesI W (decide ((0 : Int) < 0)) (0 : Int).natAbs)) := Lib.hid (fun W => r2of_c W 0 (by decide) (by decide))
  have CS : Hid (∀ W a1 c1, Fr [] w W → In W a1 c1 (lims ((0 : Int)).natAbs) → Calls Tryz.prog 54 #[.agg #[.bool (decide ((0 : Int) < 0)), .slice a1 (lims ((0 : Int)).natAbs).length c1], .agg #[.bool true, .slice a (lims n).length cap]] W fun e w' => e = .returned (.bool (smB true n)) ∧ Fr [] W w') := Lib.hid (fun W a1 c1 hW hI => by
    have := r2same_c W (decide ((0 : Int) < 0)) true ((0 : Int)).natAbs n hI (H.out.keep hW)
    rwa [LAW.out] at this)
  have D : Hid (∀ W z, (smB true n = true → z = smV true n) → smB true n = true → Fr [] w W → SmallI w true n (.returned (.tuple #[.int .i64 z, .bool true])) W) := Lib.hid (fun W z hz hg h => by unfold SmallI; rw [if_pos hg, hz hg]; exact ⟨rfl, h⟩)
  have E : Hid (∀ W, smB true n = false → Fr [] w W → SmallI w true n (.returned (.tuple #[.int .i64 0, .bool false])) W) := Lib.hid (fun W hg h => by unfold SmallI; rw [if_neg (by rw [hg]; decide)]; exact ⟨rfl, h⟩)
  have hlI : ¬ ((lims n).length : Int) ≤ 2 := by omega
  have hi0 : (0 : Int) ≤ ((lims n).length : Int) - 1 := by omega
  have hub : ((lims n).length : Int) ≤ 100000 := by have := H0.out.sm; omega
  cases hg : smB true n with
  | true =>
    rw [hg] at CS
    have HG := Lib.hid hg
    clear hg LAW
    go_enter Tryz.func117, Tryz.ntmps117
    go_wp2_with fail
    go_loopg [4, 5] 0 (fun _ s4 s5 wr => s4 = .int .u64 0 ∧ s5 = .int .i64 (((lims n).length : Int) - 1) ∧ wr = w.alloc (.cells #[.bool true, .slice a (lims n).length cap] 25))
    case atStart => exact ⟨rfl, rfl, rfl⟩
    case round =>
      obtain ⟨rfl, rfl, rfl⟩ := hrel
      go_wp2_with fail
      go_region_held3 (fun W => W.cell? ⟨w.heap.size, 0, none⟩ = some (.bool true) ∧ W.cell? ⟨w.heap.size, 1, none⟩ = some (.slice a (lims n).length cap)) (with_reducible first | exact Bx.c2 (P.out.fr (Fr.refl [] _).drew) | exact Bx.c2 P6.out | exact Bx.c2 P5.out) (first | (go_at_call 57; refine Calls.mono (CO.out _) ?_; rintro e w5 ⟨a5, c5, rfl, I5, G5⟩; have K5 := Lib.hid ((Fr.refl [] _).drew.same G5); have P5 := Lib.hid (P.out.fr K5.out)) | (go_at_call 54; refine Calls.mono (CS.out _ _ _ (F0.out.same K5.out) I5) ?_; rintro e w6 ⟨rfl, G6⟩; have P6 := Lib.hid (P5.out.fr G6); have F6 := Lib.hid ((F0.out.same K5.out).same G6)))
      go_wp2
      go_ret2
      exact D.out _ _ ZV.out HG.out F6.out
  | false =>
    rw [hg] at CS
    have HG := Lib.hid hg
    clear hg LAW
    go_enter Tryz.func117, Tryz.ntmps117
    go_wp2_with fail
    go_loopg [4, 5] 0 (fun _ s4 s5 wr => s4 = .int .u64 0 ∧ s5 = .int .i64 (((lims n).length : Int) - 1) ∧ wr = w.alloc (.cells #[.bool true, .slice a (lims n).length cap] 25))
    case atStart => exact ⟨rfl, rfl, rfl⟩
    case round =>
      obtain ⟨rfl, rfl, rfl⟩ := hrel
      go_wp2_with fail
      go_region_held3 (fun W => W.cell? ⟨w.heap.size, 0, none⟩ = some (.bool true) ∧ W.cell? ⟨w.heap.size, 1, none⟩ = some (.slice a (lims n).length cap)) (with_reducible first | exact Bx.c2 (P.out.fr (Fr.refl [] _).drew) | exact Bx.c2 P6.out | exact Bx.c2 P5.out) (first | (go_at_call 57; refine Calls.mono (CO.out _) ?_; rintro e w5 ⟨a5, c5, rfl, I5, G5⟩; have K5 := Lib.hid ((Fr.refl [] _).drew.same G5); have P5 := Lib.hid (P.out.fr K5.out)) | (go_at_call 54; refine Calls.mono (CS.out _ _ _ (F0.out.same K5.out) I5) ?_; rintro e w6 ⟨rfl, G6⟩; have P6 := Lib.hid (P5.out.fr G6); have F6 := Lib.hid ((F0.out.same K5.out).same G6)))
      go_wp2
      go_ret2
      exact E.out _ HG.out F6.out
set_option maxRecDepth 100000 in
set_option maxHeartbeats 4000000 in
theorem r2small_true_two (w : World) (n : Nat) (h : In w a cap (lims n)) (hl : (lims n).length ≤ 2) (h0 : n ≠ 0) : Calls Tryz.prog 117 #[.agg #[.bool true, .slice a (lims n).length cap]] w (SmallI w true n) := by
  have H := Lib.hid h
  clear h
  have F0 : Hid (Fr [] w (w.alloc (.cells #[.bool true, .slice a (lims n).length cap] 25))) := Lib.hid ((Fr.refl [] w).alloc _)
  have P : Hid (Bx (w.alloc (.cells #[.bool true, .slice a (lims n).length cap] 25)) w.heap.size (.bool true) (.slice a (lims n).length cap)) := Lib.hid (Bx.new _ _ _)
  have H0 := Lib.hid (H.out.keep F0.out)
  have pc0 := P.out.c0
  have pc1 := P.out.c1
  have hb : n < 18446744073709551616 := by have := len_lims.1 hl; omega
  have LAW : Hid (decide (decide (wrap64 (IntKind.u64.wrap (-(n : Int))) < 0) = true ∧ (wrap64 (IntKind.u64.wrap (-(n : Int)))).natAbs = n) = smB true n) := Lib.hid (small_law_neg hb h0)
  have ZV : Hid (smB true n = true → wrap64 (IntKind.u64.wrap (-(n : Int))) = smV true n) := Lib.hid (fun e => by unfold smB at e; rw [decide_eq_true_eq] at e; rw [neg_back e]; rfl)
  have CO : Hid (∀ W, Calls Tryz.prog 57 #[.int .i64 (wrap64 (IntKind.u64.wrap (-(n : Int))))] W (GivesI W (decide (wrap64 (IntKind.u64.wrap (-(n : Int))) < 0)) (wrap64 (IntKind.u64.wrap (-(n : Int)))).natAbs)) := Lib.hid (fun W => r2of_c W _ (wrap64_rng _).1 (wrap64_rng _).2)
  have CS : Hid (∀ W a1 c1, Fr [] w W → In W a1 c1 (lims (wrap64 (IntKind.u64.wrap (-(n : Int)))).natAbs) → Calls Tryz.prog 54 #[.agg #[.bool (decide (wrap64 (IntKind.u64.wrap (-(n : Int))) < 0)), .slice a1 (lims (wrap64 (IntKind.u64.wrap (-(n : Int)))).natAbs).length c1], .agg #[.bool true, .slice a (lims n).length cap]] W fun e w' => e = .returned (.bool (smB true n)) ∧ Fr [] W w') := Lib.hid (fun W a1 c1 hW hI => by
    have := r2same_c W (decide (wrap64 (IntKind.u64.wrap (-(n : Int))) < 0)) true (wrap64 (IntKind.u64.wrap (-(n : Int)))).natAbs n hI (H.out.keep hW)
    rwa [LAW.out] at this)
  have D : Hid (∀ W z, (smB true n = true → z = smV true n) → smB true n = true → Fr [] w W → SmallI w true n (.returned (.tuple #[.int .i64 z, .bool true])) W) := Lib.hid (fun W z hz hg h => by unfold SmallI; rw [if_pos hg, hz hg]; exact ⟨rfl, h⟩)
  have E : Hid (∀ W, smB true n = false → Fr [] w W → SmallI w true n (.returned (.tuple #[.int .i64 0, .bool false])) W) := Lib.hid (fun W hg h => by unfold SmallI; rw [if_neg (by rw [hg]; decide)]; exact ⟨rfl, h⟩)
  have HZ : Hid (val ((lims n).drop 0) = n) := Lib.hid (by rw [List.drop_zero, val_lims])
  have HD : Hid (val ((lims n).drop (lims n).length) = 0) := Lib.hid (by rw [List.drop_length]; rfl)
  have STEP : Hid (∀ j, j < (lims n).length → val ((lims n).drop j) = (lims n)[j]?.getD 0 + 4294967296 * val ((lims n).drop (j + 1)) ∧ (lims n)[j]?.getD 0 < 4294967296 ∧ val ((lims n).drop (j + 1)) < 4294967296) := Lib.hid (fun j hj => ⟨val_drop _ j, lim_get (lim_lims n) j, by
    have h1 : val ((lims n).drop (j + 1)) < 4294967296 ^ ((lims n).drop (j + 1)).length := val_lt (lim_drop (lim_lims n) _)
    have h2 : ((lims n).drop (j + 1)).length ≤ 1 := by rw [List.length_drop]; omega
    exact Nat.lt_of_lt_of_le h1 (Nat.le_trans (Nat.pow_le_pow_right (by decide) h2) (by decide))⟩)
  have hlI : ((lims n).length : Int) ≤ 2 := by omega
  cases hg : smB true n with
  | true =>
    rw [hg] at CS
    have HG := Lib.hid hg
    clear hg LAW
    go_enter Tryz.func117, Tryz.ntmps117
    go_wp2_with fail
    go_loopg [4, 5] (lims n).length (fun j s4 s5 wr => s5 = .int .i64 ((j : Int) - 1) ∧ s4 = .int .u64 ((val ((lims n).drop j) : Nat) : Int) ∧ Hid (j ≤ (lims n).length) ∧ wr = w.alloc (.cells #[.bool true, .slice a (lims n).length cap] 25))
    case atStart => exact ⟨rfl, by rw [HD.out]; rfl, Lib.hid (Nat.le_refl _), rfl⟩
    case round =>
      obtain ⟨rfl, rfl, hj, rfl⟩ := hrel
      by_cases hj0 : gk = 0
      · subst hj0
        rw [HZ.out]
        clear HZ HD STEP
        go_wp2_with fail
        go_region_held3 (fun W => W.cell? ⟨w.heap.size, 0, none⟩ = some (.bool true) ∧ W.cell? ⟨w.heap.size, 1, none⟩ = some (.slice a (lims n).length cap)) (with_reducible first | exact Bx.c2 (P.out.fr (Fr.refl [] _).drew) | exact Bx.c2 P6.out | exact Bx.c2 P5.out) (first | (go_at_call 57; refine Calls.mono (CO.out _) ?_; rintro e w5 ⟨a5, c5, rfl, I5, G5⟩; have K5 := Lib.hid ((Fr.refl [] _).drew.same G5); have P5 := Lib.hid (P.out.fr K5.out)) | (go_at_call 54; refine Calls.mono (CS.out _ _ _ (F0.out.same K5.out) I5) ?_; rintro e w6 ⟨rfl, G6⟩; have P6 := Lib.hid (P5.out.fr G6); have F6 := Lib.hid ((F0.out.same K5.out).same G6)))
        go_wp2
        go_ret2
        exact D.out _ _ ZV.out HG.out F6.out
      · obtain ⟨i, rfl⟩ : ∃ i, gk = i + 1 := ⟨gk - 1, by omega⟩
        have hi : i < (lims n).length := hj.out
        obtain ⟨e1, hx, hu⟩ := STEP.out i hi
        obtain ⟨b, o', rfl, hbl, hc⟩ := H0.out.at hi
        have e2 : ((i + 1 : Nat) : Int) - 1 = (i : Int) := by omega
        have e3 : (0 : Int) ≤ (i : Int) := by omega
        have e4 : (i : Int) < ((lims n).length : Int) := by omega
        rw [e2]
        have HV := Lib.hid e1
        obtain ⟨v, hv⟩ : ∃ v, v = val ((lims n).drop i) := ⟨_, rfl⟩
        have HV2 := Lib.hid hv
        rw [← hv] at HV
        have HVI : Hid (((v : Nat) : Int) = ((val ((lims n).drop (i + 1)) : Nat) : Int) * 4294967296 + (((lims n)[i]?.getD 0 : Nat) : Int)) := Lib.hid (by rw [HV.out]; omega)
        have HJ : Hid (i ≤ (lims n).length) := Lib.hid (by omega)
        clear hv e1 e2 STEP HZ HD
        generalize (lims n)[i]?.getD 0 = x at *
        generalize val ((lims n).drop (i + 1)) = u at *
        go_wp2_with fail
        go_roundg i
        case measure => omega
        case rel => exact ⟨rfl, by rw [← HV2.out, HVI.out], HJ, rfl⟩
  | false =>
    rw [hg] at CS
    have HG := Lib.hid hg
    clear hg LAW
    go_enter Tryz.func117, Tryz.ntmps117
    go_wp2_with fail
    go_loopg [4, 5] (lims n).length (fun j s4 s5 wr => s5 = .int .i64 ((j : Int) - 1) ∧ s4 = .int .u64 ((val ((lims n).drop j) : Nat) : Int) ∧ Hid (j ≤ (lims n).length) ∧ wr = w.alloc (.cells #[.bool true, .slice a (lims n).length cap] 25))
    case atStart => exact ⟨rfl, by rw [HD.out]; rfl, Lib.hid (Nat.le_refl _), rfl⟩
    case round =>
      obtain ⟨rfl, rfl, hj, rfl⟩ := hrel
      by_cases hj0 : gk = 0
      · subst hj0
        rw [HZ.out]
        clear HZ HD STEP
        go_wp2_with fail
        go_region_held3 (fun W => W.cell? ⟨w.heap.size, 0, none⟩ = some (.bool true) ∧ W.cell? ⟨w.heap.size, 1, none⟩ = some (.slice a (lims n).length cap)) (with_reducible first | exact Bx.c2 (P.out.fr (Fr.refl [] _).drew) | exact Bx.c2 P6.out | exact Bx.c2 P5.out) (first | (go_at_call 57; refine Calls.mono (CO.out _) ?_; rintro e w5 ⟨a5, c5, rfl, I5, G5⟩; have K5 := Lib.hid ((Fr.refl [] _).drew.same G5); have P5 := Lib.hid (P.out.fr K5.out)) | (go_at_call 54; refine Calls.mono (CS.out _ _ _ (F0.out.same K5.out) I5) ?_; rintro e w6 ⟨rfl, G6⟩; have P6 := Lib.hid (P5.out.fr G6); have F6 := Lib.hid ((F0.out.same K5.out).same G6)))
        go_wp2
        go_ret2
        exact E.out _ HG.out F6.out
      · obtain ⟨i, rfl⟩ : ∃ i, gk = i + 1 := ⟨gk - 1, by omega⟩
        have hi : i < (lims n).length := hj.out
        obtain ⟨e1, hx, hu⟩ := STEP.out i hi
        obtain ⟨b, o', rfl, hbl, hc⟩ := H0.out.at hi
        have e2 : ((i + 1 : Nat) : Int) - 1 = (i : Int) := by omega
        have e3 : (0 : Int) ≤ (i : Int) := by omega
        have e4 : (i : Int) < ((lims n).length : Int) := by omega
        rw [e2]
        have HV := Lib.hid e1
        obtain ⟨v, hv⟩ : ∃ v, v = val ((lims n).drop i) := ⟨_, rfl⟩
        have HV2 := Lib.hid hv
        rw [← hv] at HV
        have HVI : Hid (((v : Nat) : Int) = ((val ((lims n).drop (i + 1)) : Nat) : Int) * 4294967296 + (((lims n)[i]?.getD 0 : Nat) : Int)) := Lib.hid (by rw [HV.out]; omega)
        have HJ : Hid (i ≤ (lims n).length) := Lib.hid (by omega)
        clear hv e1 e2 STEP HZ HD
        generalize (lims n)[i]?.getD 0 = x at *
        generalize val ((lims n).drop (i + 1)) = u at *
        go_wp2_with fail
        go_roundg i
        case measure => omega
        case rel => exact ⟨rfl, by rw [← HV2.out, HVI.out], HJ, rfl⟩
theorem r2small_c (w : World) (s : Bool) (n : Nat) (h : In w a cap (lims n)) (h0 : s = true → n ≠ 0) : Calls Tryz.prog 117 #[.agg #[.bool s, .slice a (lims n).length cap]] w (SmallI w s n) := by
  by_cases hl : (lims n).length ≤ 2
  · cases s with
    | true => exact r2small_true_two w n h hl (h0 rfl)
    | false => exact r2small_false_two w n h hl
  · cases s with
    | true => exact r2small_true_far w n h (by omega)
    | false => exact r2small_false_far w n h (by omega)
end Go.Proofs.YtjdanblijcdllaaGreatDoor
/- Exact: which numbers can be. -/
namespace Go.Proofs.YtjdanblijcdllaaGreatDoor
open Go.ChangeShapes Go.WideShapes Go.RowKit
variable {w w' w2 wr : World} {a b : Option Addr} {cap cap2 : Nat} {L M : List Nat} {B : Nat}
theorem lims_iff (hl : Lim L) : lims (val L) = L ↔ Top L := ⟨fun h => by rw [← h]; exact top_lims _, lims_val hl⟩
set_option maxRecDepth 100000 in
set_option maxHeartbeats 2000000 in
theorem eright_c (w : World) (s : Bool) (len : Nat) (h : InA w a len cap L) : Calls Tryz.prog 72 #[.agg #[.bool s, .slice a len cap]] w fun e w' => e = .returned (.bool (rightP s L)) ∧ Fr [] w w' := by
  have F0 : Hid (Fr [] w (w.alloc (.cells #[.bool s, .slice a len cap] 25))) := Lib.hid ((Fr.refl [] w).alloc _)
  have P : Hid (Bx (w.alloc (.cells #[.bool s, .slice a len cap] 25)) w.heap.size (.bool s) (.slice a len cap)) := Lib.hid (Bx.new _ _ _)
  have hn := h.len
  have hmx : (len : Int) ≤ 9223372036854775807 := by
    have h1 := h.le
    have h2 := h.cm
    unfold maxLen at h2
    omega
  by_cases h0 : len = 0
  · have hL : L = [] := List.length_eq_zero_iff.1 (by omega)
    have D : Hid (∀ W, Fr [] w W → (Ending.returned (.bool (!s)) = .returned (.bool (rightP s L)) ∧ Fr [] w W)) := Lib.hid (fun W hF => ⟨by
      have e : rightP s L = !s := by rw [hL]; unfold rightP; cases s <;> rfl
      rw [e], hF⟩)
    subst h0
    clear h hL hn hmx
    go_enter Tryz.func72, Tryz.ntmps72
    go_wp2
    go_ret
    exact D.out _ F0.out
  · have hz : ((len : Int) == 0) = false := by rw [beq_eq_false_iff_ne]; omega
    have hz2 : ¬ (len : Int) = 0 := by omega
    by_cases h64 : len ≤ 64
    · have hI : (len : Int) ≤ 64 := by omega
      obtain ⟨i, hi⟩ : ∃ i, len = i + 1 := ⟨len - 1, by omega⟩
      have hiL : i < L.length := by omega
      have hIn := h.in (by omega)
      obtain ⟨b, o, rfl, hbl, hc⟩ := (hIn.keep F0.out).at hiL
      have D : Hid (∀ W g, (decide (L[i]?.getD 0 = 0)) = !g → Fr [] w W → (Ending.returned (.bool g) = .returned (.bool (rightP s L)) ∧ Fr [] w W)) := Lib.hid (fun W g e hF => ⟨by
        have e1 : rightP s L = g := by
          unfold rightP
          rw [decide_eq_true (show L.length ≤ 64 by omega), decide_eq_false (show ¬ L.length = 0 by omega)]
          have e2 : decide (lims (val L) = L) = g := by
            rw [Bool.eq_iff_iff, decide_eq_true_eq, lims_iff h.lim]
            have e3 : Top L ↔ L[i]?.getD 0 ≠ 0 := by
              constructor
              · intro t; exact t i (by omega)
              · intro t j hj
                have : j = i := by omega
                rw [this]; exact t
            rw [e3]
            cases g <;> simp at e <;> simp [e]
          rw [e2]; simp
        rw [e1], hF⟩)
      have e1 : (len : Int) - 1 = (i : Int) := by omega
      have e2 : (i : Int) < (len : Int) := by omega
      have e3 : (0 : Int) ≤ (i : Int) := by omega
      obtain ⟨x, hx⟩ : ∃ x, x = L[i]?.getD 0 := ⟨_, rfl⟩
      rw [← hx] at hc D
      clear h hIn hn hi hiL hx h64 h0 hmx
      by_cases hx0 : x = 0
      · have DX := Lib.hid (fun W hF => D.out W false (by rw [hx0]; rfl) hF)
        have hxb : ((x : Int) == 0) = true := by rw [hx0]; rfl
        have hxI : (x : Int) = 0 := by omega
        clear hx0 D
        go_enter Tryz.func72, Tryz.ntmps72
        go_wp2
        go_ret
        exact DX.out _ F0.out
      · have DX := Lib.hid (fun W hF => D.out W true (by simp [hx0]) hF)
        have hxb : ((x : Int) == 0) = false := by rw [beq_eq_false_iff_ne]; omega
        have hxI : ¬ (x : Int) = 0 := by omega
        have HN : Hid (((x : Int) != 0) = true) := Lib.hid (by rw [bne_iff_ne]; omega)
        clear hx0 D
        go_enter Tryz.func72, Tryz.ntmps72
        go_wp2
        go_ret
        refine ⟨?_, F0.out⟩
        show Ending.returned (.bool ((x : Int) != 0)) = _
        rw [HN.out]
        exact (DX.out _ F0.out).1
    · have hI : ¬ (len : Int) ≤ 64 := by omega
      have D : Hid (∀ W, Fr [] w W → (Ending.returned (.bool false) = .returned (.bool (rightP s L)) ∧ Fr [] w W)) := Lib.hid (fun W hF => ⟨by
        have e : rightP s L = false := by unfold rightP; rw [decide_eq_false (show ¬ L.length ≤ 64 by omega)]; rfl
        rw [e], hF⟩)
      clear h hn h64 h0
      go_enter Tryz.func72, Tryz.ntmps72
      go_wp2
      go_ret
      exact D.out _ F0.out
end Go.Proofs.YtjdanblijcdllaaGreatDoor
/- Exact: powers, on paper. -/
namespace Go.Proofs.YtjdanblijcdllaaGreatDoor
open Go.ChangeShapes Go.WideShapes Go.RowKit
variable {w w' w2 wr : World} {a b : Option Addr} {cap cap2 : Nat} {L M : List Nat} {B : Nat}
/-- A power: what is left of the exponent, what has come out, the number's square. -/
def powP (k : Nat) (so : Bool) (no : Nat) (sa : Bool) (na : Nat) : Option (Bool × Nat) :=
  if k % 2 = 1 ∧ fits (no * na) = false then none
  else if _h : k / 2 = 0 then some (if k % 2 = 1 then (sg (so != sa) (no * na), no * na) else (so, no))
  else if fits (na * na) = false then none
  else powP (k / 2) (if k % 2 = 1 then sg (so != sa) (no * na) else so) (if k % 2 = 1 then no * na else no) (sg (sa != sa) (na * na)) (na * na)
termination_by k
decreasing_by omega
theorem pow_big {k no na : Nat} {so sa : Bool} (h : k % 2 = 1) (hf : fits (no * na) = false) : powP k so no sa na = none := by
  rw [powP, if_pos ⟨h, hf⟩]
theorem pow_odd_end {k no na : Nat} {so sa : Bool} (h : k % 2 = 1) (hf : fits (no * na) = true) (h2 : k / 2 = 0) : powP k so no sa na = some (sg (so != sa) (no * na), no * na) := by
  rw [powP, if_neg (by rw [hf]; simp), dif_pos h2, if_pos h]
theorem pow_even_end {k no na : Nat} {so sa : Bool} (h : ¬ k % 2 = 1) (h2 : k / 2 = 0) : powP k so no sa na = some (so, no) := by
  rw [powP, if_neg (by simp [h]), dif_pos h2, if_neg h]
theorem pow_odd_big {k no na : Nat} {so sa : Bool} (_ : k % 2 = 1) (hf : fits (no * na) = true) (h2 : ¬ k / 2 = 0) (hg : fits (na * na) = false) : powP k so no sa na = none := by
  rw [powP, if_neg (by rw [hf]; simp), dif_neg h2, if_pos hg]
theorem pow_even_big {k no na : Nat} {so sa : Bool} (h : ¬ k % 2 = 1) (h2 : ¬ k / 2 = 0) (hg : fits (na * na) = false) : powP k so no sa na = none := by
  rw [powP, if_neg (by simp [h]), dif_neg h2, if_pos hg]
theorem pow_odd {k no na : Nat} {so sa : Bool} (h : k % 2 = 1) (hf : fits (no * na) = true) (h2 : ¬ k / 2 = 0) (hg : fits (na * na) = true) : powP k so no sa na = powP (k / 2) (sg (so != sa) (no * na)) (no * na) (sg (sa != sa) (na * na)) (na * na) := by
  rw [powP, if_neg (by rw [hf]; simp), dif_neg h2, if_neg (by rw [hg]; decide), if_pos h, if_pos h]
theorem pow_even {k no na : Nat} {so sa : Bool} (h : ¬ k % 2 = 1) (h2 : ¬ k / 2 = 0) (hg : fits (na * na) = true) : powP k so no sa na = powP (k / 2) so no (sg (sa != sa) (na * na)) (na * na) := by
  rw [powP, if_neg (by simp [h]), dif_neg h2, if_neg (by rw [hg]; decide), if_neg h, if_neg h]
theorem and_one (k : Nat) (hk : k ≤ 1000) : bits BinOp.and IntKind.i64 (k : Int) 1 = ((k % 2 : Nat) : Int) := by
  have : ∀ k : Fin 1001, bits BinOp.and IntKind.i64 ((k.val : Nat) : Int) 1 = ((k.val % 2 : Nat) : Int) := by decide +kernel
  exact this ⟨k, by omega⟩
/-- What a power gives. -/
def PowI (w : World) (T : Option (Bool × Nat)) (e : Ending) (w' : World) : Prop :=
  match T with
  | some (s, n) => ∃ a c, e = .returned (.tuple #[.agg #[.bool s, .slice a (lims n).length c], .int .i64 0]) ∧ In w' a c (lims n) ∧ Fr [] w w'
  | none => e = .returned (.tuple #[.agg #[.bool false, .slice none 0 0], .int .i64 11]) ∧ Fr [] w w'
end Go.Proofs.YtjdanblijcdllaaGreatDoor
/- Exact: powers. -/
namespace Go.Proofs.YtjdanblijcdllaaGreatDoor
open Go.ChangeShapes Go.WideShapes Go.RowKit
variable {w w' w2 wr : World} {a b : Option Addr} {cap cap2 : Nat} {L M : List Nat} {B : Nat}
set_option maxRecDepth 100000 in
set_option maxHeartbeats 8000000 in
theorem epow_c (w : World) (s : Bool) (n k : Nat) (hk : k ≤ 1000) (hn : fits n = true) (h : In w a cap (lims n)) (h2 : In w b cap2 (lims k)) : Calls Tryz.prog 61 #[.agg #[.bool s, .slice a (lims n).length cap], .agg #[.bool false, .slice b (lims k).length cap2]] w (PowI w (powP k false 1 s n)) := by
  have H := Lib.hid h
  have H2 := Lib.hid h2
  clear h h2
  have F0 : Hid (Fr [] w (((w.alloc (.cells #[.bool s, .slice a (lims n).length cap] 25)).alloc (.cells #[.bool false, .slice b (lims k).length cap2] 25)).alloc (.cells #[.bool false, .slice none 0 0] 25))) := Lib.hid ((((Fr.refl [] w).alloc _).alloc _).alloc _)
  have P : Hid (Bx (((w.alloc (.cells #[.bool s, .slice a (lims n).length cap] 25)).alloc (.cells #[.bool false, .slice b (lims k).length cap2] 25)).alloc (.cells #[.bool false, .slice none 0 0] 25)) (w.heap.size) (.bool s) (.slice a (lims n).length cap)) := Lib.hid ((Bx.new _ _ _).fr (((Fr.refl [] _).alloc _).alloc _))
  have Q : Hid (Bx (((w.alloc (.cells #[.bool s, .slice a (lims n).length cap] 25)).alloc (.cells #[.bool false, .slice b (lims k).length cap2] 25)).alloc (.cells #[.bool false, .slice none 0 0] 25)) (w.heap.size + 1) (.bool false) (.slice b (lims k).length cap2)) := Lib.hid (((Bx.new _ _ _).eq (by simp)).fr ((Fr.refl [] _).alloc _))
  have R : Hid (Bx (((w.alloc (.cells #[.bool s, .slice a (lims n).length cap] 25)).alloc (.cells #[.bool false, .slice b (lims k).length cap2] 25)).alloc (.cells #[.bool false, .slice none 0 0] 25)) (w.heap.size + 2) (.bool false) (.slice none 0 0)) := Lib.hid (((Bx.new _ _ _).eq (by simp)).fr (Fr.refl [] _))
  replace pc0 := P.out.c0
  replace pc1 := P.out.c1
  replace pl := P.out.lt
  replace qc0 := Q.out.c0
  replace qc1 := Q.out.c1
  replace ql := Q.out.lt
  replace rc0 := R.out.c0
  replace rc1 := R.out.c1
  replace rl := R.out.lt
  replace rf0 := R.out.f 0
  replace rf1 := R.out.f 1
  have CS : Hid (∀ W, Fr [] w W → Calls Tryz.prog 114 #[.agg #[.bool false, .slice b (lims k).length cap2]] W fun e w' => e = .returned (.tuple #[.int .i64 (k : Int), .bool true]) ∧ Fr [] W w') := Lib.hid (fun W hW => (esmall_c W false k (H2.out.keep hW)).mono (fun e w' h => by
    have hb : smB false k = true := by unfold smB; rw [decide_eq_true_eq]; omega
    unfold SmallI at h
    rw [if_pos hb] at h
    exact h))
  have CO : Hid (∀ W, Calls Tryz.prog 56 #[.int .i64 1] W (GivesI W false 1)) := Lib.hid (fun W => eof_c W 1 (by decide) (by decide))
  have CM : Hid (∀ W sx x ax cx sy y ay cy, In W ax cx (lims x) → In W ay cy (lims y) → fits x = true → fits y = true → Calls Tryz.prog 115 #[.agg #[.bool sx, .slice ax (lims x).length cx], .agg #[.bool sy, .slice ay (lims y).length cy]] W (CapI W (fits (x * y)) (sg (sx != sy) (x * y)) (x * y))) := Lib.hid (fun W sx x ax cx sy y ay cy h1 h2 hx hy => emul_c W sx sy x y h1 h2 hx hy)
  obtain ⟨T, hT⟩ : ∃ T, T = powP k false 1 s n := ⟨_, rfl⟩
  have HT : Hid (powP k false 1 s n = T) := Lib.hid hT.symm
  rw [← hT]
  clear hT
  have hk1 : ¬ (k : Int) < 0 := by omega
  have hk2 : ¬ (1000 : Int) < (k : Int) := by omega
  go_enter Tryz.func61, Tryz.ntmps61
  go_wp2_with fail
  refine (CS.out _ F0.out).mono ?_
  rintro e w1 ⟨rfl, F1⟩
  replace P := Lib.hid (P.out.fr F1)
  replace pc0 := P.out.c0
  replace pc1 := P.out.c1
  replace pl := P.out.lt
  replace Q := Lib.hid (Q.out.fr F1)
  replace qc0 := Q.out.c0
  replace qc1 := Q.out.c1
  replace ql := Q.out.lt
  replace R := Lib.hid (R.out.fr F1)
  replace rc0 := R.out.c0
  replace rc1 := R.out.c1
  replace rl := R.out.lt
  replace rf0 := R.out.f 0
  replace rf1 := R.out.f 1
  have FW := Lib.hid (F0.out.same F1)
  clear F1
  go_wp2_with fail
  refine (CO.out _).mono ?_
  rintro e w2 ⟨a2, c2, rfl, I2, F2⟩
  have hko : w.heap.size + 2 < w2.heap.size := (R.out.fr F2).lt
  replace P := Lib.hid (P.out.fr (F2.alloc (.cells #[.bool false, .slice a2 (lims 1).length c2] 25)))
  replace pc0 := P.out.c0
  replace pc1 := P.out.c1
  replace pl := P.out.lt
  replace Q := Lib.hid (Q.out.fr (F2.alloc (.cells #[.bool false, .slice a2 (lims 1).length c2] 25)))
  replace qc0 := Q.out.c0
  replace qc1 := Q.out.c1
  replace ql := Q.out.lt
  replace R := Lib.hid (R.out.fr (F2.alloc (.cells #[.bool false, .slice a2 (lims 1).length c2] 25)))
  replace rc0 := R.out.c0
  replace rc1 := R.out.c1
  replace rl := R.out.lt
  replace rf0 := R.out.f 0
  replace rf1 := R.out.f 1
  have O := Lib.hid (Bx.new w2 (.bool false) (.slice a2 (lims 1).length c2))
  have I2 := Lib.hid (I2.keep ((Fr.refl [] _).alloc (.cells #[.bool false, .slice a2 (lims 1).length c2] 25)))
  have FW := Lib.hid (FW.out.same (F2.alloc (.cells #[.bool false, .slice a2 (lims 1).length c2] 25)))
  have I1 := Lib.hid (H.out.keep FW.out)
  have FT : Hid (fits 1 = true ∧ fits n = true) := Lib.hid ⟨by decide +kernel, hn⟩
  clear F2 H2 CS CO Q qc0 qc1 ql
  go_wp2_with fail
  go_loopg [6, 9] k (fun j s6 _ wr => ∃ (so : Bool) (no : Nat) (ao : Option Addr) (co : Nat) (sa : Bool) (na : Nat) (aa : Option Addr) (ca : Nat), s6 = .int .i64 (j : Int) ∧ Hid (j ≤ 1000) ∧ Hid (In wr ao co (lims no)) ∧ Hid (In wr aa ca (lims na)) ∧ Hid (Bx wr w.heap.size (.bool sa) (.slice aa (lims na).length ca)) ∧ Hid (Bx wr w2.heap.size (.bool so) (.slice ao (lims no).length co)) ∧ Hid (Bx wr (w.heap.size + 2) (.bool false) (.slice none 0 0)) ∧ Hid (fits no = true ∧ fits na = true) ∧ Hid (powP j so no sa na = T) ∧ Hid (Fr [] w wr))
  case atStart => exact ⟨false, 1, a2, c2, s, n, a, cap, rfl, Lib.hid hk, I2, I1, P, O, R, FT, HT, FW⟩
  case round =>
    obtain ⟨so, no, ao, co, sa, na, aa, ca, rfl, hj, IO, IA, P, O, R, FT, HT, FW⟩ := hrel
    clear pc0 pc1 pl rc0 rc1 rl rf0 rf1 I2 I1
    have pc0 := P.out.c0
    have pc1 := P.out.c1
    have pl := P.out.lt
    have pf0 := P.out.f 0
    have pf1 := P.out.f 1
    have oc0 := O.out.c0
    have oc1 := O.out.c1
    have ol := O.out.lt
    have of0 := O.out.f 0
    have of1 := O.out.f 1
    have rc0 := R.out.c0
    have rc1 := R.out.c1
    have rl := R.out.lt
    have rf0 := R.out.f 0
    have rf1 := R.out.f 1
    have hneP : w.heap.size ≠ w2.heap.size := by omega
    have hneR : w.heap.size + 2 ≠ w2.heap.size := by omega
    have hneQ : w.heap.size + 2 ≠ w.heap.size := by omega
    have hneO : w2.heap.size ≠ w.heap.size := by omega
    have hle : w.heap.size ≤ w2.heap.size := by omega
    by_cases hodd : gk % 2 = 1
    · have hb : (bits BinOp.and IntKind.i64 (gk : Int) 1 == 1) = true := by rw [and_one gk hj.out, hodd]; rfl
      obtain ⟨n3, hn3⟩ : ∃ x, x = no * na := ⟨_, rfl⟩
      obtain ⟨s3, hs3⟩ : ∃ x, x = sg (so != sa) n3 := ⟨_, rfl⟩
      have CK : Hid (Calls Tryz.prog 115 #[.agg #[.bool so, .slice ao (lims no).length co], .agg #[.bool sa, .slice aa (lims na).length ca]] wr (CapI wr (fits n3) s3 n3)) := Lib.hid (by rw [hs3, hn3]; exact CM.out wr so no ao co sa na aa ca IO.out IA.out FT.out.1 FT.out.2)
      cases hf : fits n3 with
      | false =>
        have HT2 := HT.out
        rw [pow_big hodd (by rw [← hn3]; exact hf)] at HT2
        have D : Hid (∀ W, Fr [] w W → PowI w T (.returned (.tuple #[.agg #[.bool false, .slice none 0 0], .int .i64 11])) W) := Lib.hid (fun W h => by rw [← HT2]; exact ⟨rfl, h⟩)
        rw [hf] at CK
        clear HT HT2 FT CM hf hn3 hs3 hodd hj
        go_wp2_with fail
        refine CK.out.mono ?_
        rintro e w3 ⟨rfl, F3⟩
        replace P := Lib.hid (P.out.fr F3)
        replace pc0 := P.out.c0
        replace pc1 := P.out.c1
        replace pl := P.out.lt
        replace pf0 := P.out.f 0
        replace pf1 := P.out.f 1
        replace O := Lib.hid (O.out.fr F3)
        replace oc0 := O.out.c0
        replace oc1 := O.out.c1
        replace ol := O.out.lt
        replace of0 := O.out.f 0
        replace of1 := O.out.f 1
        replace R := Lib.hid (R.out.fr F3)
        replace rc0 := R.out.c0
        replace rc1 := R.out.c1
        replace rl := R.out.lt
        replace rf0 := R.out.f 0
        replace rf1 := R.out.f 1
        replace IO := Lib.hid (IO.out.keep F3)
        replace IA := Lib.hid (IA.out.keep F3)
        replace FW := Lib.hid (FW.out.same F3)
        clear F3 CK
        have z1c0 := O.out.c0
        have z1c1 := O.out.c1
        have z1f0 := O.out.f 0
        have z1f1 := O.out.f 1
        replace FW := Lib.hid (FW.out.set2 hle (.bool false) (.slice none 0 0))
        replace P := Lib.hid (P.out.other hneP (.bool false) (.slice none 0 0))
        replace pc0 := P.out.c0
        replace pc1 := P.out.c1
        replace pl := P.out.lt
        replace pf0 := P.out.f 0
        replace pf1 := P.out.f 1
        replace R := Lib.hid (R.out.other hneR (.bool false) (.slice none 0 0))
        replace rc0 := R.out.c0
        replace rc1 := R.out.c1
        replace rl := R.out.lt
        replace rf0 := R.out.f 0
        replace rf1 := R.out.f 1
        replace O := Lib.hid (O.out.set (.bool false) (.slice none 0 0))
        replace oc0 := O.out.c0
        replace oc1 := O.out.c1
        replace ol := O.out.lt
        replace of0 := O.out.f 0
        replace of1 := O.out.f 1
        clear IO IA
        go_wp2
        refine bodyPost_ret (ret_iv2 rfl _ _ _ _ _ rfl (R.out.set _ _)) rfl ?_
        exact D.out _ (FW.out.set2 (by omega) _ _)
      | true =>
        rw [hf] at CK
        rw [hn3] at hf
        by_cases h2 : gk / 2 = 0
        · have h2b : ((gk : Int) / 2 == 0) = true := by rw [beq_iff_eq]; omega
          have HT2 := HT.out
          rw [pow_odd_end hodd hf h2, ← hn3, ← hs3] at HT2
          have D : Hid (∀ W a c, In W a c (lims n3) → Fr [] w W → PowI w T (.returned (.tuple #[.agg #[.bool s3, .slice a (lims n3).length c], .int .i64 0])) W) := Lib.hid (fun W a c h1 h => by rw [← HT2]; exact ⟨a, c, rfl, h1, h⟩)
          clear HT HT2 FT CM h2 hodd hj
          clear hf hs3 hn3
          go_wp2_with fail
          refine CK.out.mono ?_
          rintro e w3 ⟨a3, c3, rfl, I3, F3⟩
          replace I3 := Lib.hid I3
          replace P := Lib.hid (P.out.fr F3)
          replace pc0 := P.out.c0
          replace pc1 := P.out.c1
          replace pl := P.out.lt
          replace pf0 := P.out.f 0
          replace pf1 := P.out.f 1
          replace O := Lib.hid (O.out.fr F3)
          replace oc0 := O.out.c0
          replace oc1 := O.out.c1
          replace ol := O.out.lt
          replace of0 := O.out.f 0
          replace of1 := O.out.f 1
          replace R := Lib.hid (R.out.fr F3)
          replace rc0 := R.out.c0
          replace rc1 := R.out.c1
          replace rl := R.out.lt
          replace rf0 := R.out.f 0
          replace rf1 := R.out.f 1
          replace IO := Lib.hid (IO.out.keep F3)
          replace IA := Lib.hid (IA.out.keep F3)
          replace FW := Lib.hid (FW.out.same F3)
          clear F3 CK
          have z2c0 := O.out.c0
          have z2c1 := O.out.c1
          have z2f0 := O.out.f 0
          have z2f1 := O.out.f 1
          replace IA := Lib.hid (IA.out.set2 O.out (.bool s3) (.slice a3 (lims n3).length c3))
          replace I3 := Lib.hid (I3.out.set2 O.out (.bool s3) (.slice a3 (lims n3).length c3))
          replace FW := Lib.hid (FW.out.set2 hle (.bool s3) (.slice a3 (lims n3).length c3))
          replace P := Lib.hid (P.out.other hneP (.bool s3) (.slice a3 (lims n3).length c3))
          replace pc0 := P.out.c0
          replace pc1 := P.out.c1
          replace pl := P.out.lt
          replace pf0 := P.out.f 0
          replace pf1 := P.out.f 1
          replace R := Lib.hid (R.out.other hneR (.bool s3) (.slice a3 (lims n3).length c3))
          replace rc0 := R.out.c0
          replace rc1 := R.out.c1
          replace rl := R.out.lt
          replace rf0 := R.out.f 0
          replace rf1 := R.out.f 1
          replace O := Lib.hid (O.out.set (.bool s3) (.slice a3 (lims n3).length c3))
          replace oc0 := O.out.c0
          replace oc1 := O.out.c1
          replace ol := O.out.lt
          replace of0 := O.out.f 0
          replace of1 := O.out.f 1
          clear IO
          have IO := I3
          clear I3
          go_wp2
          refine bodyPost_ret (ret_iv2 rfl _ _ _ _ _ rfl (R.out.set _ _)) rfl ?_
          exact D.out _ _ _ (IO.out.set2 R.out _ _) (FW.out.set2 (by omega) _ _)
        · have h2b : ((gk : Int) / 2 == 0) = false := by rw [beq_eq_false_iff_ne]; omega
          obtain ⟨n4, hn4⟩ : ∃ x, x = na * na := ⟨_, rfl⟩
          obtain ⟨s4, hs4⟩ : ∃ x, x = sg (sa != sa) n4 := ⟨_, rfl⟩
          have C4 : Hid (∀ W a1 c1 a2 c2, In W a1 c1 (lims na) → In W a2 c2 (lims na) → Calls Tryz.prog 115 #[.agg #[.bool sa, .slice a1 (lims na).length c1], .agg #[.bool sa, .slice a2 (lims na).length c2]] W (CapI W (fits n4) s4 n4)) := Lib.hid (fun W a1 c1 a2 c2 h1 h2 => by rw [hs4, hn4]; exact CM.out W sa na a1 c1 sa na a2 c2 h1 h2 FT.out.2 FT.out.2)
          cases hg : fits n4 with
          | false =>
            have HT2 := HT.out
            rw [pow_odd_big hodd hf h2 (by rw [← hn4]; exact hg)] at HT2
            have D : Hid (∀ W, Fr [] w W → PowI w T (.returned (.tuple #[.agg #[.bool false, .slice none 0 0], .int .i64 11])) W) := Lib.hid (fun W h => by rw [← HT2]; exact ⟨rfl, h⟩)
            rw [hg] at C4
            clear HT HT2 FT CM h2 hodd hj hg hs4 hn4
            clear hf hs3 hn3
            go_wp2_with fail
            refine CK.out.mono ?_
            rintro e w3 ⟨a3, c3, rfl, I3, F3⟩
            replace I3 := Lib.hid I3
            replace P := Lib.hid (P.out.fr F3)
            replace pc0 := P.out.c0
            replace pc1 := P.out.c1
            replace pl := P.out.lt
            replace pf0 := P.out.f 0
            replace pf1 := P.out.f 1
            replace O := Lib.hid (O.out.fr F3)
            replace oc0 := O.out.c0
            replace oc1 := O.out.c1
            replace ol := O.out.lt
            replace of0 := O.out.f 0
            replace of1 := O.out.f 1
            replace R := Lib.hid (R.out.fr F3)
            replace rc0 := R.out.c0
            replace rc1 := R.out.c1
            replace rl := R.out.lt
            replace rf0 := R.out.f 0
            replace rf1 := R.out.f 1
            replace IO := Lib.hid (IO.out.keep F3)
            replace IA := Lib.hid (IA.out.keep F3)
            replace FW := Lib.hid (FW.out.same F3)
            clear F3 CK
            have z3c0 := O.out.c0
            have z3c1 := O.out.c1
            have z3f0 := O.out.f 0
            have z3f1 := O.out.f 1
            replace IA := Lib.hid (IA.out.set2 O.out (.bool s3) (.slice a3 (lims n3).length c3))
            replace I3 := Lib.hid (I3.out.set2 O.out (.bool s3) (.slice a3 (lims n3).length c3))
            replace FW := Lib.hid (FW.out.set2 hle (.bool s3) (.slice a3 (lims n3).length c3))
            replace P := Lib.hid (P.out.other hneP (.bool s3) (.slice a3 (lims n3).length c3))
            replace pc0 := P.out.c0
            replace pc1 := P.out.c1
            replace pl := P.out.lt
            replace pf0 := P.out.f 0
            replace pf1 := P.out.f 1
            replace R := Lib.hid (R.out.other hneR (.bool s3) (.slice a3 (lims n3).length c3))
            replace rc0 := R.out.c0
            replace rc1 := R.out.c1
            replace rl := R.out.lt
            replace rf0 := R.out.f 0
            replace rf1 := R.out.f 1
            replace O := Lib.hid (O.out.set (.bool s3) (.slice a3 (lims n3).length c3))
            replace oc0 := O.out.c0
            replace oc1 := O.out.c1
            replace ol := O.out.lt
            replace of0 := O.out.f 0
            replace of1 := O.out.f 1
            clear IO
            have IO := I3
            clear I3
            have CK := Lib.hid (C4.out _ _ _ _ _ IA.out IA.out)
            clear C4
            go_wp2_with fail
            refine CK.out.mono ?_
            rintro e w4 ⟨rfl, F4⟩
            replace P := Lib.hid (P.out.fr F4)
            replace pc0 := P.out.c0
            replace pc1 := P.out.c1
            replace pl := P.out.lt
            replace pf0 := P.out.f 0
            replace pf1 := P.out.f 1
            replace O := Lib.hid (O.out.fr F4)
            replace oc0 := O.out.c0
            replace oc1 := O.out.c1
            replace ol := O.out.lt
            replace of0 := O.out.f 0
            replace of1 := O.out.f 1
            replace R := Lib.hid (R.out.fr F4)
            replace rc0 := R.out.c0
            replace rc1 := R.out.c1
            replace rl := R.out.lt
            replace rf0 := R.out.f 0
            replace rf1 := R.out.f 1
            replace IO := Lib.hid (IO.out.keep F4)
            replace IA := Lib.hid (IA.out.keep F4)
            replace FW := Lib.hid (FW.out.same F4)
            clear F4 CK
            have z4c0 := P.out.c0
            have z4c1 := P.out.c1
            have z4f0 := P.out.f 0
            have z4f1 := P.out.f 1
            replace FW := Lib.hid (FW.out.set2 (Nat.le_refl _) (.bool false) (.slice none 0 0))
            replace O := Lib.hid (O.out.other hneO (.bool false) (.slice none 0 0))
            replace oc0 := O.out.c0
            replace oc1 := O.out.c1
            replace ol := O.out.lt
            replace of0 := O.out.f 0
            replace of1 := O.out.f 1
            replace R := Lib.hid (R.out.other hneQ (.bool false) (.slice none 0 0))
            replace rc0 := R.out.c0
            replace rc1 := R.out.c1
            replace rl := R.out.lt
            replace rf0 := R.out.f 0
            replace rf1 := R.out.f 1
            replace P := Lib.hid (P.out.set (.bool false) (.slice none 0 0))
            replace pc0 := P.out.c0
            replace pc1 := P.out.c1
            replace pl := P.out.lt
            replace pf0 := P.out.f 0
            replace pf1 := P.out.f 1
            clear IO IA
            go_wp2
            refine bodyPost_ret (ret_iv2 rfl _ _ _ _ _ rfl (R.out.set _ _)) rfl ?_
            exact D.out _ (FW.out.set2 (by omega) _ _)
          | true =>
            have HT2 := HT.out
            rw [pow_odd hodd hf h2 (by rw [← hn4]; exact hg), ← hn4, ← hs4, ← hn3, ← hs3] at HT2
            replace HT := Lib.hid HT2
            have FT2 : Hid (fits n3 = true ∧ fits n4 = true) := Lib.hid ⟨by rw [hn3]; exact hf, hg⟩
            have hj2 : Hid (gk / 2 ≤ 1000) := Lib.hid (by have := hj.out; omega)
            have hm : Hid (gk / 2 < gk) := Lib.hid (by omega)
            have hcast : Hid (((gk / 2 : Nat) : Int) = (gk : Int) / 2) := Lib.hid (by omega)
            rw [hg] at C4
            clear HT2 FT CM h2 hodd hj hg hs4 hn4
            clear hf hs3 hn3
            go_wp2_with fail
            refine CK.out.mono ?_
            rintro e w3 ⟨a3, c3, rfl, I3, F3⟩
            replace I3 := Lib.hid I3
            replace P := Lib.hid (P.out.fr F3)
            replace pc0 := P.out.c0
            replace pc1 := P.out.c1
            replace pl := P.out.lt
            replace pf0 := P.out.f 0
            replace pf1 := P.out.f 1
            replace O := Lib.hid (O.out.fr F3)
            replace oc0 := O.out.c0
            replace oc1 := O.out.c1
            replace ol := O.out.lt
            replace of0 := O.out.f 0
            replace of1 := O.out.f 1
            replace R := Lib.hid (R.out.fr F3)
            replace rc0 := R.out.c0
            replace rc1 := R.out.c1
            replace rl := R.out.lt
            replace rf0 := R.out.f 0
            replace rf1 := R.out.f 1
            replace IO := Lib.hid (IO.out.keep F3)
            replace IA := Lib.hid (IA.out.keep F3)
            replace FW := Lib.hid (FW.out.same F3)
            clear F3 CK
            have z5c0 := O.out.c0
            have z5c1 := O.out.c1
            have z5f0 := O.out.f 0
            have z5f1 := O.out.f 1
            replace IA := Lib.hid (IA.out.set2 O.out (.bool s3) (.slice a3 (lims n3).length c3))
            replace I3 := Lib.hid (I3.out.set2 O.out (.bool s3) (.slice a3 (lims n3).length c3))
            replace FW := Lib.hid (FW.out.set2 hle (.bool s3) (.slice a3 (lims n3).length c3))
            replace P := Lib.hid (P.out.other hneP (.bool s3) (.slice a3 (lims n3).length c3))
            replace pc0 := P.out.c0
            replace pc1 := P.out.c1
            replace pl := P.out.lt
            replace pf0 := P.out.f 0
            replace pf1 := P.out.f 1
            replace R := Lib.hid (R.out.other hneR (.bool s3) (.slice a3 (lims n3).length c3))
            replace rc0 := R.out.c0
            replace rc1 := R.out.c1
            replace rl := R.out.lt
            replace rf0 := R.out.f 0
            replace rf1 := R.out.f 1
            replace O := Lib.hid (O.out.set (.bool s3) (.slice a3 (lims n3).length c3))
            replace oc0 := O.out.c0
            replace oc1 := O.out.c1
            replace ol := O.out.lt
            replace of0 := O.out.f 0
            replace of1 := O.out.f 1
            clear IO
            have IO := I3
            clear I3
            have CK := Lib.hid (C4.out _ _ _ _ _ IA.out IA.out)
            clear C4
            go_wp2_with fail
            refine CK.out.mono ?_
            rintro e w4 ⟨a4, c4, rfl, I4, F4⟩
            replace I4 := Lib.hid I4
            replace P := Lib.hid (P.out.fr F4)
            replace pc0 := P.out.c0
            replace pc1 := P.out.c1
            replace pl := P.out.lt
            replace pf0 := P.out.f 0
            replace pf1 := P.out.f 1
            replace O := Lib.hid (O.out.fr F4)
            replace oc0 := O.out.c0
            replace oc1 := O.out.c1
            replace ol := O.out.lt
            replace of0 := O.out.f 0
            replace of1 := O.out.f 1
            replace R := Lib.hid (R.out.fr F4)
            replace rc0 := R.out.c0
            replace rc1 := R.out.c1
            replace rl := R.out.lt
            replace rf0 := R.out.f 0
            replace rf1 := R.out.f 1
            replace IO := Lib.hid (IO.out.keep F4)
            replace IA := Lib.hid (IA.out.keep F4)
            replace FW := Lib.hid (FW.out.same F4)
            clear F4 CK
            have z6c0 := P.out.c0
            have z6c1 := P.out.c1
            have z6f0 := P.out.f 0
            have z6f1 := P.out.f 1
            replace IO := Lib.hid (IO.out.set2 P.out (.bool s4) (.slice a4 (lims n4).length c4))
            replace I4 := Lib.hid (I4.out.set2 P.out (.bool s4) (.slice a4 (lims n4).length c4))
            replace FW := Lib.hid (FW.out.set2 (Nat.le_refl _) (.bool s4) (.slice a4 (lims n4).length c4))
            replace O := Lib.hid (O.out.other hneO (.bool s4) (.slice a4 (lims n4).length c4))
            replace oc0 := O.out.c0
            replace oc1 := O.out.c1
            replace ol := O.out.lt
            replace of0 := O.out.f 0
            replace of1 := O.out.f 1
            replace R := Lib.hid (R.out.other hneQ (.bool s4) (.slice a4 (lims n4).length c4))
            replace rc0 := R.out.c0
            replace rc1 := R.out.c1
            replace rl := R.out.lt
            replace rf0 := R.out.f 0
            replace rf1 := R.out.f 1
            replace P := Lib.hid (P.out.set (.bool s4) (.slice a4 (lims n4).length c4))
            replace pc0 := P.out.c0
            replace pc1 := P.out.c1
            replace pl := P.out.lt
            replace pf0 := P.out.f 0
            replace pf1 := P.out.f 1
            clear IA
            go_wp2_with fail
            go_roundg (gk / 2)
            case measure => exact hm.out
            case rel => exact ⟨s3, n3, _, _, s4, n4, a4, c4, by rw [hcast.out], hj2, IO, I4, P, O, R, FT2, HT, FW⟩
    · have hb : (bits BinOp.and IntKind.i64 (gk : Int) 1 == 1) = false := by rw [and_one gk hj.out, beq_eq_false_iff_ne]; omega
      by_cases h2 : gk / 2 = 0
      · have h2b : ((gk : Int) / 2 == 0) = true := by rw [beq_iff_eq]; omega
        have HT2 := HT.out
        rw [pow_even_end hodd h2] at HT2
        have D : Hid (∀ W a c, In W a c (lims no) → Fr [] w W → PowI w T (.returned (.tuple #[.agg #[.bool so, .slice a (lims no).length c], .int .i64 0])) W) := Lib.hid (fun W a c h1 h => by rw [← HT2]; exact ⟨a, c, rfl, h1, h⟩)
        clear HT HT2 FT CM h2 hodd hj
        go_wp2
        refine bodyPost_ret (ret_iv2 rfl _ _ _ _ _ rfl (R.out.set _ _)) rfl ?_
        exact D.out _ _ _ (IO.out.set2 R.out _ _) (FW.out.set2 (by omega) _ _)
      · have h2b : ((gk : Int) / 2 == 0) = false := by rw [beq_eq_false_iff_ne]; omega
        obtain ⟨n4, hn4⟩ : ∃ x, x = na * na := ⟨_, rfl⟩
        obtain ⟨s4, hs4⟩ : ∃ x, x = sg (sa != sa) n4 := ⟨_, rfl⟩
        have C4 : Hid (∀ W a1 c1 a2 c2, In W a1 c1 (lims na) → In W a2 c2 (lims na) → Calls Tryz.prog 115 #[.agg #[.bool sa, .slice a1 (lims na).length c1], .agg #[.bool sa, .slice a2 (lims na).length c2]] W (CapI W (fits n4) s4 n4)) := Lib.hid (fun W a1 c1 a2 c2 h1 h2 => by rw [hs4, hn4]; exact CM.out W sa na a1 c1 sa na a2 c2 h1 h2 FT.out.2 FT.out.2)
        cases hg : fits n4 with
        | false =>
          have HT2 := HT.out
          rw [pow_even_big hodd h2 (by rw [← hn4]; exact hg)] at HT2
          have D : Hid (∀ W, Fr [] w W → PowI w T (.returned (.tuple #[.agg #[.bool false, .slice none 0 0], .int .i64 11])) W) := Lib.hid (fun W h => by rw [← HT2]; exact ⟨rfl, h⟩)
          rw [hg] at C4
          clear HT HT2 FT CM h2 hodd hj hg hs4 hn4
          have CK := Lib.hid (C4.out _ _ _ _ _ IA.out IA.out)
          clear C4
          go_wp2_with fail
          refine CK.out.mono ?_
          rintro e w4 ⟨rfl, F4⟩
          replace P := Lib.hid (P.out.fr F4)
          replace pc0 := P.out.c0
          replace pc1 := P.out.c1
          replace pl := P.out.lt
          replace pf0 := P.out.f 0
          replace pf1 := P.out.f 1
          replace O := Lib.hid (O.out.fr F4)
          replace oc0 := O.out.c0
          replace oc1 := O.out.c1
          replace ol := O.out.lt
          replace of0 := O.out.f 0
          replace of1 := O.out.f 1
          replace R := Lib.hid (R.out.fr F4)
          replace rc0 := R.out.c0
          replace rc1 := R.out.c1
          replace rl := R.out.lt
          replace rf0 := R.out.f 0
          replace rf1 := R.out.f 1
          replace IO := Lib.hid (IO.out.keep F4)
          replace IA := Lib.hid (IA.out.keep F4)
          replace FW := Lib.hid (FW.out.same F4)
          clear F4 CK
          have z7c0 := P.out.c0
          have z7c1 := P.out.c1
          have z7f0 := P.out.f 0
          have z7f1 := P.out.f 1
          replace FW := Lib.hid (FW.out.set2 (Nat.le_refl _) (.bool false) (.slice none 0 0))
          replace O := Lib.hid (O.out.other hneO (.bool false) (.slice none 0 0))
          replace oc0 := O.out.c0
          replace oc1 := O.out.c1
          replace ol := O.out.lt
          replace of0 := O.out.f 0
          replace of1 := O.out.f 1
          replace R := Lib.hid (R.out.other hneQ (.bool false) (.slice none 0 0))
          replace rc0 := R.out.c0
          replace rc1 := R.out.c1
          replace rl := R.out.lt
          replace rf0 := R.out.f 0
          replace rf1 := R.out.f 1
          replace P := Lib.hid (P.out.set (.bool false) (.slice none 0 0))
          replace pc0 := P.out.c0
          replace pc1 := P.out.c1
          replace pl := P.out.lt
          replace pf0 := P.out.f 0
          replace pf1 := P.out.f 1
          clear IO IA
          go_wp2
          refine bodyPost_ret (ret_iv2 rfl _ _ _ _ _ rfl (R.out.set _ _)) rfl ?_
          exact D.out _ (FW.out.set2 (by omega) _ _)
        | true =>
          have HT2 := HT.out
          rw [pow_even hodd h2 (by rw [← hn4]; exact hg), ← hn4, ← hs4] at HT2
          replace HT := Lib.hid HT2
          have FT2 : Hid (fits no = true ∧ fits n4 = true) := Lib.hid ⟨FT.out.1, hg⟩
          have hj2 : Hid (gk / 2 ≤ 1000) := Lib.hid (by have := hj.out; omega)
          have hm : Hid (gk / 2 < gk) := Lib.hid (by omega)
          have hcast : Hid (((gk / 2 : Nat) : Int) = (gk : Int) / 2) := Lib.hid (by omega)
          rw [hg] at C4
          clear HT2 FT CM h2 hodd hj hg hs4 hn4
          have CK := Lib.hid (C4.out _ _ _ _ _ IA.out IA.out)
          clear C4
          go_wp2_with fail
          refine CK.out.mono ?_
          rintro e w4 ⟨a4, c4, rfl, I4, F4⟩
          replace I4 := Lib.hid I4
          replace P := Lib.hid (P.out.fr F4)
          replace pc0 := P.out.c0
          replace pc1 := P.out.c1
          replace pl := P.out.lt
          replace pf0 := P.out.f 0
          replace pf1 := P.out.f 1
          replace O := Lib.hid (O.out.fr F4)
          replace oc0 := O.out.c0
          replace oc1 := O.out.c1
          replace ol := O.out.lt
          replace of0 := O.out.f 0
          replace of1 := O.out.f 1
          replace R := Lib.hid (R.out.fr F4)
          replace rc0 := R.out.c0
          replace rc1 := R.out.c1
          replace rl := R.out.lt
          replace rf0 := R.out.f 0
          replace rf1 := R.out.f 1
          replace IO := Lib.hid (IO.out.keep F4)
          replace IA := Lib.hid (IA.out.keep F4)
          replace FW := Lib.hid (FW.out.same F4)
          clear F4 CK
          have z8c0 := P.out.c0
          have z8c1 := P.out.c1
          have z8f0 := P.out.f 0
          have z8f1 := P.out.f 1
          replace IO := Lib.hid (IO.out.set2 P.out (.bool s4) (.slice a4 (lims n4).length c4))
          replace I4 := Lib.hid (I4.out.set2 P.out (.bool s4) (.slice a4 (lims n4).length c4))
          replace FW := Lib.hid (FW.out.set2 (Nat.le_refl _) (.bool s4) (.slice a4 (lims n4).length c4))
          replace O := Lib.hid (O.out.other hneO (.bool s4) (.slice a4 (lims n4).length c4))
          replace oc0 := O.out.c0
          replace oc1 := O.out.c1
          replace ol := O.out.lt
          replace of0 := O.out.f 0
          replace of1 := O.out.f 1
          replace R := Lib.hid (R.out.other hneQ (.bool s4) (.slice a4 (lims n4).length c4))
          replace rc0 := R.out.c0
          replace rc1 := R.out.c1
          replace rl := R.out.lt
          replace rf0 := R.out.f 0
          replace rf1 := R.out.f 1
          replace P := Lib.hid (P.out.set (.bool s4) (.slice a4 (lims n4).length c4))
          replace pc0 := P.out.c0
          replace pc1 := P.out.c1
          replace pl := P.out.lt
          replace pf0 := P.out.f 0
          replace pf1 := P.out.f 1
          clear IA
          go_wp2_with fail
          go_roundg (gk / 2)
          case measure => exact hm.out
          case rel => exact ⟨so, no, _, _, s4, n4, a4, c4, by rw [hcast.out], hj2, IO, I4, P, O, R, FT2, HT, FW⟩
end Go.Proofs.YtjdanblijcdllaaGreatDoor
/- Exact: powers, the document's. -/
namespace Go.Proofs.YtjdanblijcdllaaGreatDoor
open Go.ChangeShapes Go.WideShapes Go.RowKit
variable {w w' w2 wr : World} {a b : Option Addr} {cap cap2 : Nat} {L M : List Nat} {B : Nat}
theorem fits_lt {n : Nat} (h : fits n = true) : ¬ (64 : Int) < ((lims n).length : Int) := by rw [fits_len, decide_eq_true_eq] at h; omega
theorem fits_gt {n : Nat} (h : fits n = false) : (64 : Int) < ((lims n).length : Int) := by rw [fits_len, decide_eq_false_iff_not] at h; omega
set_option maxRecDepth 100000 in
set_option maxHeartbeats 8000000 in
theorem r2pow_c (w : World) (s : Bool) (n k : Nat) (hk : k ≤ 1000) (hn : fits n = true) (h : In w a cap (lims n)) (h2 : In w b cap2 (lims k)) : Calls Tryz.prog 65 #[.agg #[.bool s, .slice a (lims n).length cap], .agg #[.bool false, .slice b (lims k).length cap2]] w (PowI w (powP k false 1 s n)) := by
  have H := Lib.hid h
  have H2 := Lib.hid h2
  clear h h2
  have F0 : Hid (Fr [] w (((w.alloc (.cells #[.bool s, .slice a (lims n).length cap] 25)).alloc (.cells #[.bool false, .slice b (lims k).length cap2] 25)).alloc (.cells #[.bool false, .slice none 0 0] 25))) := Lib.hid ((((Fr.refl [] w).alloc _).alloc _).alloc _)
  have P : Hid (Bx (((w.alloc (.cells #[.bool s, .slice a (lims n).length cap] 25)).alloc (.cells #[.bool false, .slice b (lims k).length cap2] 25)).alloc (.cells #[.bool false, .slice none 0 0] 25)) (w.heap.size) (.bool s) (.slice a (lims n).length cap)) := Lib.hid ((Bx.new _ _ _).fr (((Fr.refl [] _).alloc _).alloc _))
  have Q : Hid (Bx (((w.alloc (.cells #[.bool s, .slice a (lims n).length cap] 25)).alloc (.cells #[.bool false, .slice b (lims k).length cap2] 25)).alloc (.cells #[.bool false, .slice none 0 0] 25)) (w.heap.size + 1) (.bool false) (.slice b (lims k).length cap2)) := Lib.hid (((Bx.new _ _ _).eq (by simp)).fr ((Fr.refl [] _).alloc _))
  have R : Hid (Bx (((w.alloc (.cells #[.bool s, .slice a (lims n).length cap] 25)).alloc (.cells #[.bool false, .slice b (lims k).length cap2] 25)).alloc (.cells #[.bool false, .slice none 0 0] 25)) (w.heap.size + 2) (.bool false) (.slice none 0 0)) := Lib.hid (((Bx.new _ _ _).eq (by simp)).fr (Fr.refl [] _))
  replace pc0 := P.out.c0
  replace pc1 := P.out.c1
  replace pl := P.out.lt
  replace qc0 := Q.out.c0
  replace qc1 := Q.out.c1
  replace ql := Q.out.lt
  replace rc0 := R.out.c0
  replace rc1 := R.out.c1
  replace rl := R.out.lt
  replace rf0 := R.out.f 0
  replace rf1 := R.out.f 1
  have CS : Hid (∀ W, Fr [] w W → Calls Tryz.prog 117 #[.agg #[.bool false, .slice b (lims k).length cap2]] W fun e w' => e = .returned (.tuple #[.int .i64 (k : Int), .bool true]) ∧ Fr [] W w') := Lib.hid (fun W hW => (r2small_c W false k (H2.out.keep hW) (fun h => by cases h)).mono (fun e w' h => by
    have hb : smB false k = true := by unfold smB; rw [decide_eq_true_eq]; omega
    unfold SmallI at h
    rw [if_pos hb] at h
    exact h))
  have CO : Hid (∀ W, Calls Tryz.prog 57 #[.int .i64 1] W (GivesI W false 1)) := Lib.hid (fun W => r2of_c W 1 (by decide) (by decide))
  have LE : Hid (∀ x, fits x = true → (lims x).length ≤ 40000) := Lib.hid (fun x hx => by rw [fits_len, decide_eq_true_eq] at hx; omega)
  have CM : Hid (∀ W sx x ax cx sy y ay cy, In W ax cx (lims x) → In W ay cy (lims y) → fits x = true → fits y = true → Calls Tryz.prog 118 #[.agg #[.bool sx, .slice ax (lims x).length cx], .agg #[.bool sy, .slice ay (lims y).length cy]] W (GivesI W (sg (sx != sy) (x * y)) (x * y))) := Lib.hid (fun W sx x ax cx sy y ay cy h1 h2 hx hy => r2times_c W sx sy x y h1 h2 (LE.out x hx) (LE.out y hy))
  clear LE
  obtain ⟨T, hT⟩ : ∃ T, T = powP k false 1 s n := ⟨_, rfl⟩
  have HT : Hid (powP k false 1 s n = T) := Lib.hid hT.symm
  rw [← hT]
  clear hT
  have hk1 : ¬ (k : Int) < 0 := by omega
  have hk2 : ¬ (1000 : Int) < (k : Int) := by omega
  go_enter Tryz.func65, Tryz.ntmps65
  go_wp2_with fail
  refine (CS.out _ F0.out).mono ?_
  rintro e w1 ⟨rfl, F1⟩
  replace P := Lib.hid (P.out.fr F1)
  replace pc0 := P.out.c0
  replace pc1 := P.out.c1
  replace pl := P.out.lt
  replace Q := Lib.hid (Q.out.fr F1)
  replace qc0 := Q.out.c0
  replace qc1 := Q.out.c1
  replace ql := Q.out.lt
  replace R := Lib.hid (R.out.fr F1)
  replace rc0 := R.out.c0
  replace rc1 := R.out.c1
  replace rl := R.out.lt
  replace rf0 := R.out.f 0
  replace rf1 := R.out.f 1
  have FW := Lib.hid (F0.out.same F1)
  clear F1
  go_wp2_with fail
  refine (CO.out _).mono ?_
  rintro e w2 ⟨a2, c2, rfl, I2, F2⟩
  have hko : w.heap.size + 2 < w2.heap.size := (R.out.fr F2).lt
  replace P := Lib.hid (P.out.fr (F2.alloc (.cells #[.bool false, .slice a2 (lims 1).length c2] 25)))
  replace pc0 := P.out.c0
  replace pc1 := P.out.c1
  replace pl := P.out.lt
  replace Q := Lib.hid (Q.out.fr (F2.alloc (.cells #[.bool false, .slice a2 (lims 1).length c2] 25)))
  replace qc0 := Q.out.c0
  replace qc1 := Q.out.c1
  replace ql := Q.out.lt
  replace R := Lib.hid (R.out.fr (F2.alloc (.cells #[.bool false, .slice a2 (lims 1).length c2] 25)))
  replace rc0 := R.out.c0
  replace rc1 := R.out.c1
  replace rl := R.out.lt
  replace rf0 := R.out.f 0
  replace rf1 := R.out.f 1
  have O := Lib.hid (Bx.new w2 (.bool false) (.slice a2 (lims 1).length c2))
  have I2 := Lib.hid (I2.keep ((Fr.refl [] _).alloc (.cells #[.bool false, .slice a2 (lims 1).length c2] 25)))
  have FW := Lib.hid (FW.out.same (F2.alloc (.cells #[.bool false, .slice a2 (lims 1).length c2] 25)))
  have I1 := Lib.hid (H.out.keep FW.out)
  have FT : Hid (fits 1 = true ∧ fits n = true) := Lib.hid ⟨by decide +kernel, hn⟩
  clear F2 H2 CS CO Q qc0 qc1 ql
  go_wp2_with fail
  go_loopg [6] k (fun j s6 wr => ∃ (so : Bool) (no : Nat) (ao : Option Addr) (co : Nat) (sa : Bool) (na : Nat) (aa : Option Addr) (ca : Nat), s6 = .int .i64 (j : Int) ∧ Hid (j ≤ 1000) ∧ Hid (In wr ao co (lims no)) ∧ Hid (In wr aa ca (lims na)) ∧ Hid (Bx wr w.heap.size (.bool sa) (.slice aa (lims na).length ca)) ∧ Hid (Bx wr w2.heap.size (.bool so) (.slice ao (lims no).length co)) ∧ Hid (Bx wr (w.heap.size + 2) (.bool false) (.slice none 0 0)) ∧ Hid (fits no = true ∧ fits na = true) ∧ Hid (powP j so no sa na = T) ∧ Hid (Fr [] w wr))
  case atStart => exact ⟨false, 1, a2, c2, s, n, a, cap, rfl, Lib.hid hk, I2, I1, P, O, R, FT, HT, FW⟩
  case round =>
    obtain ⟨so, no, ao, co, sa, na, aa, ca, rfl, hj, IO, IA, P, O, R, FT, HT, FW⟩ := hrel
    clear pc0 pc1 pl rc0 rc1 rl rf0 rf1 I2 I1
    have pc0 := P.out.c0
    have pc1 := P.out.c1
    have pl := P.out.lt
    have pf0 := P.out.f 0
    have pf1 := P.out.f 1
    have oc0 := O.out.c0
    have oc1 := O.out.c1
    have ol := O.out.lt
    have of0 := O.out.f 0
    have of1 := O.out.f 1
    have rc0 := R.out.c0
    have rc1 := R.out.c1
    have rl := R.out.lt
    have rf0 := R.out.f 0
    have rf1 := R.out.f 1
    have hneP : w.heap.size ≠ w2.heap.size := by omega
    have hneR : w.heap.size + 2 ≠ w2.heap.size := by omega
    have hneQ : w.heap.size + 2 ≠ w.heap.size := by omega
    have hneO : w2.heap.size ≠ w.heap.size := by omega
    have hle : w.heap.size ≤ w2.heap.size := by omega
    have hjI : (gk : Int) ≤ 1000 := by have := hj.out; omega
    by_cases hodd : gk % 2 = 1
    · have hb : ((gk : Int) % 2 == 1) = true := by rw [beq_iff_eq]; omega
      obtain ⟨n3, hn3⟩ : ∃ x, x = no * na := ⟨_, rfl⟩
      obtain ⟨s3, hs3⟩ : ∃ x, x = sg (so != sa) n3 := ⟨_, rfl⟩
      have CK : Hid (Calls Tryz.prog 118 #[.agg #[.bool so, .slice ao (lims no).length co], .agg #[.bool sa, .slice aa (lims na).length ca]] wr (GivesI wr s3 n3)) := Lib.hid (by rw [hs3, hn3]; exact CM.out wr so no ao co sa na aa ca IO.out IA.out FT.out.1 FT.out.2)
      cases hf : fits n3 with
      | false =>
        have HT2 := HT.out
        rw [pow_big hodd (by rw [← hn3]; exact hf)] at HT2
        have D : Hid (∀ W, Fr [] w W → PowI w T (.returned (.tuple #[.agg #[.bool false, .slice none 0 0], .int .i64 11])) W) := Lib.hid (fun W h => by rw [← HT2]; exact ⟨rfl, h⟩)
        have hlg := fits_gt hf
        clear HT HT2 FT CM hf hn3 hs3 hodd hj
        go_wp2_with fail
        refine CK.out.mono ?_
        rintro e w3 ⟨a3, c3, rfl, I3, F3⟩
        replace I3 := Lib.hid I3
        replace P := Lib.hid (P.out.fr F3)
        replace pc0 := P.out.c0
        replace pc1 := P.out.c1
        replace pl := P.out.lt
        replace pf0 := P.out.f 0
        replace pf1 := P.out.f 1
        replace O := Lib.hid (O.out.fr F3)
        replace oc0 := O.out.c0
        replace oc1 := O.out.c1
        replace ol := O.out.lt
        replace of0 := O.out.f 0
        replace of1 := O.out.f 1
        replace R := Lib.hid (R.out.fr F3)
        replace rc0 := R.out.c0
        replace rc1 := R.out.c1
        replace rl := R.out.lt
        replace rf0 := R.out.f 0
        replace rf1 := R.out.f 1
        replace IO := Lib.hid (IO.out.keep F3)
        replace IA := Lib.hid (IA.out.keep F3)
        replace FW := Lib.hid (FW.out.same F3)
        clear F3 CK
        have z1c0 := O.out.c0
        have z1c1 := O.out.c1
        have z1f0 := O.out.f 0
        have z1f1 := O.out.f 1
        replace IA := Lib.hid (IA.out.set2 O.out (.bool s3) (.slice a3 (lims n3).length c3))
        replace I3 := Lib.hid (I3.out.set2 O.out (.bool s3) (.slice a3 (lims n3).length c3))
        replace FW := Lib.hid (FW.out.set2 hle (.bool s3) (.slice a3 (lims n3).length c3))
        replace P := Lib.hid (P.out.other hneP (.bool s3) (.slice a3 (lims n3).length c3))
        replace pc0 := P.out.c0
        replace pc1 := P.out.c1
        replace pl := P.out.lt
        replace pf0 := P.out.f 0
        replace pf1 := P.out.f 1
        replace R := Lib.hid (R.out.other hneR (.bool s3) (.slice a3 (lims n3).length c3))
        replace rc0 := R.out.c0
        replace rc1 := R.out.c1
        replace rl := R.out.lt
        replace rf0 := R.out.f 0
        replace rf1 := R.out.f 1
        replace O := Lib.hid (O.out.set (.bool s3) (.slice a3 (lims n3).length c3))
        replace oc0 := O.out.c0
        replace oc1 := O.out.c1
        replace ol := O.out.lt
        replace of0 := O.out.f 0
        replace of1 := O.out.f 1
        clear IO IA I3
        go_wp2
        refine bodyPost_ret (ret_iv2 rfl _ _ _ _ _ rfl (R.out.set _ _)) rfl ?_
        exact D.out _ (FW.out.set2 (by omega) _ _)
      | true =>
        rw [hn3] at hf
        by_cases h2 : gk / 2 = 0
        · have h2b : ((gk : Int) / 2 == 0) = true := by rw [beq_iff_eq]; omega
          have HT2 := HT.out
          rw [pow_odd_end hodd hf h2, ← hn3, ← hs3] at HT2
          have D : Hid (∀ W a c, In W a c (lims n3) → Fr [] w W → PowI w T (.returned (.tuple #[.agg #[.bool s3, .slice a (lims n3).length c], .int .i64 0])) W) := Lib.hid (fun W a c h1 h => by rw [← HT2]; exact ⟨a, c, rfl, h1, h⟩)
          have hlo := fits_lt (n := n3) (by rw [hn3]; exact hf)
          clear HT HT2 FT CM h2 hodd hj
          clear hf hs3 hn3
          go_wp2_with fail
          refine CK.out.mono ?_
          rintro e w3 ⟨a3, c3, rfl, I3, F3⟩
          replace I3 := Lib.hid I3
          replace P := Lib.hid (P.out.fr F3)
          replace pc0 := P.out.c0
          replace pc1 := P.out.c1
          replace pl := P.out.lt
          replace pf0 := P.out.f 0
          replace pf1 := P.out.f 1
          replace O := Lib.hid (O.out.fr F3)
          replace oc0 := O.out.c0
          replace oc1 := O.out.c1
          replace ol := O.out.lt
          replace of0 := O.out.f 0
          replace of1 := O.out.f 1
          replace R := Lib.hid (R.out.fr F3)
          replace rc0 := R.out.c0
          replace rc1 := R.out.c1
          replace rl := R.out.lt
          replace rf0 := R.out.f 0
          replace rf1 := R.out.f 1
          replace IO := Lib.hid (IO.out.keep F3)
          replace IA := Lib.hid (IA.out.keep F3)
          replace FW := Lib.hid (FW.out.same F3)
          clear F3 CK
          have z2c0 := O.out.c0
          have z2c1 := O.out.c1
          have z2f0 := O.out.f 0
          have z2f1 := O.out.f 1
          replace IA := Lib.hid (IA.out.set2 O.out (.bool s3) (.slice a3 (lims n3).length c3))
          replace I3 := Lib.hid (I3.out.set2 O.out (.bool s3) (.slice a3 (lims n3).length c3))
          replace FW := Lib.hid (FW.out.set2 hle (.bool s3) (.slice a3 (lims n3).length c3))
          replace P := Lib.hid (P.out.other hneP (.bool s3) (.slice a3 (lims n3).length c3))
          replace pc0 := P.out.c0
          replace pc1 := P.out.c1
          replace pl := P.out.lt
          replace pf0 := P.out.f 0
          replace pf1 := P.out.f 1
          replace R := Lib.hid (R.out.other hneR (.bool s3) (.slice a3 (lims n3).length c3))
          replace rc0 := R.out.c0
          replace rc1 := R.out.c1
          replace rl := R.out.lt
          replace rf0 := R.out.f 0
          replace rf1 := R.out.f 1
          replace O := Lib.hid (O.out.set (.bool s3) (.slice a3 (lims n3).length c3))
          replace oc0 := O.out.c0
          replace oc1 := O.out.c1
          replace ol := O.out.lt
          replace of0 := O.out.f 0
          replace of1 := O.out.f 1
          clear IO
          have IO := I3
          clear I3
          go_wp2
          refine bodyPost_ret (ret_iv2 rfl _ _ _ _ _ rfl (R.out.set _ _)) rfl ?_
          exact D.out _ _ _ (IO.out.set2 R.out _ _) (FW.out.set2 (by omega) _ _)
        · have h2b : ((gk : Int) / 2 == 0) = false := by rw [beq_eq_false_iff_ne]; omega
          have hlo := fits_lt (n := n3) (by rw [hn3]; exact hf)
          obtain ⟨n4, hn4⟩ : ∃ x, x = na * na := ⟨_, rfl⟩
          obtain ⟨s4, hs4⟩ : ∃ x, x = sg (sa != sa) n4 := ⟨_, rfl⟩
          have C4 : Hid (∀ W a1 c1 a2 c2, In W a1 c1 (lims na) → In W a2 c2 (lims na) → Calls Tryz.prog 118 #[.agg #[.bool sa, .slice a1 (lims na).length c1], .agg #[.bool sa, .slice a2 (lims na).length c2]] W (GivesI W s4 n4)) := Lib.hid (fun W a1 c1 a2 c2 h1 h2 => by rw [hs4, hn4]; exact CM.out W sa na a1 c1 sa na a2 c2 h1 h2 FT.out.2 FT.out.2)
          cases hg : fits n4 with
          | false =>
            have HT2 := HT.out
            rw [pow_odd_big hodd hf h2 (by rw [← hn4]; exact hg)] at HT2
            have D : Hid (∀ W, Fr [] w W → PowI w T (.returned (.tuple #[.agg #[.bool false, .slice none 0 0], .int .i64 11])) W) := Lib.hid (fun W h => by rw [← HT2]; exact ⟨rfl, h⟩)
            have hlg := fits_gt hg
            clear HT HT2 FT CM h2 hodd hj hg hs4 hn4
            clear hf hs3 hn3
            go_wp2_with fail
            refine CK.out.mono ?_
            rintro e w3 ⟨a3, c3, rfl, I3, F3⟩
            replace I3 := Lib.hid I3
            replace P := Lib.hid (P.out.fr F3)
            replace pc0 := P.out.c0
            replace pc1 := P.out.c1
            replace pl := P.out.lt
            replace pf0 := P.out.f 0
            replace pf1 := P.out.f 1
            replace O := Lib.hid (O.out.fr F3)
            replace oc0 := O.out.c0
            replace oc1 := O.out.c1
            replace ol := O.out.lt
            replace of0 := O.out.f 0
            replace of1 := O.out.f 1
            replace R := Lib.hid (R.out.fr F3)
            replace rc0 := R.out.c0
            replace rc1 := R.out.c1
            replace rl := R.out.lt
            replace rf0 := R.out.f 0
            replace rf1 := R.out.f 1
            replace IO := Lib.hid (IO.out.keep F3)
            replace IA := Lib.hid (IA.out.keep F3)
            replace FW := Lib.hid (FW.out.same F3)
            clear F3 CK
            have z3c0 := O.out.c0
            have z3c1 := O.out.c1
            have z3f0 := O.out.f 0
            have z3f1 := O.out.f 1
            replace IA := Lib.hid (IA.out.set2 O.out (.bool s3) (.slice a3 (lims n3).length c3))
            replace I3 := Lib.hid (I3.out.set2 O.out (.bool s3) (.slice a3 (lims n3).length c3))
            replace FW := Lib.hid (FW.out.set2 hle (.bool s3) (.slice a3 (lims n3).length c3))
            replace P := Lib.hid (P.out.other hneP (.bool s3) (.slice a3 (lims n3).length c3))
            replace pc0 := P.out.c0
            replace pc1 := P.out.c1
            replace pl := P.out.lt
            replace pf0 := P.out.f 0
            replace pf1 := P.out.f 1
            replace R := Lib.hid (R.out.other hneR (.bool s3) (.slice a3 (lims n3).length c3))
            replace rc0 := R.out.c0
            replace rc1 := R.out.c1
            replace rl := R.out.lt
            replace rf0 := R.out.f 0
            replace rf1 := R.out.f 1
            replace O := Lib.hid (O.out.set (.bool s3) (.slice a3 (lims n3).length c3))
            replace oc0 := O.out.c0
            replace oc1 := O.out.c1
            replace ol := O.out.lt
            replace of0 := O.out.f 0
            replace of1 := O.out.f 1
            clear IO
            have IO := I3
            clear I3
            have CK := Lib.hid (C4.out _ _ _ _ _ IA.out IA.out)
            clear C4
            go_wp2_with fail
            refine CK.out.mono ?_
            rintro e w4 ⟨a4, c4, rfl, I4, F4⟩
            replace I4 := Lib.hid I4
            replace P := Lib.hid (P.out.fr F4)
            replace pc0 := P.out.c0
            replace pc1 := P.out.c1
            replace pl := P.out.lt
            replace pf0 := P.out.f 0
            replace pf1 := P.out.f 1
            replace O := Lib.hid (O.out.fr F4)
            replace oc0 := O.out.c0
            replace oc1 := O.out.c1
            replace ol := O.out.lt
            replace of0 := O.out.f 0
            replace of1 := O.out.f 1
            replace R := Lib.hid (R.out.fr F4)
            replace rc0 := R.out.c0
            replace rc1 := R.out.c1
            replace rl := R.out.lt
            replace rf0 := R.out.f 0
            replace rf1 := R.out.f 1
            replace IO := Lib.hid (IO.out.keep F4)
            replace IA := Lib.hid (IA.out.keep F4)
            replace FW := Lib.hid (FW.out.same F4)
            clear F4 CK
            have z4c0 := P.out.c0
            have z4c1 := P.out.c1
            have z4f0 := P.out.f 0
            have z4f1 := P.out.f 1
            replace IO := Lib.hid (IO.out.set2 P.out (.bool s4) (.slice a4 (lims n4).length c4))
            replace I4 := Lib.hid (I4.out.set2 P.out (.bool s4) (.slice a4 (lims n4).length c4))
            replace FW := Lib.hid (FW.out.set2 (Nat.le_refl _) (.bool s4) (.slice a4 (lims n4).length c4))
            replace O := Lib.hid (O.out.other hneO (.bool s4) (.slice a4 (lims n4).length c4))
            replace oc0 := O.out.c0
            replace oc1 := O.out.c1
            replace ol := O.out.lt
            replace of0 := O.out.f 0
            replace of1 := O.out.f 1
            replace R := Lib.hid (R.out.other hneQ (.bool s4) (.slice a4 (lims n4).length c4))
            replace rc0 := R.out.c0
            replace rc1 := R.out.c1
            replace rl := R.out.lt
            replace rf0 := R.out.f 0
            replace rf1 := R.out.f 1
            replace P := Lib.hid (P.out.set (.bool s4) (.slice a4 (lims n4).length c4))
            replace pc0 := P.out.c0
            replace pc1 := P.out.c1
            replace pl := P.out.lt
            replace pf0 := P.out.f 0
            replace pf1 := P.out.f 1
            clear IA IO I4
            go_wp2
            refine bodyPost_ret (ret_iv2 rfl _ _ _ _ _ rfl (R.out.set _ _)) rfl ?_
            exact D.out _ (FW.out.set2 (by omega) _ _)
          | true =>
            have HT2 := HT.out
            rw [pow_odd hodd hf h2 (by rw [← hn4]; exact hg), ← hn4, ← hs4, ← hn3, ← hs3] at HT2
            replace HT := Lib.hid HT2
            have FT2 : Hid (fits n3 = true ∧ fits n4 = true) := Lib.hid ⟨by rw [hn3]; exact hf, hg⟩
            have hj2 : Hid (gk / 2 ≤ 1000) := Lib.hid (by have := hj.out; omega)
            have hm : Hid (gk / 2 < gk) := Lib.hid (by omega)
            have hcast : Hid (((gk / 2 : Nat) : Int) = (gk : Int) / 2) := Lib.hid (by omega)
            have hlg := fits_lt hg
            clear HT2 FT CM h2 hodd hj hg hs4 hn4
            clear hf hs3 hn3
            go_wp2_with fail
            refine CK.out.mono ?_
            rintro e w3 ⟨a3, c3, rfl, I3, F3⟩
            replace I3 := Lib.hid I3
            replace P := Lib.hid (P.out.fr F3)
            replace pc0 := P.out.c0
            replace pc1 := P.out.c1
            replace pl := P.out.lt
            replace pf0 := P.out.f 0
            replace pf1 := P.out.f 1
            replace O := Lib.hid (O.out.fr F3)
            replace oc0 := O.out.c0
            replace oc1 := O.out.c1
            replace ol := O.out.lt
            replace of0 := O.out.f 0
            replace of1 := O.out.f 1
            replace R := Lib.hid (R.out.fr F3)
            replace rc0 := R.out.c0
            replace rc1 := R.out.c1
            replace rl := R.out.lt
            replace rf0 := R.out.f 0
            replace rf1 := R.out.f 1
            replace IO := Lib.hid (IO.out.keep F3)
            replace IA := Lib.hid (IA.out.keep F3)
            replace FW := Lib.hid (FW.out.same F3)
            clear F3 CK
            have z5c0 := O.out.c0
            have z5c1 := O.out.c1
            have z5f0 := O.out.f 0
            have z5f1 := O.out.f 1
            replace IA := Lib.hid (IA.out.set2 O.out (.bool s3) (.slice a3 (lims n3).length c3))
            replace I3 := Lib.hid (I3.out.set2 O.out (.bool s3) (.slice a3 (lims n3).length c3))
            replace FW := Lib.hid (FW.out.set2 hle (.bool s3) (.slice a3 (lims n3).length c3))
            replace P := Lib.hid (P.out.other hneP (.bool s3) (.slice a3 (lims n3).length c3))
            replace pc0 := P.out.c0
            replace pc1 := P.out.c1
            replace pl := P.out.lt
            replace pf0 := P.out.f 0
            replace pf1 := P.out.f 1
            replace R := Lib.hid (R.out.other hneR (.bool s3) (.slice a3 (lims n3).length c3))
            replace rc0 := R.out.c0
            replace rc1 := R.out.c1
            replace rl := R.out.lt
            replace rf0 := R.out.f 0
            replace rf1 := R.out.f 1
            replace O := Lib.hid (O.out.set (.bool s3) (.slice a3 (lims n3).length c3))
            replace oc0 := O.out.c0
            replace oc1 := O.out.c1
            replace ol := O.out.lt
            replace of0 := O.out.f 0
            replace of1 := O.out.f 1
            clear IO
            have IO := I3
            clear I3
            have CK := Lib.hid (C4.out _ _ _ _ _ IA.out IA.out)
            clear C4
            go_wp2_with fail
            refine CK.out.mono ?_
            rintro e w4 ⟨a4, c4, rfl, I4, F4⟩
            replace I4 := Lib.hid I4
            replace P := Lib.hid (P.out.fr F4)
            replace pc0 := P.out.c0
            replace pc1 := P.out.c1
            replace pl := P.out.lt
            replace pf0 := P.out.f 0
            replace pf1 := P.out.f 1
            replace O := Lib.hid (O.out.fr F4)
            replace oc0 := O.out.c0
            replace oc1 := O.out.c1
            replace ol := O.out.lt
            replace of0 := O.out.f 0
            replace of1 := O.out.f 1
            replace R := Lib.hid (R.out.fr F4)
            replace rc0 := R.out.c0
            replace rc1 := R.out.c1
            replace rl := R.out.lt
            replace rf0 := R.out.f 0
            replace rf1 := R.out.f 1
            replace IO := Lib.hid (IO.out.keep F4)
            replace IA := Lib.hid (IA.out.keep F4)
            replace FW := Lib.hid (FW.out.same F4)
            clear F4 CK
            have z6c0 := P.out.c0
            have z6c1 := P.out.c1
            have z6f0 := P.out.f 0
            have z6f1 := P.out.f 1
            replace IO := Lib.hid (IO.out.set2 P.out (.bool s4) (.slice a4 (lims n4).length c4))
            replace I4 := Lib.hid (I4.out.set2 P.out (.bool s4) (.slice a4 (lims n4).length c4))
            replace FW := Lib.hid (FW.out.set2 (Nat.le_refl _) (.bool s4) (.slice a4 (lims n4).length c4))
            replace O := Lib.hid (O.out.other hneO (.bool s4) (.slice a4 (lims n4).length c4))
            replace oc0 := O.out.c0
            replace oc1 := O.out.c1
            replace ol := O.out.lt
            replace of0 := O.out.f 0
            replace of1 := O.out.f 1
            replace R := Lib.hid (R.out.other hneQ (.bool s4) (.slice a4 (lims n4).length c4))
            replace rc0 := R.out.c0
            replace rc1 := R.out.c1
            replace rl := R.out.lt
            replace rf0 := R.out.f 0
            replace rf1 := R.out.f 1
            replace P := Lib.hid (P.out.set (.bool s4) (.slice a4 (lims n4).length c4))
            replace pc0 := P.out.c0
            replace pc1 := P.out.c1
            replace pl := P.out.lt
            replace pf0 := P.out.f 0
            replace pf1 := P.out.f 1
            clear IA
            go_wp2_with fail
            go_roundg (gk / 2)
            case measure => exact hm.out
            case rel => exact ⟨s3, n3, _, _, s4, n4, a4, c4, by rw [hcast.out], hj2, IO, I4, P, O, R, FT2, HT, FW⟩
    · have hb : ((gk : Int) % 2 == 1) = false := by rw [beq_eq_false_iff_ne]; omega
      by_cases h2 : gk / 2 = 0
      · have h2b : ((gk : Int) / 2 == 0) = true := by rw [beq_iff_eq]; omega
        have HT2 := HT.out
        rw [pow_even_end hodd h2] at HT2
        have D : Hid (∀ W a c, In W a c (lims no) → Fr [] w W → PowI w T (.returned (.tuple #[.agg #[.bool so, .slice a (lims no).length c], .int .i64 0])) W) := Lib.hid (fun W a c h1 h => by rw [← HT2]; exact ⟨a, c, rfl, h1, h⟩)
        have hlo := fits_lt (n := no) (FT.out.1)
        clear HT HT2 FT CM h2 hodd hj
        go_wp2
        refine bodyPost_ret (ret_iv2 rfl _ _ _ _ _ rfl (R.out.set _ _)) rfl ?_
        exact D.out _ _ _ (IO.out.set2 R.out _ _) (FW.out.set2 (by omega) _ _)
      · have h2b : ((gk : Int) / 2 == 0) = false := by rw [beq_eq_false_iff_ne]; omega
        have hlo := fits_lt (n := no) (FT.out.1)
        obtain ⟨n4, hn4⟩ : ∃ x, x = na * na := ⟨_, rfl⟩
        obtain ⟨s4, hs4⟩ : ∃ x, x = sg (sa != sa) n4 := ⟨_, rfl⟩
        have C4 : Hid (∀ W a1 c1 a2 c2, In W a1 c1 (lims na) → In W a2 c2 (lims na) → Calls Tryz.prog 118 #[.agg #[.bool sa, .slice a1 (lims na).length c1], .agg #[.bool sa, .slice a2 (lims na).length c2]] W (GivesI W s4 n4)) := Lib.hid (fun W a1 c1 a2 c2 h1 h2 => by rw [hs4, hn4]; exact CM.out W sa na a1 c1 sa na a2 c2 h1 h2 FT.out.2 FT.out.2)
        cases hg : fits n4 with
        | false =>
          have HT2 := HT.out
          rw [pow_even_big hodd h2 (by rw [← hn4]; exact hg)] at HT2
          have D : Hid (∀ W, Fr [] w W → PowI w T (.returned (.tuple #[.agg #[.bool false, .slice none 0 0], .int .i64 11])) W) := Lib.hid (fun W h => by rw [← HT2]; exact ⟨rfl, h⟩)
          have hlg := fits_gt hg
          clear HT HT2 FT CM h2 hodd hj hg hs4 hn4
          have CK := Lib.hid (C4.out _ _ _ _ _ IA.out IA.out)
          clear C4
          go_wp2_with fail
          refine CK.out.mono ?_
          rintro e w4 ⟨a4, c4, rfl, I4, F4⟩
          replace I4 := Lib.hid I4
          replace P := Lib.hid (P.out.fr F4)
          replace pc0 := P.out.c0
          replace pc1 := P.out.c1
          replace pl := P.out.lt
          replace pf0 := P.out.f 0
          replace pf1 := P.out.f 1
          replace O := Lib.hid (O.out.fr F4)
          replace oc0 := O.out.c0
          replace oc1 := O.out.c1
          replace ol := O.out.lt
          replace of0 := O.out.f 0
          replace of1 := O.out.f 1
          replace R := Lib.hid (R.out.fr F4)
          replace rc0 := R.out.c0
          replace rc1 := R.out.c1
          replace rl := R.out.lt
          replace rf0 := R.out.f 0
          replace rf1 := R.out.f 1
          replace IO := Lib.hid (IO.out.keep F4)
          replace IA := Lib.hid (IA.out.keep F4)
          replace FW := Lib.hid (FW.out.same F4)
          clear F4 CK
          have z7c0 := P.out.c0
          have z7c1 := P.out.c1
          have z7f0 := P.out.f 0
          have z7f1 := P.out.f 1
          replace IO := Lib.hid (IO.out.set2 P.out (.bool s4) (.slice a4 (lims n4).length c4))
          replace I4 := Lib.hid (I4.out.set2 P.out (.bool s4) (.slice a4 (lims n4).length c4))
          replace FW := Lib.hid (FW.out.set2 (Nat.le_refl _) (.bool s4) (.slice a4 (lims n4).length c4))
          replace O := Lib.hid (O.out.other hneO (.bool s4) (.slice a4 (lims n4).length c4))
          replace oc0 := O.out.c0
          replace oc1 := O.out.c1
          replace ol := O.out.lt
          replace of0 := O.out.f 0
          replace of1 := O.out.f 1
          replace R := Lib.hid (R.out.other hneQ (.bool s4) (.slice a4 (lims n4).length c4))
          replace rc0 := R.out.c0
          replace rc1 := R.out.c1
          replace rl := R.out.lt
          replace rf0 := R.out.f 0
          replace rf1 := R.out.f 1
          replace P := Lib.hid (P.out.set (.bool s4) (.slice a4 (lims n4).length c4))
          replace pc0 := P.out.c0
          replace pc1 := P.out.c1
          replace pl := P.out.lt
          replace pf0 := P.out.f 0
          replace pf1 := P.out.f 1
          clear IA IO I4
          go_wp2
          refine bodyPost_ret (ret_iv2 rfl _ _ _ _ _ rfl (R.out.set _ _)) rfl ?_
          exact D.out _ (FW.out.set2 (by omega) _ _)
        | true =>
          have HT2 := HT.out
          rw [pow_even hodd h2 (by rw [← hn4]; exact hg), ← hn4, ← hs4] at HT2
          replace HT := Lib.hid HT2
          have FT2 : Hid (fits no = true ∧ fits n4 = true) := Lib.hid ⟨FT.out.1, hg⟩
          have hj2 : Hid (gk / 2 ≤ 1000) := Lib.hid (by have := hj.out; omega)
          have hm : Hid (gk / 2 < gk) := Lib.hid (by omega)
          have hcast : Hid (((gk / 2 : Nat) : Int) = (gk : Int) / 2) := Lib.hid (by omega)
          have hlg := fits_lt hg
          clear HT2 FT CM h2 hodd hj hg hs4 hn4
          have CK := Lib.hid (C4.out _ _ _ _ _ IA.out IA.out)
          clear C4
          go_wp2_with fail
          refine CK.out.mono ?_
          rintro e w4 ⟨a4, c4, rfl, I4, F4⟩
          replace I4 := Lib.hid I4
          replace P := Lib.hid (P.out.fr F4)
          replace pc0 := P.out.c0
          replace pc1 := P.out.c1
          replace pl := P.out.lt
          replace pf0 := P.out.f 0
          replace pf1 := P.out.f 1
          replace O := Lib.hid (O.out.fr F4)
          replace oc0 := O.out.c0
          replace oc1 := O.out.c1
          replace ol := O.out.lt
          replace of0 := O.out.f 0
          replace of1 := O.out.f 1
          replace R := Lib.hid (R.out.fr F4)
          replace rc0 := R.out.c0
          replace rc1 := R.out.c1
          replace rl := R.out.lt
          replace rf0 := R.out.f 0
          replace rf1 := R.out.f 1
          replace IO := Lib.hid (IO.out.keep F4)
          replace IA := Lib.hid (IA.out.keep F4)
          replace FW := Lib.hid (FW.out.same F4)
          clear F4 CK
          have z8c0 := P.out.c0
          have z8c1 := P.out.c1
          have z8f0 := P.out.f 0
          have z8f1 := P.out.f 1
          replace IO := Lib.hid (IO.out.set2 P.out (.bool s4) (.slice a4 (lims n4).length c4))
          replace I4 := Lib.hid (I4.out.set2 P.out (.bool s4) (.slice a4 (lims n4).length c4))
          replace FW := Lib.hid (FW.out.set2 (Nat.le_refl _) (.bool s4) (.slice a4 (lims n4).length c4))
          replace O := Lib.hid (O.out.other hneO (.bool s4) (.slice a4 (lims n4).length c4))
          replace oc0 := O.out.c0
          replace oc1 := O.out.c1
          replace ol := O.out.lt
          replace of0 := O.out.f 0
          replace of1 := O.out.f 1
          replace R := Lib.hid (R.out.other hneQ (.bool s4) (.slice a4 (lims n4).length c4))
          replace rc0 := R.out.c0
          replace rc1 := R.out.c1
          replace rl := R.out.lt
          replace rf0 := R.out.f 0
          replace rf1 := R.out.f 1
          replace P := Lib.hid (P.out.set (.bool s4) (.slice a4 (lims n4).length c4))
          replace pc0 := P.out.c0
          replace pc1 := P.out.c1
          replace pl := P.out.lt
          replace pf0 := P.out.f 0
          replace pf1 := P.out.f 1
          clear IA
          go_wp2_with fail
          go_roundg (gk / 2)
          case measure => exact hm.out
          case rel => exact ⟨so, no, _, _, s4, n4, a4, c4, by rw [hcast.out], hj2, IO, I4, P, O, R, FT2, HT, FW⟩
end Go.Proofs.YtjdanblijcdllaaGreatDoor
/- Exact: powers whose exponents can't be; powers in one form. -/
namespace Go.Proofs.YtjdanblijcdllaaGreatDoor
open Go.ChangeShapes Go.WideShapes Go.RowKit
variable {w w' w2 wr : World} {a b : Option Addr} {cap cap2 : Nat} {L M : List Nat} {B : Nat}
def smG (s : Bool) (n : Nat) : Int := match smB s n with | true => smV s n | false => 0
theorem small_flat {s : Bool} {n : Nat} {e : Ending} (h : SmallI w s n e w') : e = .returned (.tuple #[.int .i64 (smG s n), .bool (smB s n)]) ∧ Fr [] w w' := by
  unfold SmallI at h
  unfold smG
  cases hb : smB s n with
  | true => rw [hb, if_pos rfl] at h; exact h
  | false => rw [hb, if_neg Bool.false_ne_true] at h; exact h
theorem sm_bad {s2 : Bool} {m : Nat} (hs : s2 = true → m ≠ 0) (hb : ¬ (s2 = false ∧ m ≤ 1000)) : smB s2 m = false ∨ smG s2 m < 0 ∨ 1000 < smG s2 m := by
  cases hg : smB s2 m with
  | false => exact .inl rfl
  | true =>
    right
    unfold smG
    rw [hg]
    show smV s2 m < 0 ∨ 1000 < smV s2 m
    unfold smV
    cases s2 with
    | true => left; have := hs rfl; show -(m : Int) < 0; omega
    | false => right; have : ¬ m ≤ 1000 := fun h => hb ⟨rfl, h⟩; show (1000 : Int) < (m : Int); omega
set_option maxHeartbeats 4000000 in
theorem epow_bad (w : World) (s : Bool) (n : Nat) (s2 : Bool) (m : Nat) (hs : s2 = true → m ≠ 0) (hb : ¬ (s2 = false ∧ m ≤ 1000)) (h2 : In w b cap2 (lims m)) : Calls Tryz.prog 61 #[.agg #[.bool s, .slice a (lims n).length cap], .agg #[.bool s2, .slice b (lims m).length cap2]] w fun e w' => e = .returned (.tuple #[.agg #[.bool false, .slice none 0 0], .int .i64 21]) ∧ Fr [] w w' := by
  have H2 := Lib.hid h2
  clear h2
  have F0 : Hid (Fr [] w (((w.alloc (.cells #[.bool s, .slice a (lims n).length cap] 25)).alloc (.cells #[.bool s2, .slice b (lims m).length cap2] 25)).alloc (.cells #[.bool false, .slice none 0 0] 25))) := Lib.hid ((((Fr.refl [] w).alloc _).alloc _).alloc _)
  have P : Hid (Bx (((w.alloc (.cells #[.bool s, .slice a (lims n).length cap] 25)).alloc (.cells #[.bool s2, .slice b (lims m).length cap2] 25)).alloc (.cells #[.bool false, .slice none 0 0] 25)) (w.heap.size) (.bool s) (.slice a (lims n).length cap)) := Lib.hid ((Bx.new _ _ _).fr (((Fr.refl [] _).alloc _).alloc _))
  have Q : Hid (Bx (((w.alloc (.cells #[.bool s, .slice a (lims n).length cap] 25)).alloc (.cells #[.bool s2, .slice b (lims m).length cap2] 25)).alloc (.cells #[.bool false, .slice none 0 0] 25)) (w.heap.size + 1) (.bool s2) (.slice b (lims m).length cap2)) := Lib.hid (((Bx.new _ _ _).eq (by simp)).fr ((Fr.refl [] _).alloc _))
  have R : Hid (Bx (((w.alloc (.cells #[.bool s, .slice a (lims n).length cap] 25)).alloc (.cells #[.bool s2, .slice b (lims m).length cap2] 25)).alloc (.cells #[.bool false, .slice none 0 0] 25)) (w.heap.size + 2) (.bool false) (.slice none 0 0)) := Lib.hid (((Bx.new _ _ _).eq (by simp)).fr (Fr.refl [] _))
  replace pc0 := P.out.c0
  replace pc1 := P.out.c1
  replace pl := P.out.lt
  replace qc0 := Q.out.c0
  replace qc1 := Q.out.c1
  replace ql := Q.out.lt
  replace rc0 := R.out.c0
  replace rc1 := R.out.c1
  replace rl := R.out.lt
  replace rf0 := R.out.f 0
  replace rf1 := R.out.f 1
  obtain ⟨v, g, hv, CS⟩ : ∃ (v : Int) (g : Bool), (g = false ∨ v < 0 ∨ 1000 < v) ∧ ∀ W, Fr [] w W → Calls Tryz.prog 114 #[.agg #[.bool s2, .slice b (lims m).length cap2]] W fun e w' => e = .returned (.tuple #[.int .i64 v, .bool g]) ∧ Fr [] W w' :=
    ⟨smG s2 m, smB s2 m, sm_bad hs hb, fun W hW => (esmall_c W s2 m (H2.out.keep hW)).mono (fun e w' h => small_flat h)⟩
  have CS := Lib.hid CS
  clear hs hb H2
  cases g with
  | false =>
    clear hv
    go_enter Tryz.func61, Tryz.ntmps61
    go_wp2_with fail
    refine (CS.out _ F0.out).mono ?_
    rintro e w1 ⟨rfl, F1⟩
    replace P := Lib.hid (P.out.fr F1)
    replace pc0 := P.out.c0
    replace pc1 := P.out.c1
    replace pl := P.out.lt
    replace Q := Lib.hid (Q.out.fr F1)
    replace qc0 := Q.out.c0
    replace qc1 := Q.out.c1
    replace ql := Q.out.lt
    replace R := Lib.hid (R.out.fr F1)
    replace rc0 := R.out.c0
    replace rc1 := R.out.c1
    replace rl := R.out.lt
    replace rf0 := R.out.f 0
    replace rf1 := R.out.f 1
    have FW := Lib.hid (F0.out.same F1)
    clear F1
    go_wp2
    refine bodyPost_ret (ret_iv2 rfl _ _ _ _ _ rfl (R.out.set _ _)) rfl ?_
    exact ⟨rfl, FW.out.set2 (by omega) _ _⟩
  | true =>
    by_cases hv0 : v < 0
    · clear hv
      go_enter Tryz.func61, Tryz.ntmps61
      go_wp2_with fail
      refine (CS.out _ F0.out).mono ?_
      rintro e w1 ⟨rfl, F1⟩
      replace P := Lib.hid (P.out.fr F1)
      replace pc0 := P.out.c0
      replace pc1 := P.out.c1
      replace pl := P.out.lt
      replace Q := Lib.hid (Q.out.fr F1)
      replace qc0 := Q.out.c0
      replace qc1 := Q.out.c1
      replace ql := Q.out.lt
      replace R := Lib.hid (R.out.fr F1)
      replace rc0 := R.out.c0
      replace rc1 := R.out.c1
      replace rl := R.out.lt
      replace rf0 := R.out.f 0
      replace rf1 := R.out.f 1
      have FW := Lib.hid (F0.out.same F1)
      clear F1
      go_wp2
      refine bodyPost_ret (ret_iv2 rfl _ _ _ _ _ rfl (R.out.set _ _)) rfl ?_
      exact ⟨rfl, FW.out.set2 (by omega) _ _⟩
    · have hv1 : 1000 < v := by rcases hv with h | h | h; cases h; exact absurd h hv0; exact h
      clear hv
      go_enter Tryz.func61, Tryz.ntmps61
      go_wp2_with fail
      refine (CS.out _ F0.out).mono ?_
      rintro e w1 ⟨rfl, F1⟩
      replace P := Lib.hid (P.out.fr F1)
      replace pc0 := P.out.c0
      replace pc1 := P.out.c1
      replace pl := P.out.lt
      replace Q := Lib.hid (Q.out.fr F1)
      replace qc0 := Q.out.c0
      replace qc1 := Q.out.c1
      replace ql := Q.out.lt
      replace R := Lib.hid (R.out.fr F1)
      replace rc0 := R.out.c0
      replace rc1 := R.out.c1
      replace rl := R.out.lt
      replace rf0 := R.out.f 0
      replace rf1 := R.out.f 1
      have FW := Lib.hid (F0.out.same F1)
      clear F1
      go_wp2
      refine bodyPost_ret (ret_iv2 rfl _ _ _ _ _ rfl (R.out.set _ _)) rfl ?_
      exact ⟨rfl, FW.out.set2 (by omega) _ _⟩
set_option maxHeartbeats 4000000 in
theorem r2pow_bad (w : World) (s : Bool) (n : Nat) (s2 : Bool) (m : Nat) (hs : s2 = true → m ≠ 0) (hb : ¬ (s2 = false ∧ m ≤ 1000)) (h2 : In w b cap2 (lims m)) : Calls Tryz.prog 65 #[.agg #[.bool s, .slice a (lims n).length cap], .agg #[.bool s2, .slice b (lims m).length cap2]] w fun e w' => e = .returned (.tuple #[.agg #[.bool false, .slice none 0 0], .int .i64 21]) ∧ Fr [] w w' := by
  have H2 := Lib.hid h2
  clear h2
  have F0 : Hid (Fr [] w (((w.alloc (.cells #[.bool s, .slice a (lims n).length cap] 25)).alloc (.cells #[.bool s2, .slice b (lims m).length cap2] 25)).alloc (.cells #[.bool false, .slice none 0 0] 25))) := Lib.hid ((((Fr.refl [] w).alloc _).alloc _).alloc _)
  have P : Hid (Bx (((w.alloc (.cells #[.bool s, .slice a (lims n).length cap] 25)).alloc (.cells #[.bool s2, .slice b (lims m).length cap2] 25)).alloc (.cells #[.bool false, .slice none 0 0] 25)) (w.heap.size) (.bool s) (.slice a (lims n).length cap)) := Lib.hid ((Bx.new _ _ _).fr (((Fr.refl [] _).alloc _).alloc _))
  have Q : Hid (Bx (((w.alloc (.cells #[.bool s, .slice a (lims n).length cap] 25)).alloc (.cells #[.bool s2, .slice b (lims m).length cap2] 25)).alloc (.cells #[.bool false, .slice none 0 0] 25)) (w.heap.size + 1) (.bool s2) (.slice b (lims m).length cap2)) := Lib.hid (((Bx.new _ _ _).eq (by simp)).fr ((Fr.refl [] _).alloc _))
  have R : Hid (Bx (((w.alloc (.cells #[.bool s, .slice a (lims n).length cap] 25)).alloc (.cells #[.bool s2, .slice b (lims m).length cap2] 25)).alloc (.cells #[.bool false, .slice none 0 0] 25)) (w.heap.size + 2) (.bool false) (.slice none 0 0)) := Lib.hid (((Bx.new _ _ _).eq (by simp)).fr (Fr.refl [] _))
  replace pc0 := P.out.c0
  replace pc1 := P.out.c1
  replace pl := P.out.lt
  replace qc0 := Q.out.c0
  replace qc1 := Q.out.c1
  replace ql := Q.out.lt
  replace rc0 := R.out.c0
  replace rc1 := R.out.c1
  replace rl := R.out.lt
  replace rf0 := R.out.f 0
  replace rf1 := R.out.f 1
  obtain ⟨v, g, hv, CS⟩ : ∃ (v : Int) (g : Bool), (g = false ∨ v < 0 ∨ 1000 < v) ∧ ∀ W, Fr [] w W → Calls Tryz.prog 117 #[.agg #[.bool s2, .slice b (lims m).length cap2]] W fun e w' => e = .returned (.tuple #[.int .i64 v, .bool g]) ∧ Fr [] W w' :=
    ⟨smG s2 m, smB s2 m, sm_bad hs hb, fun W hW => (r2small_c W s2 m (H2.out.keep hW) hs).mono (fun e w' h => small_flat h)⟩
  have CS := Lib.hid CS
  clear hs hb H2
  cases g with
  | false =>
    clear hv
    go_enter Tryz.func65, Tryz.ntmps65
    go_wp2_with fail
    refine (CS.out _ F0.out).mono ?_
    rintro e w1 ⟨rfl, F1⟩
    replace P := Lib.hid (P.out.fr F1)
    replace pc0 := P.out.c0
    replace pc1 := P.out.c1
    replace pl := P.out.lt
    replace Q := Lib.hid (Q.out.fr F1)
    replace qc0 := Q.out.c0
    replace qc1 := Q.out.c1
    replace ql := Q.out.lt
    replace R := Lib.hid (R.out.fr F1)
    replace rc0 := R.out.c0
    replace rc1 := R.out.c1
    replace rl := R.out.lt
    replace rf0 := R.out.f 0
    replace rf1 := R.out.f 1
    have FW := Lib.hid (F0.out.same F1)
    clear F1
    go_wp2
    refine bodyPost_ret (ret_iv2 rfl _ _ _ _ _ rfl (R.out.set _ _)) rfl ?_
    exact ⟨rfl, FW.out.set2 (by omega) _ _⟩
  | true =>
    by_cases hv0 : v < 0
    · clear hv
      go_enter Tryz.func65, Tryz.ntmps65
      go_wp2_with fail
      refine (CS.out _ F0.out).mono ?_
      rintro e w1 ⟨rfl, F1⟩
      replace P := Lib.hid (P.out.fr F1)
      replace pc0 := P.out.c0
      replace pc1 := P.out.c1
      replace pl := P.out.lt
      replace Q := Lib.hid (Q.out.fr F1)
      replace qc0 := Q.out.c0
      replace qc1 := Q.out.c1
      replace ql := Q.out.lt
      replace R := Lib.hid (R.out.fr F1)
      replace rc0 := R.out.c0
      replace rc1 := R.out.c1
      replace rl := R.out.lt
      replace rf0 := R.out.f 0
      replace rf1 := R.out.f 1
      have FW := Lib.hid (F0.out.same F1)
      clear F1
      go_wp2
      refine bodyPost_ret (ret_iv2 rfl _ _ _ _ _ rfl (R.out.set _ _)) rfl ?_
      exact ⟨rfl, FW.out.set2 (by omega) _ _⟩
    · have hv1 : 1000 < v := by rcases hv with h | h | h; cases h; exact absurd h hv0; exact h
      clear hv
      go_enter Tryz.func65, Tryz.ntmps65
      go_wp2_with fail
      refine (CS.out _ F0.out).mono ?_
      rintro e w1 ⟨rfl, F1⟩
      replace P := Lib.hid (P.out.fr F1)
      replace pc0 := P.out.c0
      replace pc1 := P.out.c1
      replace pl := P.out.lt
      replace Q := Lib.hid (Q.out.fr F1)
      replace qc0 := Q.out.c0
      replace qc1 := Q.out.c1
      replace ql := Q.out.lt
      replace R := Lib.hid (R.out.fr F1)
      replace rc0 := R.out.c0
      replace rc1 := R.out.c1
      replace rl := R.out.lt
      replace rf0 := R.out.f 0
      replace rf1 := R.out.f 1
      have FW := Lib.hid (F0.out.same F1)
      clear F1
      go_wp2
      refine bodyPost_ret (ret_iv2 rfl _ _ _ _ _ rfl (R.out.set _ _)) rfl ?_
      exact ⟨rfl, FW.out.set2 (by omega) _ _⟩
def PowF (w : World) (s : Bool) (n : Nat) (z : Int) (e : Ending) (w' : World) : Prop := ∃ a c, e = .returned (.tuple #[.agg #[.bool s, .slice a (lims n).length c], .int .i64 z]) ∧ In w' a c (lims n) ∧ Fr [] w w'
def tS (T : Option (Bool × Nat)) : Bool := (T.getD (false, 0)).1
def tN (T : Option (Bool × Nat)) : Nat := (T.getD (false, 0)).2
def tE (T : Option (Bool × Nat)) : Int := if T.isSome then 0 else 11
theorem powI_flat {T : Option (Bool × Nat)} {e : Ending} (h : PowI w T e w') : PowF w (tS T) (tN T) (tE T) e w' := by
  cases T with
  | some x => exact h
  | none => obtain ⟨rfl, h⟩ := h; exact ⟨none, 0, rfl, (Nw.nil w' 0).in, h⟩
/-- Any power: both functions give the same. -/
theorem pow_both (W : World) (s : Bool) (a : Option Addr) (n cap : Nat) (s2 : Bool) (b : Option Addr) (m cap2 : Nat) (I1 : In W a cap (lims n)) (I2 : In W b cap2 (lims m)) (hn : fits n = true) (hs : s2 = true → m ≠ 0) : ∃ (t : Bool) (k : Nat) (z : Int),
    (∀ W', Fr [] W W' → Calls Tryz.prog 61 #[.agg #[.bool s, .slice a (lims n).length cap], .agg #[.bool s2, .slice b (lims m).length cap2]] W' (PowF W' t k z)) ∧
    (∀ W', Fr [] W W' → Calls Tryz.prog 65 #[.agg #[.bool s, .slice a (lims n).length cap], .agg #[.bool s2, .slice b (lims m).length cap2]] W' (PowF W' t k z)) := by
  by_cases hb : s2 = false ∧ m ≤ 1000
  · obtain ⟨rfl, hm⟩ := hb
    exact ⟨_, _, _, fun W' h => (epow_c W' s n m hm hn (I1.keep h) (I2.keep h)).mono (fun e w' h => powI_flat h), fun W' h => (r2pow_c W' s n m hm hn (I1.keep h) (I2.keep h)).mono (fun e w' h => powI_flat h)⟩
  · exact ⟨false, 0, 21, fun W' h => (epow_bad W' s n s2 m hs hb (I2.keep h)).mono (fun e w' h => ⟨none, 0, h.1, (Nw.nil w' 0).in, h.2⟩), fun W' h => (r2pow_bad W' s n s2 m hs hb (I2.keep h)).mono (fun e w' h => ⟨none, 0, h.1, (Nw.nil w' 0).in, h.2⟩)⟩
end Go.Proofs.YtjdanblijcdllaaGreatDoor
/- Walks: distaffref04.out. -/
namespace Go.Proofs.YtjdanblijcdllaaGreatDoor
open Go.ChangeShapes Go.WideShapes Go.RowKit
variable {w w' : World} {a a2 : Option Addr} {cap cap2 : Nat}
/-- A whole number as the answer, or nothing and a code. -/
def NF (w : World) (t : Bool) (n : Nat) (z : Int) (e : Ending) (w' : World) : Prop :=
  ∃ a c, e = .returned (.tuple #[.agg #[.bool false, .float .f64 0, .bool t, .slice a (lims n).length c], .int .i64 z]) ∧ In w' a c (lims n) ∧ Fr [] w w'
set_option maxRecDepth 20000 in
theorem r4out_c (w : World) (t : Bool) (n : Nat) (z : Int) (h : In w a cap (lims n)) (hz : z ≠ 0 → t = false ∧ n = 0) : Calls Tryz.prog 62 #[.agg #[.bool t, .slice a (lims n).length cap], .int .i64 z] w (NF w t n z) := by
  have H := Lib.hid h
  clear h
  have hsf := sf_run
  by_cases h0 : z = 0
  · subst h0
    clear hz
    obtain ⟨l, hl⟩ : ∃ l, l = (lims n).length := ⟨_, rfl⟩
    have HL := Lib.hid hl
    rw [← hl]
    clear hl
    go_enter Tryz.func62, Tryz.ntmps62
    go_wp2
    refine bodyPost_ret (ret_nv2 rfl _ _ (w.heap.size + 1) _ _ _ _ rfl (by simp only [blk_alloc, size_alloc]; rw [if_pos trivial])) rfl ?_
    exact ⟨a, cap, by rw [HL.out]; rfl, H.out.keep (((Fr.refl [] w).alloc _).alloc _), ((Fr.refl [] w).alloc _).alloc _⟩
  · obtain ⟨rfl, rfl⟩ := hz h0
    have HE : Hid (lims 0 = []) := Lib.hid rfl
    obtain ⟨l, hl⟩ : ∃ l, l = (lims 0).length := ⟨_, rfl⟩
    have HL := Lib.hid hl
    rw [← hl]
    clear hl hz
    go_enter Tryz.func62, Tryz.ntmps62
    go_wp2
    refine bodyPost_ret (ret_nv2 rfl _ _ (w.heap.size + 1) _ _ _ _ rfl (by simp only [blk_alloc, size_alloc]; rw [if_pos trivial])) rfl ?_
    exact ⟨none, 0, by rw [HE.out]; rfl, (Nw.nil _ 0).in, ((Fr.refl [] w).alloc _).alloc _⟩
end Go.Proofs.YtjdanblijcdllaaGreatDoor
/- Walks: tower.Whole at one op, from what exact's function answers. -/
namespace Go.Proofs.YtjdanblijcdllaaGreatDoor
open Go.ChangeShapes Go.WideShapes Go.RowKit
variable {w w' : World} {a a2 : Option Addr} {cap cap2 : Nat}
/-- exact's answer, flat. -/
def IF (w : World) (s : Bool) (n : Nat) (z : Int) (e : Ending) (w' : World) : Prop := ∃ a c, e = .returned (.tuple #[.agg #[.bool s, .slice a (lims n).length c], .int .i64 z]) ∧ In w' a c (lims n) ∧ Fr [] w w'
def QF1 (w : World) (s : Bool) (n : Nat) (z : Int) (e : Ending) (w' : World) : Prop := ∃ a c v, e = .returned (.tuple #[.agg #[.bool s, .slice a (lims n).length c], v, .int .i64 z]) ∧ In w' a c (lims n) ∧ Fr [] w w'
def QF2 (w : World) (s : Bool) (n : Nat) (z : Int) (e : Ending) (w' : World) : Prop := ∃ a c v, e = .returned (.tuple #[v, .agg #[.bool s, .slice a (lims n).length c], .int .i64 z]) ∧ In w' a c (lims n) ∧ Fr [] w w'
set_option maxRecDepth 20000 in
set_option maxHeartbeats 1000000 in
theorem twwhole_mod (w : World) (f : Nat) (s : Bool) (l1 : Nat) (f2 : Nat) (s2 : Bool) (l2 : Nat) (t : Bool) (n : Nat) (z : Int) (hz : z ≠ 0 → t = false ∧ n = 0)
    (C : ∀ w1, Fr [] w w1 → Calls Tryz.prog 59 #[.agg #[.bool s, .slice a l1 cap], .agg #[.bool s2, .slice a2 l2 cap2]] w1 (IF w1 t n z)) :
    Calls Tryz.prog 23 #[.int .i64 2, .agg #[.bool false, .float .f64 f, .bool s, .slice a l1 cap], .agg #[.bool false, .float .f64 f2, .bool s2, .slice a2 l2 cap2]] w (NF w t n z) := by
  obtain ⟨W1, hW1⟩ : ∃ W1, W1 = (((w.alloc (.cells #[.bool false, .float .f64 f, .bool s, .slice a l1 cap] 27)).alloc (.cells #[.bool false, .float .f64 f2, .bool s2, .slice a2 l2 cap2] 27)).alloc (.cells #[.bool false, .float .f64 0, .bool false, .slice none 0 0] 27)).alloc (.cells #[.bool false, .slice none 0 0] 25) := ⟨_, rfl⟩
  obtain ⟨k, hk⟩ : ∃ k, k = w.heap.size := ⟨_, rfl⟩
  have F1 : Hid (Fr [] w W1) := Lib.hid (by rw [hW1]; exact ((((Fr.refl _ _).alloc _).alloc _).alloc _).alloc _)
  have PN : Hid (BxN W1 (k + 1 + 1) (.bool false) (.float .f64 0) (.bool false) (.slice none 0 0)) := Lib.hid (by
    unfold BxN
    rw [hW1, hk]
    simp only [blk_alloc, size_alloc]
    rw [if_neg (by omega), if_pos trivial])
  have PI : Hid (Bx W1 (k + 1 + 1 + 1) (.bool false) (.slice none 0 0)) := Lib.hid (by
    unfold Bx
    rw [hW1, hk]
    simp only [blk_alloc, size_alloc]
    rw [if_pos trivial])
  have HK : Hid (w.heap.size ≤ k + 1 + 1) := Lib.hid (by omega)
  have HK2 : Hid (w.heap.size ≤ k + 1 + 1 + 1) := Lib.hid (by omega)
  have C1 := Lib.hid (C W1 F1.out)
  clear C
  have hsf := sf_run
  go_enter Tryz.func23, Tryz.ntmps23
  go_wp2_with fail
  rw [← hW1, ← hk]
  clear hW1 hk
  refine C1.out.mono ?_
  rintro e w2 ⟨a3, c3, rfl, I2, F2⟩
  have PN := Lib.hid (PN.out.fr F2)
  have PI := Lib.hid (PI.out.fr F2)
  have G2 := Lib.hid (F1.out.same F2)
  have I2 := Lib.hid I2
  clear F1 F2 C1
  have q0 := PN.out.f 0
  have q1 := PN.out.f 1
  have q2 := PN.out.f 2
  have q3 := PN.out.f 3
  have d0 := PN.out.c0
  have d1 := PN.out.c1
  have d2 := PN.out.c2
  have d3 := PN.out.c3
  have ql := PN.out.lt
  have i0 := PI.out.f 0
  have i1 := PI.out.f 1
  have j0 := PI.out.c0
  have j1 := PI.out.c1
  have il := PI.out.lt
  have HZ := Lib.hid hz
  clear hz
  have PN2 : Hid (∀ v v', BxN ((w2.setCell ⟨k + 1 + 1 + 1, 0, none⟩ v).setCell ⟨k + 1 + 1 + 1, 1, none⟩ v') (k + 1 + 1) (.bool false) (.float .f64 0) (.bool false) (.slice none 0 0)) := Lib.hid (fun v v' => by
    unfold BxN
    rw [blk_set, if_neg (by omega), blk_set, if_neg (by omega)]
    exact PN.out)
  by_cases h0 : z = 0
  · subst h0
    have HL := Lib.hid (show ∃ l, l = (lims n).length from ⟨_, rfl⟩)
    go_wp2_with fail
    obtain ⟨w4, hw4⟩ : ∃ w4, w4 = (w2.setCell ⟨k + 1 + 1 + 1, 0, none⟩ (.bool t)).setCell ⟨k + 1 + 1 + 1, 1, none⟩ (.slice a3 (lims n).length c3) := ⟨_, rfl⟩
    have I4 : Hid (In w4 a3 c3 (lims n)) := Lib.hid (by rw [hw4]; exact I2.out.set2 PI.out _ _)
    have G4 : Hid (Fr [] w w4) := Lib.hid (by rw [hw4]; exact G2.out.set2 HK2.out _ _)
    have PN4 : Hid (BxN w4 (k + 1 + 1) (.bool false) (.float .f64 0) (.bool false) (.slice none 0 0)) := Lib.hid (by rw [hw4]; exact PN2.out _ _)
    rw [← hw4]
    clear hw4 PN2 PN PI I2 G2 q0 q1 q2 q3 d0 d1 d2 d3 ql i0 i1 j0 j1 il
    refine (twwhole_c w4 t (lims n).length).mono ?_
    rintro e w5 ⟨rfl, F5⟩
    have PN5 := Lib.hid (PN4.out.fr F5)
    have I5 := Lib.hid (I4.out.keep F5)
    have G5 := Lib.hid (G4.out.same F5)
    have q0 := PN5.out.f 0
    have q1 := PN5.out.f 1
    have q2 := PN5.out.f 2
    have q3 := PN5.out.f 3
    have d0 := PN5.out.c0
    have d1 := PN5.out.c1
    have d2 := PN5.out.c2
    have d3 := PN5.out.c3
    have ql := PN5.out.lt
    go_wp2_with fail
    refine bodyPost_ret (ret_nv2 rfl _ _ (k + 1 + 1) _ _ _ _ rfl (PN5.out.set _ _ _ _)) rfl ?_
    exact ⟨a3, c3, rfl, I5.out.set4 PN5.out _ _ _ _, G5.out.set4 HK.out _ _ _ _⟩
  · obtain ⟨rfl, rfl⟩ := HZ.out h0
    go_wp2_with fail
    refine bodyPost_ret (ret_nv2 rfl _ _ (k + 1 + 1) _ _ _ _ rfl ((PN2.out _ _).set _ _ _ _)) rfl ?_
    exact ⟨none, 0, rfl, (Nw.nil _ 0).in, (G2.out.set2 HK2.out _ _).set4 HK.out _ _ _ _⟩
set_option maxRecDepth 20000 in
set_option maxHeartbeats 1000000 in
theorem twwhole_pow (w : World) (f : Nat) (s : Bool) (l1 : Nat) (f2 : Nat) (s2 : Bool) (l2 : Nat) (t : Bool) (n : Nat) (z : Int) (hz : z ≠ 0 → t = false ∧ n = 0)
    (C : ∀ w1, Fr [] w w1 → Calls Tryz.prog 61 #[.agg #[.bool s, .slice a l1 cap], .agg #[.bool s2, .slice a2 l2 cap2]] w1 (IF w1 t n z)) :
    Calls Tryz.prog 23 #[.int .i64 4, .agg #[.bool false, .float .f64 f, .bool s, .slice a l1 cap], .agg #[.bool false, .float .f64 f2, .bool s2, .slice a2 l2 cap2]] w (NF w t n z) := by
  obtain ⟨W1, hW1⟩ : ∃ W1, W1 = (((w.alloc (.cells #[.bool false, .float .f64 f, .bool s, .slice a l1 cap] 27)).alloc (.cells #[.bool false, .float .f64 f2, .bool s2, .slice a2 l2 cap2] 27)).alloc (.cells #[.bool false, .float .f64 0, .bool false, .slice none 0 0] 27)).alloc (.cells #[.bool false, .slice none 0 0] 25) := ⟨_, rfl⟩
  obtain ⟨k, hk⟩ : ∃ k, k = w.heap.size := ⟨_, rfl⟩
  have F1 : Hid (Fr [] w W1) := Lib.hid (by rw [hW1]; exact ((((Fr.refl _ _).alloc _).alloc _).alloc _).alloc _)
  have PN : Hid (BxN W1 (k + 1 + 1) (.bool false) (.float .f64 0) (.bool false) (.slice none 0 0)) := Lib.hid (by
    unfold BxN
    rw [hW1, hk]
    simp only [blk_alloc, size_alloc]
    rw [if_neg (by omega), if_pos trivial])
  have PI : Hid (Bx W1 (k + 1 + 1 + 1) (.bool false) (.slice none 0 0)) := Lib.hid (by
    unfold Bx
    rw [hW1, hk]
    simp only [blk_alloc, size_alloc]
    rw [if_pos trivial])
  have HK : Hid (w.heap.size ≤ k + 1 + 1) := Lib.hid (by omega)
  have HK2 : Hid (w.heap.size ≤ k + 1 + 1 + 1) := Lib.hid (by omega)
  have C1 := Lib.hid (C W1 F1.out)
  clear C
  have hsf := sf_run
  go_enter Tryz.func23, Tryz.ntmps23
  go_wp2_with fail
  rw [← hW1, ← hk]
  clear hW1 hk
  refine C1.out.mono ?_
  rintro e w2 ⟨a3, c3, rfl, I2, F2⟩
  have PN := Lib.hid (PN.out.fr F2)
  have PI := Lib.hid (PI.out.fr F2)
  have G2 := Lib.hid (F1.out.same F2)
  have I2 := Lib.hid I2
  clear F1 F2 C1
  have q0 := PN.out.f 0
  have q1 := PN.out.f 1
  have q2 := PN.out.f 2
  have q3 := PN.out.f 3
  have d0 := PN.out.c0
  have d1 := PN.out.c1
  have d2 := PN.out.c2
  have d3 := PN.out.c3
  have ql := PN.out.lt
  have i0 := PI.out.f 0
  have i1 := PI.out.f 1
  have j0 := PI.out.c0
  have j1 := PI.out.c1
  have il := PI.out.lt
  have HZ := Lib.hid hz
  clear hz
  have PN2 : Hid (∀ v v', BxN ((w2.setCell ⟨k + 1 + 1 + 1, 0, none⟩ v).setCell ⟨k + 1 + 1 + 1, 1, none⟩ v') (k + 1 + 1) (.bool false) (.float .f64 0) (.bool false) (.slice none 0 0)) := Lib.hid (fun v v' => by
    unfold BxN
    rw [blk_set, if_neg (by omega), blk_set, if_neg (by omega)]
    exact PN.out)
  by_cases h0 : z = 0
  · subst h0
    have HL := Lib.hid (show ∃ l, l = (lims n).length from ⟨_, rfl⟩)
    go_wp2_with fail
    obtain ⟨w4, hw4⟩ : ∃ w4, w4 = (w2.setCell ⟨k + 1 + 1 + 1, 0, none⟩ (.bool t)).setCell ⟨k + 1 + 1 + 1, 1, none⟩ (.slice a3 (lims n).length c3) := ⟨_, rfl⟩
    have I4 : Hid (In w4 a3 c3 (lims n)) := Lib.hid (by rw [hw4]; exact I2.out.set2 PI.out _ _)
    have G4 : Hid (Fr [] w w4) := Lib.hid (by rw [hw4]; exact G2.out.set2 HK2.out _ _)
    have PN4 : Hid (BxN w4 (k + 1 + 1) (.bool false) (.float .f64 0) (.bool false) (.slice none 0 0)) := Lib.hid (by rw [hw4]; exact PN2.out _ _)
    rw [← hw4]
    clear hw4 PN2 PN PI I2 G2 q0 q1 q2 q3 d0 d1 d2 d3 ql i0 i1 j0 j1 il
    refine (twwhole_c w4 t (lims n).length).mono ?_
    rintro e w5 ⟨rfl, F5⟩
    have PN5 := Lib.hid (PN4.out.fr F5)
    have I5 := Lib.hid (I4.out.keep F5)
    have G5 := Lib.hid (G4.out.same F5)
    have q0 := PN5.out.f 0
    have q1 := PN5.out.f 1
    have q2 := PN5.out.f 2
    have q3 := PN5.out.f 3
    have d0 := PN5.out.c0
    have d1 := PN5.out.c1
    have d2 := PN5.out.c2
    have d3 := PN5.out.c3
    have ql := PN5.out.lt
    go_wp2_with fail
    refine bodyPost_ret (ret_nv2 rfl _ _ (k + 1 + 1) _ _ _ _ rfl (PN5.out.set _ _ _ _)) rfl ?_
    exact ⟨a3, c3, rfl, I5.out.set4 PN5.out _ _ _ _, G5.out.set4 HK.out _ _ _ _⟩
  · obtain ⟨rfl, rfl⟩ := HZ.out h0
    go_wp2_with fail
    refine bodyPost_ret (ret_nv2 rfl _ _ (k + 1 + 1) _ _ _ _ rfl ((PN2.out _ _).set _ _ _ _)) rfl ?_
    exact ⟨none, 0, rfl, (Nw.nil _ 0).in, (G2.out.set2 HK2.out _ _).set4 HK.out _ _ _ _⟩
set_option maxRecDepth 20000 in
set_option maxHeartbeats 1000000 in
theorem twwhole_quo (w : World) (f : Nat) (s : Bool) (l1 : Nat) (f2 : Nat) (s2 : Bool) (l2 : Nat) (t : Bool) (n : Nat) (z : Int) (hz : z ≠ 0 → t = false ∧ n = 0)
    (C : ∀ w1, Fr [] w w1 → Calls Tryz.prog 58 #[.agg #[.bool s, .slice a l1 cap], .agg #[.bool s2, .slice a2 l2 cap2]] w1 (QF1 w1 t n z)) :
    Calls Tryz.prog 23 #[.int .i64 0, .agg #[.bool false, .float .f64 f, .bool s, .slice a l1 cap], .agg #[.bool false, .float .f64 f2, .bool s2, .slice a2 l2 cap2]] w (NF w t n z) := by
  obtain ⟨W1, hW1⟩ : ∃ W1, W1 = (((w.alloc (.cells #[.bool false, .float .f64 f, .bool s, .slice a l1 cap] 27)).alloc (.cells #[.bool false, .float .f64 f2, .bool s2, .slice a2 l2 cap2] 27)).alloc (.cells #[.bool false, .float .f64 0, .bool false, .slice none 0 0] 27)).alloc (.cells #[.bool false, .slice none 0 0] 25) := ⟨_, rfl⟩
  obtain ⟨k, hk⟩ : ∃ k, k = w.heap.size := ⟨_, rfl⟩
  have F1 : Hid (Fr [] w W1) := Lib.hid (by rw [hW1]; exact ((((Fr.refl _ _).alloc _).alloc _).alloc _).alloc _)
  have PN : Hid (BxN W1 (k + 1 + 1) (.bool false) (.float .f64 0) (.bool false) (.slice none 0 0)) := Lib.hid (by
    unfold BxN
    rw [hW1, hk]
    simp only [blk_alloc, size_alloc]
    rw [if_neg (by omega), if_pos trivial])
  have PI : Hid (Bx W1 (k + 1 + 1 + 1) (.bool false) (.slice none 0 0)) := Lib.hid (by
    unfold Bx
    rw [hW1, hk]
    simp only [blk_alloc, size_alloc]
    rw [if_pos trivial])
  have HK : Hid (w.heap.size ≤ k + 1 + 1) := Lib.hid (by omega)
  have HK2 : Hid (w.heap.size ≤ k + 1 + 1 + 1) := Lib.hid (by omega)
  have C1 := Lib.hid (C W1 F1.out)
  clear C
  have hsf := sf_run
  go_enter Tryz.func23, Tryz.ntmps23
  go_wp2_with fail
  rw [← hW1, ← hk]
  clear hW1 hk
  refine C1.out.mono ?_
  rintro e w2 ⟨a3, c3, v3, rfl, I2, F2⟩
  have PN := Lib.hid (PN.out.fr F2)
  have PI := Lib.hid (PI.out.fr F2)
  have G2 := Lib.hid (F1.out.same F2)
  have I2 := Lib.hid I2
  clear F1 F2 C1
  have q0 := PN.out.f 0
  have q1 := PN.out.f 1
  have q2 := PN.out.f 2
  have q3 := PN.out.f 3
  have d0 := PN.out.c0
  have d1 := PN.out.c1
  have d2 := PN.out.c2
  have d3 := PN.out.c3
  have ql := PN.out.lt
  have i0 := PI.out.f 0
  have i1 := PI.out.f 1
  have j0 := PI.out.c0
  have j1 := PI.out.c1
  have il := PI.out.lt
  have HZ := Lib.hid hz
  clear hz
  have PN2 : Hid (∀ v v', BxN ((w2.setCell ⟨k + 1 + 1 + 1, 0, none⟩ v).setCell ⟨k + 1 + 1 + 1, 1, none⟩ v') (k + 1 + 1) (.bool false) (.float .f64 0) (.bool false) (.slice none 0 0)) := Lib.hid (fun v v' => by
    unfold BxN
    rw [blk_set, if_neg (by omega), blk_set, if_neg (by omega)]
    exact PN.out)
  by_cases h0 : z = 0
  · subst h0
    have HL := Lib.hid (show ∃ l, l = (lims n).length from ⟨_, rfl⟩)
    go_wp2_with fail
    obtain ⟨w4, hw4⟩ : ∃ w4, w4 = (w2.setCell ⟨k + 1 + 1 + 1, 0, none⟩ (.bool t)).setCell ⟨k + 1 + 1 + 1, 1, none⟩ (.slice a3 (lims n).length c3) := ⟨_, rfl⟩
    have I4 : Hid (In w4 a3 c3 (lims n)) := Lib.hid (by rw [hw4]; exact I2.out.set2 PI.out _ _)
    have G4 : Hid (Fr [] w w4) := Lib.hid (by rw [hw4]; exact G2.out.set2 HK2.out _ _)
    have PN4 : Hid (BxN w4 (k + 1 + 1) (.bool false) (.float .f64 0) (.bool false) (.slice none 0 0)) := Lib.hid (by rw [hw4]; exact PN2.out _ _)
    rw [← hw4]
    clear hw4 PN2 PN PI I2 G2 q0 q1 q2 q3 d0 d1 d2 d3 ql i0 i1 j0 j1 il
    refine (twwhole_c w4 t (lims n).length).mono ?_
    rintro e w5 ⟨rfl, F5⟩
    have PN5 := Lib.hid (PN4.out.fr F5)
    have I5 := Lib.hid (I4.out.keep F5)
    have G5 := Lib.hid (G4.out.same F5)
    have q0 := PN5.out.f 0
    have q1 := PN5.out.f 1
    have q2 := PN5.out.f 2
    have q3 := PN5.out.f 3
    have d0 := PN5.out.c0
    have d1 := PN5.out.c1
    have d2 := PN5.out.c2
    have d3 := PN5.out.c3
    have ql := PN5.out.lt
    go_wp2_with fail
    refine bodyPost_ret (ret_nv2 rfl _ _ (k + 1 + 1) _ _ _ _ rfl (PN5.out.set _ _ _ _)) rfl ?_
    exact ⟨a3, c3, rfl, I5.out.set4 PN5.out _ _ _ _, G5.out.set4 HK.out _ _ _ _⟩
  · obtain ⟨rfl, rfl⟩ := HZ.out h0
    go_wp2_with fail
    refine bodyPost_ret (ret_nv2 rfl _ _ (k + 1 + 1) _ _ _ _ rfl ((PN2.out _ _).set _ _ _ _)) rfl ?_
    exact ⟨none, 0, rfl, (Nw.nil _ 0).in, (G2.out.set2 HK2.out _ _).set4 HK.out _ _ _ _⟩
set_option maxRecDepth 20000 in
set_option maxHeartbeats 1000000 in
theorem twwhole_rem (w : World) (f : Nat) (s : Bool) (l1 : Nat) (f2 : Nat) (s2 : Bool) (l2 : Nat) (t : Bool) (n : Nat) (z : Int) (hz : z ≠ 0 → t = false ∧ n = 0)
    (C : ∀ w1, Fr [] w w1 → Calls Tryz.prog 58 #[.agg #[.bool s, .slice a l1 cap], .agg #[.bool s2, .slice a2 l2 cap2]] w1 (QF2 w1 t n z)) :
    Calls Tryz.prog 23 #[.int .i64 1, .agg #[.bool false, .float .f64 f, .bool s, .slice a l1 cap], .agg #[.bool false, .float .f64 f2, .bool s2, .slice a2 l2 cap2]] w (NF w t n z) := by
  obtain ⟨W1, hW1⟩ : ∃ W1, W1 = (((w.alloc (.cells #[.bool false, .float .f64 f, .bool s, .slice a l1 cap] 27)).alloc (.cells #[.bool false, .float .f64 f2, .bool s2, .slice a2 l2 cap2] 27)).alloc (.cells #[.bool false, .float .f64 0, .bool false, .slice none 0 0] 27)).alloc (.cells #[.bool false, .slice none 0 0] 25) := ⟨_, rfl⟩
  obtain ⟨k, hk⟩ : ∃ k, k = w.heap.size := ⟨_, rfl⟩
  have F1 : Hid (Fr [] w W1) := Lib.hid (by rw [hW1]; exact ((((Fr.refl _ _).alloc _).alloc _).alloc _).alloc _)
  have PN : Hid (BxN W1 (k + 1 + 1) (.bool false) (.float .f64 0) (.bool false) (.slice none 0 0)) := Lib.hid (by
    unfold BxN
    rw [hW1, hk]
    simp only [blk_alloc, size_alloc]
    rw [if_neg (by omega), if_pos trivial])
  have PI : Hid (Bx W1 (k + 1 + 1 + 1) (.bool false) (.slice none 0 0)) := Lib.hid (by
    unfold Bx
    rw [hW1, hk]
    simp only [blk_alloc, size_alloc]
    rw [if_pos trivial])
  have HK : Hid (w.heap.size ≤ k + 1 + 1) := Lib.hid (by omega)
  have HK2 : Hid (w.heap.size ≤ k + 1 + 1 + 1) := Lib.hid (by omega)
  have C1 := Lib.hid (C W1 F1.out)
  clear C
  have hsf := sf_run
  go_enter Tryz.func23, Tryz.ntmps23
  go_wp2_with fail
  rw [← hW1, ← hk]
  clear hW1 hk
  refine C1.out.mono ?_
  rintro e w2 ⟨a3, c3, v3, rfl, I2, F2⟩
  have PN := Lib.hid (PN.out.fr F2)
  have PI := Lib.hid (PI.out.fr F2)
  have G2 := Lib.hid (F1.out.same F2)
  have I2 := Lib.hid I2
  clear F1 F2 C1
  have q0 := PN.out.f 0
  have q1 := PN.out.f 1
  have q2 := PN.out.f 2
  have q3 := PN.out.f 3
  have d0 := PN.out.c0
  have d1 := PN.out.c1
  have d2 := PN.out.c2
  have d3 := PN.out.c3
  have ql := PN.out.lt
  have i0 := PI.out.f 0
  have i1 := PI.out.f 1
  have j0 := PI.out.c0
  have j1 := PI.out.c1
  have il := PI.out.lt
  have HZ := Lib.hid hz
  clear hz
  have PN2 : Hid (∀ v v', BxN ((w2.setCell ⟨k + 1 + 1 + 1, 0, none⟩ v).setCell ⟨k + 1 + 1 + 1, 1, none⟩ v') (k + 1 + 1) (.bool false) (.float .f64 0) (.bool false) (.slice none 0 0)) := Lib.hid (fun v v' => by
    unfold BxN
    rw [blk_set, if_neg (by omega), blk_set, if_neg (by omega)]
    exact PN.out)
  by_cases h0 : z = 0
  · subst h0
    have HL := Lib.hid (show ∃ l, l = (lims n).length from ⟨_, rfl⟩)
    go_wp2_with fail
    obtain ⟨w4, hw4⟩ : ∃ w4, w4 = (w2.setCell ⟨k + 1 + 1 + 1, 0, none⟩ (.bool t)).setCell ⟨k + 1 + 1 + 1, 1, none⟩ (.slice a3 (lims n).length c3) := ⟨_, rfl⟩
    have I4 : Hid (In w4 a3 c3 (lims n)) := Lib.hid (by rw [hw4]; exact I2.out.set2 PI.out _ _)
    have G4 : Hid (Fr [] w w4) := Lib.hid (by rw [hw4]; exact G2.out.set2 HK2.out _ _)
    have PN4 : Hid (BxN w4 (k + 1 + 1) (.bool false) (.float .f64 0) (.bool false) (.slice none 0 0)) := Lib.hid (by rw [hw4]; exact PN2.out _ _)
    rw [← hw4]
    clear hw4 PN2 PN PI I2 G2 q0 q1 q2 q3 d0 d1 d2 d3 ql i0 i1 j0 j1 il
    refine (twwhole_c w4 t (lims n).length).mono ?_
    rintro e w5 ⟨rfl, F5⟩
    have PN5 := Lib.hid (PN4.out.fr F5)
    have I5 := Lib.hid (I4.out.keep F5)
    have G5 := Lib.hid (G4.out.same F5)
    have q0 := PN5.out.f 0
    have q1 := PN5.out.f 1
    have q2 := PN5.out.f 2
    have q3 := PN5.out.f 3
    have d0 := PN5.out.c0
    have d1 := PN5.out.c1
    have d2 := PN5.out.c2
    have d3 := PN5.out.c3
    have ql := PN5.out.lt
    go_wp2_with fail
    refine bodyPost_ret (ret_nv2 rfl _ _ (k + 1 + 1) _ _ _ _ rfl (PN5.out.set _ _ _ _)) rfl ?_
    exact ⟨a3, c3, rfl, I5.out.set4 PN5.out _ _ _ _, G5.out.set4 HK.out _ _ _ _⟩
  · obtain ⟨rfl, rfl⟩ := HZ.out h0
    go_wp2_with fail
    refine bodyPost_ret (ret_nv2 rfl _ _ (k + 1 + 1) _ _ _ _ rfl ((PN2.out _ _).set _ _ _ _)) rfl ?_
    exact ⟨none, 0, rfl, (Nw.nil _ 0).in, (G2.out.set2 HK2.out _ _).set4 HK.out _ _ _ _⟩
set_option maxRecDepth 20000 in
set_option maxHeartbeats 1000000 in
theorem twwhole_gcd (w : World) (f : Nat) (s : Bool) (l1 : Nat) (f2 : Nat) (s2 : Bool) (l2 : Nat) (t : Bool) (n : Nat)
    (C : ∀ w1, Fr [] w w1 → Calls Tryz.prog 60 #[.agg #[.bool s, .slice a l1 cap], .agg #[.bool s2, .slice a2 l2 cap2]] w1 (GivesI w1 t n)) :
    Calls Tryz.prog 23 #[.int .i64 3, .agg #[.bool false, .float .f64 f, .bool s, .slice a l1 cap], .agg #[.bool false, .float .f64 f2, .bool s2, .slice a2 l2 cap2]] w (NF w t n 0) := by
  obtain ⟨W1, hW1⟩ : ∃ W1, W1 = (((w.alloc (.cells #[.bool false, .float .f64 f, .bool s, .slice a l1 cap] 27)).alloc (.cells #[.bool false, .float .f64 f2, .bool s2, .slice a2 l2 cap2] 27)).alloc (.cells #[.bool false, .float .f64 0, .bool false, .slice none 0 0] 27)).alloc (.cells #[.bool false, .slice none 0 0] 25) := ⟨_, rfl⟩
  obtain ⟨k, hk⟩ : ∃ k, k = w.heap.size := ⟨_, rfl⟩
  have F1 : Hid (Fr [] w W1) := Lib.hid (by rw [hW1]; exact ((((Fr.refl _ _).alloc _).alloc _).alloc _).alloc _)
  have PN : Hid (BxN W1 (k + 1 + 1) (.bool false) (.float .f64 0) (.bool false) (.slice none 0 0)) := Lib.hid (by
    unfold BxN
    rw [hW1, hk]
    simp only [blk_alloc, size_alloc]
    rw [if_neg (by omega), if_pos trivial])
  have PI : Hid (Bx W1 (k + 1 + 1 + 1) (.bool false) (.slice none 0 0)) := Lib.hid (by
    unfold Bx
    rw [hW1, hk]
    simp only [blk_alloc, size_alloc]
    rw [if_pos trivial])
  have HK : Hid (w.heap.size ≤ k + 1 + 1) := Lib.hid (by omega)
  have HK2 : Hid (w.heap.size ≤ k + 1 + 1 + 1) := Lib.hid (by omega)
  have C1 := Lib.hid (C W1 F1.out)
  clear C
  have hsf := sf_run
  go_enter Tryz.func23, Tryz.ntmps23
  go_wp2_with fail
  rw [← hW1, ← hk]
  clear hW1 hk
  refine C1.out.mono ?_
  rintro e w2 ⟨a3, c3, rfl, I2, F2⟩
  have PN := Lib.hid (PN.out.fr F2)
  have PI := Lib.hid (PI.out.fr F2)
  have G2 := Lib.hid (F1.out.same F2)
  have I2 := Lib.hid I2
  clear F1 F2 C1
  have q0 := PN.out.f 0
  have q1 := PN.out.f 1
  have q2 := PN.out.f 2
  have q3 := PN.out.f 3
  have d0 := PN.out.c0
  have d1 := PN.out.c1
  have d2 := PN.out.c2
  have d3 := PN.out.c3
  have ql := PN.out.lt
  have i0 := PI.out.f 0
  have i1 := PI.out.f 1
  have j0 := PI.out.c0
  have j1 := PI.out.c1
  have il := PI.out.lt
  have PN2 : Hid (∀ v v', BxN ((w2.setCell ⟨k + 1 + 1 + 1, 0, none⟩ v).setCell ⟨k + 1 + 1 + 1, 1, none⟩ v') (k + 1 + 1) (.bool false) (.float .f64 0) (.bool false) (.slice none 0 0)) := Lib.hid (fun v v' => by
    unfold BxN
    rw [blk_set, if_neg (by omega), blk_set, if_neg (by omega)]
    exact PN.out)
  have HL := Lib.hid (show ∃ l, l = (lims n).length from ⟨_, rfl⟩)
  go_wp2_with fail
  obtain ⟨w4, hw4⟩ : ∃ w4, w4 = (w2.setCell ⟨k + 1 + 1 + 1, 0, none⟩ (.bool t)).setCell ⟨k + 1 + 1 + 1, 1, none⟩ (.slice a3 (lims n).length c3) := ⟨_, rfl⟩
  have I4 : Hid (In w4 a3 c3 (lims n)) := Lib.hid (by rw [hw4]; exact I2.out.set2 PI.out _ _)
  have G4 : Hid (Fr [] w w4) := Lib.hid (by rw [hw4]; exact G2.out.set2 HK2.out _ _)
  have PN4 : Hid (BxN w4 (k + 1 + 1) (.bool false) (.float .f64 0) (.bool false) (.slice none 0 0)) := Lib.hid (by rw [hw4]; exact PN2.out _ _)
  rw [← hw4]
  clear hw4 PN2 PN PI I2 G2 q0 q1 q2 q3 d0 d1 d2 d3 ql i0 i1 j0 j1 il
  refine (twwhole_c w4 t (lims n).length).mono ?_
  rintro e w5 ⟨rfl, F5⟩
  have PN5 := Lib.hid (PN4.out.fr F5)
  have I5 := Lib.hid (I4.out.keep F5)
  have G5 := Lib.hid (G4.out.same F5)
  have q0 := PN5.out.f 0
  have q1 := PN5.out.f 1
  have q2 := PN5.out.f 2
  have q3 := PN5.out.f 3
  have d0 := PN5.out.c0
  have d1 := PN5.out.c1
  have d2 := PN5.out.c2
  have d3 := PN5.out.c3
  have ql := PN5.out.lt
  go_wp2_with fail
  refine bodyPost_ret (ret_nv2 rfl _ _ (k + 1 + 1) _ _ _ _ rfl (PN5.out.set _ _ _ _)) rfl ?_
  exact ⟨a3, c3, rfl, I5.out.set4 PN5.out _ _ _ _, G5.out.set4 HK.out _ _ _ _⟩
end Go.Proofs.YtjdanblijcdllaaGreatDoor
/- Walks: distaffref04.Whole at each op, from what ref02's function answers. -/
namespace Go.Proofs.YtjdanblijcdllaaGreatDoor
open Go.ChangeShapes Go.WideShapes Go.RowKit
variable {w w' : World} {a a2 : Option Addr} {cap cap2 : Nat}
/-- ref02.Quo's answer, flat, of either result. -/
def QG1 (w : World) (s : Bool) (n : Nat) (z : Int) (e : Ending) (w' : World) : Prop := ∃ a c v1 x1 x2 x3, e = .returned (.tuple #[.agg #[.bool s, .slice a (lims n).length c], .agg #[.bool v1, .slice x1 x2 x3], .int .i64 z]) ∧ In w' a c (lims n) ∧ Fr [] w w'
def QG2 (w : World) (s : Bool) (n : Nat) (z : Int) (e : Ending) (w' : World) : Prop := ∃ a c v1 x1 x2 x3, e = .returned (.tuple #[.agg #[.bool v1, .slice x1 x2 x3], .agg #[.bool s, .slice a (lims n).length c], .int .i64 z]) ∧ In w' a c (lims n) ∧ Fr [] w w'
set_option maxRecDepth 20000 in
set_option maxHeartbeats 1000000 in
theorem r4whole_mod (w : World) (f : Nat) (s : Bool) (l1 : Nat) (f2 : Nat) (s2 : Bool) (l2 : Nat) (t : Bool) (n : Nat) (z : Int) (hz : z ≠ 0 → t = false ∧ n = 0)
    (C : ∀ w1, Fr [] w w1 → Calls Tryz.prog 63 #[.agg #[.bool s, .slice a l1 cap], .agg #[.bool s2, .slice a2 l2 cap2]] w1 (IF w1 t n z)) :
    Calls Tryz.prog 24 #[.int .i64 2, .agg #[.bool false, .float .f64 f, .bool s, .slice a l1 cap], .agg #[.bool false, .float .f64 f2, .bool s2, .slice a2 l2 cap2]] w (NF w t n z) := by
  obtain ⟨W1, hW1⟩ : ∃ W1, W1 = ((w.alloc (.cells #[.bool false, .float .f64 f, .bool s, .slice a l1 cap] 27)).alloc (.cells #[.bool false, .float .f64 f2, .bool s2, .slice a2 l2 cap2] 27)).alloc (.cells #[.bool false, .float .f64 0, .bool false, .slice none 0 0] 27) := ⟨_, rfl⟩
  obtain ⟨k, hk⟩ : ∃ k, k = w.heap.size := ⟨_, rfl⟩
  have F1 : Hid (Fr [] w W1) := Lib.hid (by rw [hW1]; exact (((Fr.refl _ _).alloc _).alloc _).alloc _)
  have PN : Hid (BxN W1 (k + 1 + 1) (.bool false) (.float .f64 0) (.bool false) (.slice none 0 0)) := Lib.hid (by
    unfold BxN
    rw [hW1, hk]
    simp only [blk_alloc, size_alloc]
    rw [if_pos trivial])
  have HK : Hid (w.heap.size ≤ k + 1 + 1) := Lib.hid (by omega)
  have C1 := Lib.hid (C W1 F1.out)
  clear C
  have hsf := sf_run
  go_enter Tryz.func24, Tryz.ntmps24
  go_wp2_with fail
  rw [← hW1, ← hk]
  clear hW1 hk
  refine C1.out.mono ?_
  rintro e w2 ⟨a3, c3, rfl, I2, F2⟩
  have PN := Lib.hid (PN.out.fr F2)
  have G2 := Lib.hid (F1.out.same F2)
  have I2 := Lib.hid I2
  clear F1 F2 C1
  go_wp2_with fail
  refine (r4out_c w2 t n z I2.out hz).mono ?_
  rintro e w3 ⟨a5, c5, rfl, I5, F5⟩
  have PN := Lib.hid (PN.out.fr F5)
  have G3 := Lib.hid (G2.out.same F5)
  have I5 := Lib.hid I5
  clear F5 G2 I2 hz
  have q0 := PN.out.f 0
  have q1 := PN.out.f 1
  have q2 := PN.out.f 2
  have q3 := PN.out.f 3
  have d0 := PN.out.c0
  have d1 := PN.out.c1
  have d2 := PN.out.c2
  have d3 := PN.out.c3
  have ql := PN.out.lt
  go_wp2_with fail
  refine bodyPost_ret (ret_nv2 rfl _ _ (k + 1 + 1) _ _ _ _ rfl (PN.out.set _ _ _ _)) rfl ?_
  exact ⟨a5, c5, rfl, I5.out.set4 PN.out _ _ _ _, G3.out.set4 HK.out _ _ _ _⟩
set_option maxRecDepth 20000 in
set_option maxHeartbeats 1000000 in
theorem r4whole_pow (w : World) (f : Nat) (s : Bool) (l1 : Nat) (f2 : Nat) (s2 : Bool) (l2 : Nat) (t : Bool) (n : Nat) (z : Int) (hz : z ≠ 0 → t = false ∧ n = 0)
    (C : ∀ w1, Fr [] w w1 → Calls Tryz.prog 65 #[.agg #[.bool s, .slice a l1 cap], .agg #[.bool s2, .slice a2 l2 cap2]] w1 (IF w1 t n z)) :
    Calls Tryz.prog 24 #[.int .i64 4, .agg #[.bool false, .float .f64 f, .bool s, .slice a l1 cap], .agg #[.bool false, .float .f64 f2, .bool s2, .slice a2 l2 cap2]] w (NF w t n z) := by
  obtain ⟨W1, hW1⟩ : ∃ W1, W1 = ((w.alloc (.cells #[.bool false, .float .f64 f, .bool s, .slice a l1 cap] 27)).alloc (.cells #[.bool false, .float .f64 f2, .bool s2, .slice a2 l2 cap2] 27)).alloc (.cells #[.bool false, .float .f64 0, .bool false, .slice none 0 0] 27) := ⟨_, rfl⟩
  obtain ⟨k, hk⟩ : ∃ k, k = w.heap.size := ⟨_, rfl⟩
  have F1 : Hid (Fr [] w W1) := Lib.hid (by rw [hW1]; exact (((Fr.refl _ _).alloc _).alloc _).alloc _)
  have PN : Hid (BxN W1 (k + 1 + 1) (.bool false) (.float .f64 0) (.bool false) (.slice none 0 0)) := Lib.hid (by
    unfold BxN
    rw [hW1, hk]
    simp only [blk_alloc, size_alloc]
    rw [if_pos trivial])
  have HK : Hid (w.heap.size ≤ k + 1 + 1) := Lib.hid (by omega)
  have C1 := Lib.hid (C W1 F1.out)
  clear C
  have hsf := sf_run
  go_enter Tryz.func24, Tryz.ntmps24
  go_wp2_with fail
  rw [← hW1, ← hk]
  clear hW1 hk
  refine C1.out.mono ?_
  rintro e w2 ⟨a3, c3, rfl, I2, F2⟩
  have PN := Lib.hid (PN.out.fr F2)
  have G2 := Lib.hid (F1.out.same F2)
  have I2 := Lib.hid I2
  clear F1 F2 C1
  go_wp2_with fail
  refine (r4out_c w2 t n z I2.out hz).mono ?_
  rintro e w3 ⟨a5, c5, rfl, I5, F5⟩
  have PN := Lib.hid (PN.out.fr F5)
  have G3 := Lib.hid (G2.out.same F5)
  have I5 := Lib.hid I5
  clear F5 G2 I2 hz
  have q0 := PN.out.f 0
  have q1 := PN.out.f 1
  have q2 := PN.out.f 2
  have q3 := PN.out.f 3
  have d0 := PN.out.c0
  have d1 := PN.out.c1
  have d2 := PN.out.c2
  have d3 := PN.out.c3
  have ql := PN.out.lt
  go_wp2_with fail
  refine bodyPost_ret (ret_nv2 rfl _ _ (k + 1 + 1) _ _ _ _ rfl (PN.out.set _ _ _ _)) rfl ?_
  exact ⟨a5, c5, rfl, I5.out.set4 PN.out _ _ _ _, G3.out.set4 HK.out _ _ _ _⟩
set_option maxRecDepth 20000 in
set_option maxHeartbeats 1000000 in
theorem r4whole_gcd (w : World) (f : Nat) (s : Bool) (l1 : Nat) (f2 : Nat) (s2 : Bool) (l2 : Nat) (t : Bool) (n : Nat)
    (C : ∀ w1, Fr [] w w1 → Calls Tryz.prog 64 #[.agg #[.bool s, .slice a l1 cap], .agg #[.bool s2, .slice a2 l2 cap2]] w1 (GivesI w1 t n)) :
    Calls Tryz.prog 24 #[.int .i64 3, .agg #[.bool false, .float .f64 f, .bool s, .slice a l1 cap], .agg #[.bool false, .float .f64 f2, .bool s2, .slice a2 l2 cap2]] w (NF w t n 0) := by
  obtain ⟨W1, hW1⟩ : ∃ W1, W1 = ((w.alloc (.cells #[.bool false, .float .f64 f, .bool s, .slice a l1 cap] 27)).alloc (.cells #[.bool false, .float .f64 f2, .bool s2, .slice a2 l2 cap2] 27)).alloc (.cells #[.bool false, .float .f64 0, .bool false, .slice none 0 0] 27) := ⟨_, rfl⟩
  obtain ⟨k, hk⟩ : ∃ k, k = w.heap.size := ⟨_, rfl⟩
  have F1 : Hid (Fr [] w W1) := Lib.hid (by rw [hW1]; exact (((Fr.refl _ _).alloc _).alloc _).alloc _)
  have PN : Hid (BxN W1 (k + 1 + 1) (.bool false) (.float .f64 0) (.bool false) (.slice none 0 0)) := Lib.hid (by
    unfold BxN
    rw [hW1, hk]
    simp only [blk_alloc, size_alloc]
    rw [if_pos trivial])
  have HK : Hid (w.heap.size ≤ k + 1 + 1) := Lib.hid (by omega)
  have C1 := Lib.hid (C W1 F1.out)
  clear C
  have hsf := sf_run
  go_enter Tryz.func24, Tryz.ntmps24
  go_wp2_with fail
  rw [← hW1, ← hk]
  clear hW1 hk
  refine C1.out.mono ?_
  rintro e w2 ⟨a3, c3, rfl, I2, F2⟩
  have PN := Lib.hid (PN.out.fr F2)
  have G2 := Lib.hid (F1.out.same F2)
  have I2 := Lib.hid I2
  clear F1 F2 C1
  have q0 := PN.out.f 0
  have q1 := PN.out.f 1
  have q2 := PN.out.f 2
  have q3 := PN.out.f 3
  have d0 := PN.out.c0
  have d1 := PN.out.c1
  have d2 := PN.out.c2
  have d3 := PN.out.c3
  have ql := PN.out.lt
  go_wp2_with fail
  refine bodyPost_ret (ret_nv2 rfl _ _ (k + 1 + 1) _ _ _ _ rfl (PN.out.set _ _ _ _)) rfl ?_
  exact ⟨a3, c3, rfl, I2.out.set4 PN.out _ _ _ _, G2.out.set4 HK.out _ _ _ _⟩
set_option maxRecDepth 20000 in
set_option maxHeartbeats 1000000 in
theorem r4whole_quo (w : World) (f : Nat) (s : Bool) (l1 : Nat) (f2 : Nat) (s2 : Bool) (l2 : Nat) (t : Bool) (n : Nat) (z : Int) (hz : z ≠ 0 → t = false ∧ n = 0)
    (C : ∀ w1, Fr [] w w1 → Calls Tryz.prog 66 #[.agg #[.bool s, .slice a l1 cap], .agg #[.bool s2, .slice a2 l2 cap2]] w1 (QG1 w1 t n z)) :
    Calls Tryz.prog 24 #[.int .i64 0, .agg #[.bool false, .float .f64 f, .bool s, .slice a l1 cap], .agg #[.bool false, .float .f64 f2, .bool s2, .slice a2 l2 cap2]] w (NF w t n z) := by
  obtain ⟨W1, hW1⟩ : ∃ W1, W1 = ((w.alloc (.cells #[.bool false, .float .f64 f, .bool s, .slice a l1 cap] 27)).alloc (.cells #[.bool false, .float .f64 f2, .bool s2, .slice a2 l2 cap2] 27)).alloc (.cells #[.bool false, .float .f64 0, .bool false, .slice none 0 0] 27) := ⟨_, rfl⟩
  obtain ⟨k, hk⟩ : ∃ k, k = w.heap.size := ⟨_, rfl⟩
  have F1 : Hid (Fr [] w W1) := Lib.hid (by rw [hW1]; exact (((Fr.refl _ _).alloc _).alloc _).alloc _)
  have PN : Hid (BxN W1 (k + 1 + 1) (.bool false) (.float .f64 0) (.bool false) (.slice none 0 0)) := Lib.hid (by
    unfold BxN
    rw [hW1, hk]
    simp only [blk_alloc, size_alloc]
    rw [if_pos trivial])
  have HK : Hid (w.heap.size ≤ k + 1 + 1) := Lib.hid (by omega)
  have C1 := Lib.hid (C W1 F1.out)
  clear C
  have hsf := sf_run
  go_enter Tryz.func24, Tryz.ntmps24
  go_wp2_with fail
  rw [← hW1, ← hk]
  clear hW1 hk
  refine C1.out.mono ?_
  rintro e w2 ⟨a3, c3, v1, x1, x2, x3, rfl, I2, F2⟩
  have PN := Lib.hid (PN.out.fr F2)
  have G2 := Lib.hid (F1.out.same F2)
  have I2 := Lib.hid I2
  clear F1 F2 C1
  obtain ⟨W2, hW2⟩ : ∃ W2, W2 = (w2.alloc (.cells #[.bool t, .slice a3 (lims n).length c3] 25)).alloc (.cells #[.bool v1, .slice x1 x2 x3] 25) := ⟨_, rfl⟩
  have N2 : Hid (Fr [] w2 W2) := Lib.hid (by rw [hW2]; exact ((Fr.refl _ _).alloc _).alloc _)
  have PN := Lib.hid (PN.out.fr N2.out)
  have G2 := Lib.hid (G2.out.same N2.out)
  have I2 := Lib.hid (I2.out.keep N2.out)
  clear N2
  go_wp2_with fail
  rw [← hW2]
  clear hW2
  refine (r4out_c W2 t n z I2.out hz).mono ?_
  rintro e w3 ⟨a5, c5, rfl, I5, F5⟩
  have PN := Lib.hid (PN.out.fr F5)
  have G3 := Lib.hid (G2.out.same F5)
  have I5 := Lib.hid I5
  clear F5 G2 I2 hz
  have q0 := PN.out.f 0
  have q1 := PN.out.f 1
  have q2 := PN.out.f 2
  have q3 := PN.out.f 3
  have d0 := PN.out.c0
  have d1 := PN.out.c1
  have d2 := PN.out.c2
  have d3 := PN.out.c3
  have ql := PN.out.lt
  go_wp2_with fail
  refine bodyPost_ret (ret_nv2 rfl _ _ (k + 1 + 1) _ _ _ _ rfl (PN.out.set _ _ _ _)) rfl ?_
  exact ⟨a5, c5, rfl, I5.out.set4 PN.out _ _ _ _, G3.out.set4 HK.out _ _ _ _⟩
set_option maxRecDepth 20000 in
set_option maxHeartbeats 1000000 in
theorem r4whole_rem (w : World) (f : Nat) (s : Bool) (l1 : Nat) (f2 : Nat) (s2 : Bool) (l2 : Nat) (t : Bool) (n : Nat) (z : Int) (hz : z ≠ 0 → t = false ∧ n = 0)
    (C : ∀ w1, Fr [] w w1 → Calls Tryz.prog 66 #[.agg #[.bool s, .slice a l1 cap], .agg #[.bool s2, .slice a2 l2 cap2]] w1 (QG2 w1 t n z)) :
    Calls Tryz.prog 24 #[.int .i64 1, .agg #[.bool false, .float .f64 f, .bool s, .slice a l1 cap], .agg #[.bool false, .float .f64 f2, .bool s2, .slice a2 l2 cap2]] w (NF w t n z) := by
  obtain ⟨W1, hW1⟩ : ∃ W1, W1 = ((w.alloc (.cells #[.bool false, .float .f64 f, .bool s, .slice a l1 cap] 27)).alloc (.cells #[.bool false, .float .f64 f2, .bool s2, .slice a2 l2 cap2] 27)).alloc (.cells #[.bool false, .float .f64 0, .bool false, .slice none 0 0] 27) := ⟨_, rfl⟩
  obtain ⟨k, hk⟩ : ∃ k, k = w.heap.size := ⟨_, rfl⟩
  have F1 : Hid (Fr [] w W1) := Lib.hid (by rw [hW1]; exact (((Fr.refl _ _).alloc _).alloc _).alloc _)
  have PN : Hid (BxN W1 (k + 1 + 1) (.bool false) (.float .f64 0) (.bool false) (.slice none 0 0)) := Lib.hid (by
    unfold BxN
    rw [hW1, hk]
    simp only [blk_alloc, size_alloc]
    rw [if_pos trivial])
  have HK : Hid (w.heap.size ≤ k + 1 + 1) := Lib.hid (by omega)
  have C1 := Lib.hid (C W1 F1.out)
  clear C
  have hsf := sf_run
  go_enter Tryz.func24, Tryz.ntmps24
  go_wp2_with fail
  rw [← hW1, ← hk]
  clear hW1 hk
  refine C1.out.mono ?_
  rintro e w2 ⟨a3, c3, v1, x1, x2, x3, rfl, I2, F2⟩
  have PN := Lib.hid (PN.out.fr F2)
  have G2 := Lib.hid (F1.out.same F2)
  have I2 := Lib.hid I2
  clear F1 F2 C1
  obtain ⟨W2, hW2⟩ : ∃ W2, W2 = (w2.alloc (.cells #[.bool v1, .slice x1 x2 x3] 25)).alloc (.cells #[.bool t, .slice a3 (lims n).length c3] 25) := ⟨_, rfl⟩
  have N2 : Hid (Fr [] w2 W2) := Lib.hid (by rw [hW2]; exact ((Fr.refl _ _).alloc _).alloc _)
  have PN := Lib.hid (PN.out.fr N2.out)
  have G2 := Lib.hid (G2.out.same N2.out)
  have I2 := Lib.hid (I2.out.keep N2.out)
  clear N2
  go_wp2_with fail
  rw [← hW2]
  clear hW2
  refine (r4out_c W2 t n z I2.out hz).mono ?_
  rintro e w3 ⟨a5, c5, rfl, I5, F5⟩
  have PN := Lib.hid (PN.out.fr F5)
  have G3 := Lib.hid (G2.out.same F5)
  have I5 := Lib.hid I5
  clear F5 G2 I2 hz
  have q0 := PN.out.f 0
  have q1 := PN.out.f 1
  have q2 := PN.out.f 2
  have q3 := PN.out.f 3
  have d0 := PN.out.c0
  have d1 := PN.out.c1
  have d2 := PN.out.c2
  have d3 := PN.out.c3
  have ql := PN.out.lt
  go_wp2_with fail
  refine bodyPost_ret (ret_nv2 rfl _ _ (k + 1 + 1) _ _ _ _ rfl (PN.out.set _ _ _ _)) rfl ?_
  exact ⟨a5, c5, rfl, I5.out.set4 PN.out _ _ _ _, G3.out.set4 HK.out _ _ _ _⟩
end Go.Proofs.YtjdanblijcdllaaGreatDoor
/- Walks: tower.Whole and distaffref04.Whole where an operand is a floating one or the op is none. -/
namespace Go.Proofs.YtjdanblijcdllaaGreatDoor
open Go.ChangeShapes Go.WideShapes Go.RowKit
variable {w w' : World} {a a2 : Option Addr} {cap cap2 : Nat}
def badN (z : Int) (fl fl2 : Bool) : Bool := fl || fl2 || decide (z < 0) || decide (4 < z)
set_option maxRecDepth 20000 in
set_option maxHeartbeats 1000000 in
theorem r4whole_bad (w : World) (z : Int) (fl fl2 : Bool) (f : Nat) (s : Bool) (l1 : Nat) (f2 : Nat) (s2 : Bool) (l2 : Nat) (h : badN z fl fl2 = true) :
    Calls Tryz.prog 24 #[.int .i64 z, .agg #[.bool fl, .float .f64 f, .bool s, .slice a l1 cap], .agg #[.bool fl2, .float .f64 f2, .bool s2, .slice a2 l2 cap2]] w (NF w false 0 41) := by
  have hsf := sf_run
  have fin : ∀ W', Fr [] w W' → NF w false 0 41 (.returned (.tuple #[.agg #[.bool false, .float .f64 0, .bool false, .slice none 0 0], .int .i64 41])) W' := fun W' h => ⟨none, 0, rfl, (Nw.nil _ 0).in, h⟩
  have FIN := Lib.hid fin
  clear fin
  unfold badN at h
  by_cases c1 : z < 0
  · clear h
    go_enter Tryz.func24, Tryz.ntmps24
    go_wp2
    refine bodyPost_ret (ret_nv2 rfl _ _ (w.heap.size + 1 + 1) _ _ _ _ rfl (by simp only [blk_alloc, size_alloc]; rw [if_pos trivial])) rfl ?_
    exact FIN.out _ ((((Fr.refl [] w).alloc _).alloc _).alloc _)
  · by_cases c2 : 4 < z
    · clear h
      go_enter Tryz.func24, Tryz.ntmps24
      go_wp2
      refine bodyPost_ret (ret_nv2 rfl _ _ (w.heap.size + 1 + 1) _ _ _ _ rfl (by simp only [blk_alloc, size_alloc]; rw [if_pos trivial])) rfl ?_
      exact FIN.out _ ((((Fr.refl [] w).alloc _).alloc _).alloc _)
    · rw [decide_eq_false c1, decide_eq_false c2] at h
      cases fl with
      | true =>
        clear h
        go_enter Tryz.func24, Tryz.ntmps24
        go_wp2
        refine bodyPost_ret (ret_nv2 rfl _ _ (w.heap.size + 1 + 1) _ _ _ _ rfl (by simp only [blk_alloc, size_alloc]; rw [if_pos trivial])) rfl ?_
        exact FIN.out _ ((((Fr.refl [] w).alloc _).alloc _).alloc _)
      | false =>
        have h2 : fl2 = true := by simpa using h
        subst h2
        clear h
        go_enter Tryz.func24, Tryz.ntmps24
        go_wp2
        refine bodyPost_ret (ret_nv2 rfl _ _ (w.heap.size + 1 + 1) _ _ _ _ rfl (by simp only [blk_alloc, size_alloc]; rw [if_pos trivial])) rfl ?_
        exact FIN.out _ ((((Fr.refl [] w).alloc _).alloc _).alloc _)
end Go.Proofs.YtjdanblijcdllaaGreatDoor
/- Walks: tower.Whole where an operand is a floating one or the op is none. -/
namespace Go.Proofs.YtjdanblijcdllaaGreatDoor
open Go.ChangeShapes Go.WideShapes Go.RowKit
variable {w w' : World} {a a2 : Option Addr} {cap cap2 : Nat}
set_option maxRecDepth 20000 in
set_option maxHeartbeats 1000000 in
theorem twwhole_bad (w : World) (z : Int) (fl fl2 : Bool) (f : Nat) (s : Bool) (l1 : Nat) (f2 : Nat) (s2 : Bool) (l2 : Nat) (h : badN z fl fl2 = true) :
    Calls Tryz.prog 23 #[.int .i64 z, .agg #[.bool fl, .float .f64 f, .bool s, .slice a l1 cap], .agg #[.bool fl2, .float .f64 f2, .bool s2, .slice a2 l2 cap2]] w (NF w false 0 41) := by
  have hsf := sf_run
  have fin : ∀ W', Fr [] w W' → NF w false 0 41 (.returned (.tuple #[.agg #[.bool false, .float .f64 0, .bool false, .slice none 0 0], .int .i64 41])) W' := fun W' h => ⟨none, 0, rfl, (Nw.nil _ 0).in, h⟩
  have FIN := Lib.hid fin
  clear fin
  unfold badN at h
  cases fl with
  | true =>
    clear h
    go_enter Tryz.func23, Tryz.ntmps23
    go_wp2
    refine bodyPost_ret (ret_nv2 rfl _ _ (w.heap.size + 1 + 1) _ _ _ _ rfl (by simp only [blk_alloc, size_alloc]; rw [if_pos trivial])) rfl ?_
    exact FIN.out _ ((((Fr.refl [] w).alloc _).alloc _).alloc _)
  | false =>
    cases fl2 with
    | true =>
      clear h
      go_enter Tryz.func23, Tryz.ntmps23
      go_wp2
      refine bodyPost_ret (ret_nv2 rfl _ _ (w.heap.size + 1 + 1) _ _ _ _ rfl (by simp only [blk_alloc, size_alloc]; rw [if_pos trivial])) rfl ?_
      exact FIN.out _ ((((Fr.refl [] w).alloc _).alloc _).alloc _)
    | false =>
      have hz : z < 0 ∨ 4 < z := by simpa using h
      have n0 : ¬ z = 0 := by omega
      have n1 : ¬ z = 1 := by omega
      have n2 : ¬ z = 2 := by omega
      have n3 : ¬ z = 3 := by omega
      have n4 : ¬ z = 4 := by omega
      clear h hz
      obtain ⟨W1, hW1⟩ : ∃ W1, W1 = (((w.alloc (.cells #[.bool false, .float .f64 f, .bool s, .slice a l1 cap] 27)).alloc (.cells #[.bool false, .float .f64 f2, .bool s2, .slice a2 l2 cap2] 27)).alloc (.cells #[.bool false, .float .f64 0, .bool false, .slice none 0 0] 27)).alloc (.cells #[.bool false, .slice none 0 0] 25) := ⟨_, rfl⟩
      have PN : BxN W1 (w.heap.size + 1 + 1) (.bool false) (.float .f64 0) (.bool false) (.slice none 0 0) := by
        unfold BxN
        rw [hW1]
        simp only [blk_alloc, size_alloc]
        rw [if_neg (by omega), if_pos trivial]
      have F1 : Fr [] w W1 := by rw [hW1]; exact ((((Fr.refl _ _).alloc _).alloc _).alloc _).alloc _
      have P2 := Lib.hid PN
      have F2 := Lib.hid F1
      clear F1 PN
      go_enter Tryz.func23, Tryz.ntmps23
      go_wp2_with fail
      rw [← hW1]
      refine bodyPost_ret (ret_nv2 rfl _ _ (w.heap.size + 1 + 1) _ _ _ _ rfl P2.out) rfl ?_
      exact FIN.out _ F2.out
end Go.Proofs.YtjdanblijcdllaaGreatDoor
/- What the two sides' functions on whole numbers answer, flat. -/
namespace Go.Proofs.YtjdanblijcdllaaGreatDoor
open Go.ChangeShapes Go.WideShapes Go.RowKit
variable {w w' : World} {a a2 : Option Addr} {cap cap2 : Nat}
theorem modI_flat {w w' : World} {s s2 : Bool} {n m : Nat} {e : Ending} (h : ModI w s n s2 m e w') :
    IF w (if m = 0 then false else (modP s n s2 m).1) (if m = 0 then 0 else (modP s n s2 m).2) (if m = 0 then 12 else 0) e w' := by
  unfold ModI at h
  by_cases h0 : m = 0
  · rw [if_pos h0] at h
    rw [if_pos h0, if_pos h0, if_pos h0]
    exact ⟨none, 0, h.1, (Nw.nil _ 0).in, h.2⟩
  · rw [if_neg h0] at h
    rw [if_neg h0, if_neg h0, if_neg h0]
    exact h
theorem quoI_flat {w w' : World} {s s2 : Bool} {n m : Nat} {e : Ending} (h : QuoI w s n s2 m e w') :
    QF1 w (sg (s != s2) (n / m)) (n / m) (if m = 0 then 12 else 0) e w' ∧ QG1 w (sg (s != s2) (n / m)) (n / m) (if m = 0 then 12 else 0) e w' := by
  unfold QuoI at h
  by_cases h0 : m = 0
  · subst h0
    rw [if_pos rfl] at h
    rw [if_pos rfl, Nat.div_zero, sg_zero]
    exact ⟨⟨none, 0, _, h.1, (Nw.nil _ 0).in, h.2⟩, ⟨none, 0, _, _, _, _, h.1, (Nw.nil _ 0).in, h.2⟩⟩
  · rw [if_neg h0] at h
    rw [if_neg h0]
    obtain ⟨a, c, a2, c2, h1, h2, _, h4⟩ := h
    exact ⟨⟨a, c, _, h1, h2, h4⟩, ⟨a, c, _, _, _, _, h1, h2, h4⟩⟩
theorem remI_flat {w w' : World} {s s2 : Bool} {n m : Nat} {e : Ending} (h : QuoI w s n s2 m e w') :
    QF2 w (if m = 0 then false else sg s (n % m)) (if m = 0 then 0 else n % m) (if m = 0 then 12 else 0) e w' ∧ QG2 w (if m = 0 then false else sg s (n % m)) (if m = 0 then 0 else n % m) (if m = 0 then 12 else 0) e w' := by
  unfold QuoI at h
  by_cases h0 : m = 0
  · rw [if_pos h0] at h
    rw [if_pos h0, if_pos h0, if_pos h0]
    exact ⟨⟨none, 0, _, h.1, (Nw.nil _ 0).in, h.2⟩, ⟨none, 0, _, _, _, _, h.1, (Nw.nil _ 0).in, h.2⟩⟩
  · rw [if_neg h0] at h
    rw [if_neg h0, if_neg h0, if_neg h0]
    obtain ⟨a, c, a2, c2, h1, _, h3, h4⟩ := h
    exact ⟨⟨a2, c2, _, h1, h3, h4⟩, ⟨a2, c2, _, _, _, _, h1, h3, h4⟩⟩
end Go.Proofs.YtjdanblijcdllaaGreatDoor
/- Both Wholes answer alike: quotient, rest and mod. -/
namespace Go.Proofs.YtjdanblijcdllaaGreatDoor
open Go.ChangeShapes Go.WideShapes Go.RowKit
variable {w w' : World} {a a2 : Option Addr} {cap cap2 : Nat}
/-- The two sides answer the same. -/
def BothW (W : World) (z : Int) (x y : Value) : Prop := ∃ t n c, (∀ W', Fr [] W W' → Calls Tryz.prog 23 #[.int .i64 z, x, y] W' (NF W' t n c)) ∧ (∀ W', Fr [] W W' → Calls Tryz.prog 24 #[.int .i64 z, x, y] W' (NF W' t n c))
theorem code_of {m : Nat} {t : Bool} {k : Nat} (ht : m = 0 → t = false ∧ k = 0) : (if m = 0 then (12 : Int) else 0) ≠ 0 → t = false ∧ k = 0 := by
  intro h
  by_cases h0 : m = 0
  · exact ht h0
  · rw [if_neg h0] at h; exact absurd rfl h
theorem both_mod (W : World) (f f2 : Nat) (s s2 : Bool) (n m : Nat) (h : In W a cap (lims n)) (h2 : In W a2 cap2 (lims m)) (hn : fits n = true) (hm : fits m = true) (hl : (lims n).length ≤ 64) (hl2 : (lims m).length ≤ 64) :
    BothW W 2 (.agg #[.bool false, .float .f64 f, .bool s, .slice a (lims n).length cap]) (.agg #[.bool false, .float .f64 f2, .bool s2, .slice a2 (lims m).length cap2]) := by
  have hz : (if m = 0 then (12 : Int) else 0) ≠ 0 → (if m = 0 then false else (modP s n s2 m).1) = false ∧ (if m = 0 then 0 else (modP s n s2 m).2) = 0 := code_of (fun h0 => by rw [if_pos h0, if_pos h0]; exact ⟨rfl, rfl⟩)
  exact ⟨_, _, _, fun W' hF => twwhole_mod W' f s _ f2 s2 _ _ _ _ hz (fun w1 h1 => (emod_c w1 s s2 n m (h.keep (hF.same h1)) (h2.keep (hF.same h1)) hn hm).mono (fun _ _ q => modI_flat q)), fun W' hF => r4whole_mod W' f s _ f2 s2 _ _ _ _ hz (fun w1 h1 => (r2mod_c w1 s s2 n m (h.keep (hF.same h1)) (h2.keep (hF.same h1)) (by omega) (by omega)).mono (fun _ _ q => modI_flat q))⟩
theorem both_quo (W : World) (f f2 : Nat) (s s2 : Bool) (n m : Nat) (h : In W a cap (lims n)) (h2 : In W a2 cap2 (lims m)) (hn : fits n = true) (hm : fits m = true) (hl : (lims n).length ≤ 64) :
    BothW W 0 (.agg #[.bool false, .float .f64 f, .bool s, .slice a (lims n).length cap]) (.agg #[.bool false, .float .f64 f2, .bool s2, .slice a2 (lims m).length cap2]) := by
  have hz : (if m = 0 then (12 : Int) else 0) ≠ 0 → sg (s != s2) (n / m) = false ∧ n / m = 0 := code_of (fun h0 => by rw [h0, Nat.div_zero, sg_zero]; exact ⟨rfl, rfl⟩)
  exact ⟨_, _, _, fun W' hF => twwhole_quo W' f s _ f2 s2 _ _ _ _ hz (fun w1 h1 => (equo_c w1 s s2 n m (h.keep (hF.same h1)) (h2.keep (hF.same h1)) hn hm).mono (fun _ _ q => (quoI_flat q).1)), fun W' hF => r4whole_quo W' f s _ f2 s2 _ _ _ _ hz (fun w1 h1 => (r2quo_c w1 s s2 n m (h.keep (hF.same h1)) (h2.keep (hF.same h1)) (by omega)).mono (fun _ _ q => (quoI_flat q).2))⟩
theorem both_rem (W : World) (f f2 : Nat) (s s2 : Bool) (n m : Nat) (h : In W a cap (lims n)) (h2 : In W a2 cap2 (lims m)) (hn : fits n = true) (hm : fits m = true) (hl : (lims n).length ≤ 64) :
    BothW W 1 (.agg #[.bool false, .float .f64 f, .bool s, .slice a (lims n).length cap]) (.agg #[.bool false, .float .f64 f2, .bool s2, .slice a2 (lims m).length cap2]) := by
  have hz : (if m = 0 then (12 : Int) else 0) ≠ 0 → (if m = 0 then false else sg s (n % m)) = false ∧ (if m = 0 then 0 else n % m) = 0 := code_of (fun h0 => by rw [if_pos h0, if_pos h0]; exact ⟨rfl, rfl⟩)
  exact ⟨_, _, _, fun W' hF => twwhole_rem W' f s _ f2 s2 _ _ _ _ hz (fun w1 h1 => (equo_c w1 s s2 n m (h.keep (hF.same h1)) (h2.keep (hF.same h1)) hn hm).mono (fun _ _ q => (remI_flat q).1)), fun W' hF => r4whole_rem W' f s _ f2 s2 _ _ _ _ hz (fun w1 h1 => (r2quo_c w1 s s2 n m (h.keep (hF.same h1)) (h2.keep (hF.same h1)) (by omega)).mono (fun _ _ q => (remI_flat q).2))⟩
theorem both_gcd (W : World) (f f2 : Nat) (s s2 : Bool) (n m : Nat) (h : In W a cap (lims n)) (h2 : In W a2 cap2 (lims m)) (hn : fits n = true) (hm : fits m = true) (hl : (lims n).length ≤ 64) (hl2 : (lims m).length ≤ 64) :
    BothW W 3 (.agg #[.bool false, .float .f64 f, .bool s, .slice a (lims n).length cap]) (.agg #[.bool false, .float .f64 f2, .bool s2, .slice a2 (lims m).length cap2]) :=
  ⟨_, _, _, fun W' hF => twwhole_gcd W' f s _ f2 s2 _ _ _ (fun w1 h1 => egcd_c w1 s s2 n m (h.keep (hF.same h1)) (h2.keep (hF.same h1)) hn hm), fun W' hF => r4whole_gcd W' f s _ f2 s2 _ _ _ (fun w1 h1 => r2gcd_c w1 s s2 n m (h.keep (hF.same h1)) (h2.keep (hF.same h1)) hl hl2)⟩
theorem both_bad (W : World) (z : Int) (fl fl2 : Bool) (f : Nat) (s : Bool) (l1 : Nat) (f2 : Nat) (s2 : Bool) (l2 : Nat) (h : badN z fl fl2 = true) :
    BothW W z (.agg #[.bool fl, .float .f64 f, .bool s, .slice a l1 cap]) (.agg #[.bool fl2, .float .f64 f2, .bool s2, .slice a2 l2 cap2]) :=
  ⟨_, _, _, fun W' _ => twwhole_bad W' z fl fl2 f s l1 f2 s2 l2 h, fun W' _ => r4whole_bad W' z fl fl2 f s l1 f2 s2 l2 h⟩
end Go.Proofs.YtjdanblijcdllaaGreatDoor
/- Both Wholes answer alike at a power. -/
namespace Go.Proofs.YtjdanblijcdllaaGreatDoor
open Go.ChangeShapes Go.WideShapes Go.RowKit
variable {w w' : World} {a a2 : Option Addr} {cap cap2 : Nat}
theorem tE_left (T : Option (Bool × Nat)) : tE T ≠ 0 → tS T = false ∧ tN T = 0 := by
  intro h
  cases T with
  | some x => exact absurd rfl h
  | none => exact ⟨rfl, rfl⟩
theorem both_pow (W : World) (f f2 : Nat) (s s2 : Bool) (n m : Nat) (h : In W a cap (lims n)) (h2 : In W a2 cap2 (lims m)) (hn : fits n = true) (hs : s2 = true → m ≠ 0) :
    BothW W 4 (.agg #[.bool false, .float .f64 f, .bool s, .slice a (lims n).length cap]) (.agg #[.bool false, .float .f64 f2, .bool s2, .slice a2 (lims m).length cap2]) := by
  by_cases hb : s2 = false ∧ m ≤ 1000
  · obtain ⟨rfl, hm⟩ := hb
    exact ⟨_, _, _, fun W' hF => twwhole_pow W' f s _ f2 false _ _ _ _ (tE_left (powP m false 1 s n)) (fun w1 h1 => (epow_c w1 s n m hm hn (h.keep (hF.same h1)) (h2.keep (hF.same h1))).mono (fun e w' q => powI_flat q)), fun W' hF => r4whole_pow W' f s _ f2 false _ _ _ _ (tE_left (powP m false 1 s n)) (fun w1 h1 => (r2pow_c w1 s n m hm hn (h.keep (hF.same h1)) (h2.keep (hF.same h1))).mono (fun e w' q => powI_flat q))⟩
  · have hz : (21 : Int) ≠ 0 → false = false ∧ 0 = 0 := fun _ => ⟨rfl, rfl⟩
    exact ⟨false, 0, 21, fun W' hF => twwhole_pow W' f s _ f2 s2 _ _ _ _ hz (fun w1 h1 => (epow_bad w1 s n s2 m hs hb (h2.keep (hF.same h1))).mono (fun e w' q => ⟨none, 0, q.1, (Nw.nil w' 0).in, q.2⟩)), fun W' hF => r4whole_pow W' f s _ f2 s2 _ _ _ _ hz (fun w1 h1 => (r2pow_bad w1 s n s2 m hs hb (h2.keep (hF.same h1))).mono (fun e w' q => ⟨none, 0, q.1, (Nw.nil w' 0).in, q.2⟩))⟩
/-- Both Wholes answer alike, whatever the op. -/
theorem both_all (W : World) (z : Int) (fl fl2 : Bool) (f f2 : Nat) (s s2 : Bool) (n m : Nat) (h : In W a cap (lims n)) (h2 : In W a2 cap2 (lims m)) (hn : fits n = true) (hm : fits m = true) (hl : (lims n).length ≤ 64) (hl2 : (lims m).length ≤ 64) (hs : s2 = true → m ≠ 0) :
    BothW W z (.agg #[.bool fl, .float .f64 f, .bool s, .slice a (lims n).length cap]) (.agg #[.bool fl2, .float .f64 f2, .bool s2, .slice a2 (lims m).length cap2]) := by
  cases hb : badN z fl fl2 with
  | true => exact both_bad W z fl fl2 f s _ f2 s2 _ hb
  | false =>
    unfold badN at hb
    simp only [Bool.or_eq_false_iff, decide_eq_false_iff_not] at hb
    obtain ⟨⟨⟨rfl, rfl⟩, h0⟩, h4⟩ := hb
    have hz : z = 0 ∨ z = 1 ∨ z = 2 ∨ z = 3 ∨ z = 4 := by omega
    rcases hz with rfl | rfl | rfl | rfl | rfl
    · exact both_quo W f f2 s s2 n m h h2 hn hm hl
    · exact both_rem W f f2 s s2 n m h h2 hn hm hl
    · exact both_mod W f f2 s s2 n m h h2 hn hm hl hl2
    · exact both_gcd W f f2 s s2 n m h h2 hn hm hl hl2
    · exact both_pow W f f2 s s2 n m h h2 hn hs
end Go.Proofs.YtjdanblijcdllaaGreatDoor
