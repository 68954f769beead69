/- Exact: the greatest common divisor. -/
import Derived.Test.YtladhmbidicncaaDoorExaO
import Derived.ScopeJumps
import Derived.WalkMore
import Derived.Deep.LoopGhost
import Derived.Deep.RegionHeld3
namespace Go.Proofs.YtladhmbidicncaaDoor
open Go.ChangeShapes Go.WideShapes Go.RowKit
variable {w w' w2 wr : World} {a b : Option Addr} {cap cap2 : Nat} {L M : List Nat} {B : Nat}
/-- A scope with jumps back to one label: what holds at a jump bears a number, which every pass lowers. -/
theorem wp_scope_ghost {P : Program} {a : Act} {w : World} {Q : Exit → Act → World → Prop} {c rest : Code} (l : Nat) (J : Nat → Act → World → Prop) (hf : findLabel c l = some rest)
    (first : c.wp P (Exit.jump l (fun a w => ∃ n, J n a w) Q) a w)
    (pass : ∀ n a w, J n a w → rest.wp P (Exit.jump l (fun a' w' => ∃ n', n' < n ∧ J n' a' w') Q) a w) : (Code.scope c).wp P Q a w := by
  refine wp_scope_jumps l (fun a w => ∃ n, J n a w) (fun a w => leastOf (fun n => J n a w)) hf first ?_
  intro a w hJ
  refine wp_mono (pass _ a w (leastOf_spec hJ).1) ?_
  intro e a' w' hq
  cases e with
  | goto l' =>
    obtain ⟨h1, n', hlt, h2⟩ := hq
    exact ⟨h1, ⟨n', h2⟩, Nat.lt_of_le_of_lt ((leastOf_spec ⟨n', h2⟩).2 n' h2) hlt⟩
  | normal => exact hq
  | exit id => exact hq
  | ret => exact hq
  | panic ch => exact hq
  | outgrown => exact hq
set_option maxRecDepth 100000 in
set_option maxHeartbeats 4000000 in
theorem r2gcd_c (w : World) (s s2 : Bool) (n m : Nat) (h : In w a cap (lims n)) (h2 : In w b cap2 (lims m)) (hl : (lims n).length ≤ 64) (hl2 : (lims m).length ≤ 64) : Calls Tryd.prog 51 #[.agg #[.bool s, .slice a (lims n).length cap], .agg #[.bool s2, .slice b (lims m).length cap2]] w (GivesI w false (Nat.gcd n m)) := by
  have H := Lib.hid h
  have H2 := Lib.hid h2
  clear h h2
  have F0 : Hid (Fr [] w (((w.alloc (.cells #[.bool s, .slice a (lims n).length cap] 52)).alloc (.cells #[.bool s2, .slice b (lims m).length cap2] 52)).alloc (.cells #[.bool false, .slice none 0 0] 52))) := Lib.hid ((((Fr.refl [] w).alloc _).alloc _).alloc _)
  have P : Hid (Bx (((w.alloc (.cells #[.bool s, .slice a (lims n).length cap] 52)).alloc (.cells #[.bool s2, .slice b (lims m).length cap2] 52)).alloc (.cells #[.bool false, .slice none 0 0] 52)) (w.heap.size) (.bool s) (.slice a (lims n).length cap)) := Lib.hid ((Bx.new _ _ _).fr (((Fr.refl [] _).alloc _).alloc _))
  have Q : Hid (Bx (((w.alloc (.cells #[.bool s, .slice a (lims n).length cap] 52)).alloc (.cells #[.bool s2, .slice b (lims m).length cap2] 52)).alloc (.cells #[.bool false, .slice none 0 0] 52)) (w.heap.size + 1) (.bool s2) (.slice b (lims m).length cap2)) := Lib.hid (((Bx.new _ _ _).eq (by simp)).fr ((Fr.refl [] _).alloc _))
  have R : Hid (Bx (((w.alloc (.cells #[.bool s, .slice a (lims n).length cap] 52)).alloc (.cells #[.bool s2, .slice b (lims m).length cap2] 52)).alloc (.cells #[.bool false, .slice none 0 0] 52)) (w.heap.size + 2) (.bool false) (.slice none 0 0)) := Lib.hid (((Bx.new _ _ _).eq (by simp)).fr (Fr.refl [] _))
  replace pc0 := P.out.c0
  replace pc1 := P.out.c1
  replace pl := P.out.lt
  replace qc0 := Q.out.c0
  replace qc1 := Q.out.c1
  replace ql := Q.out.lt
  replace rc0 := R.out.c0
  replace rc1 := R.out.c1
  replace rl := R.out.lt
  replace rf0 := R.out.f 0
  replace rf1 := R.out.f 1
  have D : Hid (∀ W a c, In W a c (lims (Nat.gcd n m)) → Fr [] w W → GivesI w false (Nat.gcd n m) (.returned (.agg #[.bool false, .slice a (lims (Nat.gcd n m)).length c])) W) := Lib.hid (fun W a c h1 h2 => ⟨a, c, rfl, h1, h2⟩)
  have FD := Lib.hid (F0.out.drew)
  have ID1 := Lib.hid (H.out.keep FD.out)
  have ID2 := Lib.hid (H2.out.keep FD.out)
  have RD := Lib.hid (R.out.fr (Fr.refl [] _).drew)
  have CM : Hid (∀ W a1 c1 x, In W a1 c1 (lims x) → Calls Tryd.prog 88 #[.bool false, .slice a1 (lims x).length c1] W (GivesI W false x)) := Lib.hid (fun W a1 c1 x h => by
    have := made_c W false x h
    rwa [sg_false] at this)
  have CD : Hid (∀ W a1 c1 x a2 c2 k, In W a1 c1 (lims x) → In W a2 c2 (lims k) → (lims x).length ≤ 64 → k ≠ 0 → Calls Tryd.prog 28 #[.slice a1 (lims x).length c1, .slice a2 (lims k).length c2] W fun e w' => ∃ a3 c3 a4 c4, e = .returned (.tuple #[.slice a3 (lims (x / k)).length c3, .slice a4 (lims (x % k)).length c4]) ∧ In w' a4 c4 (lims (x % k)) ∧ Fr [] W w') := Lib.hid (fun W a1 c1 x a2 c2 k h1 h2 hx hk => by
    have := r1split_c W h1 h2 (by omega) (by rw [val_lims]; exact hk)
    rw [val_lims, val_lims] at this
    refine this.mono ?_
    rintro e w' ⟨a3, c3, a4, c4, h1, h2, h3, h4⟩
    exact ⟨a3, c3, a4, c4, h1, h3.in, h4⟩)
  have GC : Hid (∀ x k, Nat.gcd x k = Nat.gcd n m → Nat.gcd k (x % k) = Nat.gcd n m) := Lib.hid (fun x k h => by rw [← h, Nat.gcd_comm x k, Nat.gcd_rec k x, Nat.gcd_comm]) 
  have GZ : Hid (∀ x, Nat.gcd x 0 = Nat.gcd n m → x = Nat.gcd n m) := Lib.hid (fun x h => by rw [← h, Nat.gcd_zero_right])
  obtain ⟨G, hG⟩ : ∃ G, G = Nat.gcd n m := ⟨_, rfl⟩
  have G0 : Hid (Nat.gcd n m = G) := Lib.hid hG.symm
  rw [← hG] at D GC GZ ⊢
  clear hG
  go_enter Tryd.func51, Tryd.ntmps51
  go_wp2_with fail
  go_region_held3 (fun W => W.cell? ⟨w.heap.size, 0, none⟩ = some (.bool s) ∧ W.cell? ⟨w.heap.size, 1, none⟩ = some (.slice a (lims n).length cap) ∧ W.cell? ⟨w.heap.size + 1, 0, none⟩ = some (.bool s2) ∧ W.cell? ⟨w.heap.size + 1, 1, none⟩ = some (.slice b (lims m).length cap2)) (exact Bx.c4 (P.out.fr (Fr.refl [] _).drew) (Q.out.fr (Fr.refl [] _).drew)) (fail)
  go_wp2_with fail
  go_loopg [5, 6, 7, 8] m (fun k s5 s6 _ _ wr => ∃ (a1 : Option Addr) (c1 x : Nat) (a2 : Option Addr) (c2 : Nat), s5 = .slice a1 (lims x).length c1 ∧ s6 = .slice a2 (lims k).length c2 ∧ Hid (In wr a1 c1 (lims x)) ∧ Hid (In wr a2 c2 (lims k)) ∧ Hid (Nat.gcd x k = G) ∧ Hid ((lims x).length ≤ 64 ∧ (lims k).length ≤ 64) ∧ Hid (Bx wr (w.heap.size + 2) (.bool false) (.slice none 0 0)) ∧ Hid (Fr [] w wr))
  case atStart => exact ⟨a, cap, n, b, cap2, rfl, rfl, ID1, ID2, G0, Lib.hid ⟨hl, hl2⟩, RD, FD⟩
  case round =>
    obtain ⟨a1, c1, x, a2, c2, rfl, rfl, J1, J2, HG, HL, R, FW⟩ := hrel
    clear P Q pc0 pc1 pl qc0 qc1 ql rc0 rc1 rl rf0 rf1 F0 FD ID1 ID2 RD H H2 hl hl2 G0
    have rc0 := R.out.c0
    have rc1 := R.out.c1
    have rl := R.out.lt
    have rf0 := R.out.f 0
    have rf1 := R.out.f 1
    by_cases hk : gk = 0
    · subst hk
      have hz : ¬ (0 : Int) < ((lims 0).length : Int) := by decide
      have hx := GZ.out _ HG.out
      subst hx
      clear HG HL J2 CD GC GZ
      go_wp2_with fail
      refine (CM.out _ _ _ _ J1.out).mono ?_
      rintro e w2 ⟨a5, c5, rfl, J5, F2⟩
      have J5 := Lib.hid J5
      replace R := Lib.hid (R.out.fr F2)
      replace rc0 := R.out.c0
      replace rc1 := R.out.c1
      replace rl := R.out.lt
      replace rf0 := R.out.f 0
      replace rf1 := R.out.f 1
      have FW := Lib.hid (FW.out.same F2)
      clear F2 J1 CM
      go_wp2
      refine bodyPost_ret (ret_iv rfl _ _ _ _ _ rfl (R.out.set _ _)) rfl ?_
      exact D.out _ _ _ (J5.out.set2 R.out _ _) (FW.out.set2 (by omega) _ _)
    · have hz : (0 : Int) < ((lims gk).length : Int) := by have := lims_len_pos.2 hk; omega
      have CK := Lib.hid (CD.out wr a1 c1 x a2 c2 gk J1.out J2.out HL.out.1 hk)
      have HN := Lib.hid (GC.out _ _ HG.out)
      have HM := Lib.hid (Nat.mod_lt x (Nat.pos_of_ne_zero hk))
      have HL2 : Hid ((lims gk).length ≤ 64 ∧ (lims (x % gk)).length ≤ 64) := Lib.hid ⟨HL.out.2, Nat.le_trans (len_le (Nat.le_of_lt HM.out)) HL.out.2⟩
      obtain ⟨q, hq⟩ : ∃ q, q = x / gk := ⟨_, rfl⟩
      obtain ⟨r, hr⟩ : ∃ r, r = x % gk := ⟨_, rfl⟩
      rw [← hq, ← hr] at CK
      rw [← hr] at HN HM HL2
      clear hk hq hr HG HL CD GC GZ
      go_wp2_with fail
      refine CK.out.mono ?_
      rintro e w2 ⟨a3, c3, a4, c4, rfl, J4, F2⟩
      have J4 := Lib.hid J4
      have R2 := Lib.hid (R.out.fr F2)
      have J3 := Lib.hid (J2.out.keep F2)
      have FW2 := Lib.hid (FW.out.same F2)
      clear F2 J1 CK
      go_wp2_with fail
      go_roundg r
      case measure => exact HM.out
      case rel => exact ⟨a2, c2, gk, a4, c4, rfl, rfl, J3, J4, HN, HL2, R2, FW2⟩
set_option maxRecDepth 100000 in
set_option maxHeartbeats 4000000 in
theorem egcd_c (w : World) (s s2 : Bool) (n m : Nat) (h : In w a cap (lims n)) (h2 : In w b cap2 (lims m)) (hn : fits n = true) (hm : fits m = true) : Calls Tryd.prog 50 #[.agg #[.bool s, .slice a (lims n).length cap], .agg #[.bool s2, .slice b (lims m).length cap2]] w (GivesI w false (Nat.gcd n m)) := by
  have H := Lib.hid h
  have H2 := Lib.hid h2
  clear h h2
  have F0 : Hid (Fr [] w (((w.alloc (.cells #[.bool s, .slice a (lims n).length cap] 52)).alloc (.cells #[.bool s2, .slice b (lims m).length cap2] 52)).alloc (.cells #[.bool false, .slice none 0 0] 52))) := Lib.hid ((((Fr.refl [] w).alloc _).alloc _).alloc _)
  have P : Hid (Bx (((w.alloc (.cells #[.bool s, .slice a (lims n).length cap] 52)).alloc (.cells #[.bool s2, .slice b (lims m).length cap2] 52)).alloc (.cells #[.bool false, .slice none 0 0] 52)) (w.heap.size) (.bool s) (.slice a (lims n).length cap)) := Lib.hid ((Bx.new _ _ _).fr (((Fr.refl [] _).alloc _).alloc _))
  have Q : Hid (Bx (((w.alloc (.cells #[.bool s, .slice a (lims n).length cap] 52)).alloc (.cells #[.bool s2, .slice b (lims m).length cap2] 52)).alloc (.cells #[.bool false, .slice none 0 0] 52)) (w.heap.size + 1) (.bool s2) (.slice b (lims m).length cap2)) := Lib.hid (((Bx.new _ _ _).eq (by simp)).fr ((Fr.refl [] _).alloc _))
  have R : Hid (Bx (((w.alloc (.cells #[.bool s, .slice a (lims n).length cap] 52)).alloc (.cells #[.bool s2, .slice b (lims m).length cap2] 52)).alloc (.cells #[.bool false, .slice none 0 0] 52)) (w.heap.size + 2) (.bool false) (.slice none 0 0)) := Lib.hid (((Bx.new _ _ _).eq (by simp)).fr (Fr.refl [] _))
  replace pc0 := P.out.c0
  replace pc1 := P.out.c1
  replace pl := P.out.lt
  replace qc0 := Q.out.c0
  replace qc1 := Q.out.c1
  replace ql := Q.out.lt
  replace rc0 := R.out.c0
  replace rc1 := R.out.c1
  replace rl := R.out.lt
  replace rf0 := R.out.f 0
  replace rf1 := R.out.f 1
  have D : Hid (∀ W a c, In W a c (lims (Nat.gcd n m)) → Fr [] w W → GivesI w false (Nat.gcd n m) (.returned (.agg #[.bool false, .slice a (lims (Nat.gcd n m)).length c])) W) := Lib.hid (fun W a c h1 h2 => ⟨a, c, rfl, h1, h2⟩)
  have CS : Hid (∀ W a1 c1 x, In W a1 c1 (lims x) → Calls Tryd.prog 87 #[.bool false, .slice a1 (lims x).length c1] W (GivesI W false x)) := Lib.hid (fun W a1 c1 x h => by
    have := signed_c W false x h
    rwa [sg_false] at this)
  have CT : Hid (∀ W, Fr [] w W → Calls Tryd.prog 31 #[.slice a (lims n).length cap] W (Gives W (lims n))) := Lib.hid (fun W hW => by
    have := ltrim_c W (H.out.keep hW)
    rwa [val_lims] at this)
  have CU : Hid (∀ W, Fr [] w W → Calls Tryd.prog 31 #[.slice b (lims m).length cap2] W (Gives W (lims m))) := Lib.hid (fun W hW => by
    have := ltrim_c W (H2.out.keep hW)
    rwa [val_lims] at this)
  have CD : Hid (∀ W a1 c1 x a2 c2 k, In W a1 c1 (lims x) → In W a2 c2 (lims k) → fits x = true → fits k = true → k ≠ 0 → Calls Tryd.prog 26 #[.slice a1 (lims x).length c1, .slice a2 (lims k).length c2] W fun e w' => ∃ a3 c3 a4 c4, e = .returned (.tuple #[.slice a3 (lims (x / k)).length c3, .slice a4 (lims (x % k)).length c4, .int .i64 0]) ∧ In w' a4 c4 (lims (x % k)) ∧ Fr [] W w') := Lib.hid (fun W a1 c1 x a2 c2 k h1 h2 hx hk0 hk => by
    have := ldiv_c W h1 h2
    rw [val_lims, val_lims] at this
    refine this.mono ?_
    intro e w' hr
    unfold DivR at hr
    rw [hx, hk0, if_neg (by simp), if_neg hk] at hr
    obtain ⟨a3, c3, a4, c4, h1, h2, h3, h4⟩ := hr
    exact ⟨a3, c3, a4, c4, h1, h3.in, h4⟩)
  have GC : Hid (∀ x k, Nat.gcd x k = Nat.gcd n m → Nat.gcd k (x % k) = Nat.gcd n m) := Lib.hid (fun x k h => by rw [← h, Nat.gcd_comm x k, Nat.gcd_rec k x, Nat.gcd_comm])
  have GZ : Hid (∀ x, Nat.gcd x 0 = Nat.gcd n m → x = Nat.gcd n m) := Lib.hid (fun x h => by rw [← h, Nat.gcd_zero_right])
  obtain ⟨G, hG⟩ : ∃ G, G = Nat.gcd n m := ⟨_, rfl⟩
  have G0 : Hid (Nat.gcd n m = G) := Lib.hid hG.symm
  rw [← hG] at D GC GZ ⊢
  clear hG
  go_enter Tryd.func50, Tryd.ntmps50
  go_wp2_with fail
  refine wp_scope_ghost 0 (fun k a' wr => ∃ (a1 : Option Addr) (c1 x : Nat) (a2 : Option Addr) (c2 : Nat) (u7 u8 u9 u10 u11 u12 u13 u14 u15 u16 u17 u18 u19 u20 u21 u22 u23 u24 u25 u26 u27 u28 u29 u30 u31 u32 : Value), a' = { tmps := #[.agg #[.bool s, .slice a (lims n).length cap], .agg #[.bool s2, .slice b (lims m).length cap2], .pointer (some ⟨w.heap.size, 0, none⟩), .pointer (some ⟨w.heap.size + 1, 0, none⟩), .pointer (some ⟨w.heap.size + 1 + 1, 0, none⟩), .slice a1 (lims x).length c1, .slice a2 (lims k).length c2, u7, u8, u9, u10, u11, u12, u13, u14, u15, u16, u17, u18, u19, u20, u21, u22, u23, u24, u25, u26, u27, u28, u29, u30, u31, u32], defers := [] } ∧ Hid (In wr a1 c1 (lims x)) ∧ Hid (In wr a2 c2 (lims k)) ∧ Hid (Nat.gcd x k = G) ∧ Hid (fits x = true ∧ fits k = true) ∧ Hid (Bx wr (w.heap.size + 2) (.bool false) (.slice none 0 0)) ∧ Hid (Fr [] w wr)) rfl ?_ ?_
  · go_wp2_with fail
    go_region_held3 (fun W => W.cell? ⟨w.heap.size, 0, none⟩ = some (.bool s) ∧ W.cell? ⟨w.heap.size, 1, none⟩ = some (.slice a (lims n).length cap) ∧ W.cell? ⟨w.heap.size + 1, 0, none⟩ = some (.bool s2) ∧ W.cell? ⟨w.heap.size + 1, 1, none⟩ = some (.slice b (lims m).length cap2)) (with_reducible first | exact Bx.c4 (P.out.fr (Fr.refl [] _).drew) (Q.out.fr (Fr.refl [] _).drew) | exact Bx.c4 P6.out Q6.out | exact Bx.c4 P5.out Q5.out) (first | (go_at_call_of 31 a; refine Calls.mono (CT.out _ F0.out.drew) ?_; rintro e w5 ⟨a1, c1, rfl, N5, G5⟩; have K5 := Lib.hid ((Fr.refl [] _).drew.same G5); have P5 := Lib.hid (P.out.fr K5.out); have Q5 := Lib.hid (Q.out.fr K5.out); have R5 := Lib.hid (R.out.fr K5.out)) | (go_at_call_of 31 b; refine Calls.mono (CU.out _ (F0.out.same K5.out)) ?_; rintro e w6 ⟨a2, c2, rfl, N6, G6⟩; have P6 := Lib.hid (P5.out.fr G6); have Q6 := Lib.hid (Q5.out.fr G6); have R6 := Lib.hid (R5.out.fr G6); have J1 := Lib.hid (N5.in.keep G6); have J2 := Lib.hid N6.in; have F6 := Lib.hid ((F0.out.same K5.out).same G6)))
    have HFF : Hid (fits n = true ∧ fits m = true) := Lib.hid ⟨hn, hm⟩
    clear P Q P5 Q5 P6 Q6 pc0 pc1 pl qc0 qc1 ql rc0 rc1 rl rf0 rf1 hn hm N5 N6 G5 G6 K5 R5 H H2 CT CU
    go_wp2_with fail
    go_step3
    have rc0 := R6.out.c0
    have rc1 := R6.out.c1
    have rl := R6.out.lt
    have rf0 := R6.out.f 0
    have rf1 := R6.out.f 1
    by_cases hk : m = 0
    · have HG2 := Lib.hid G0.out
      rw [hk] at HG2
      have hx := GZ.out _ HG2.out
      have hz : (((lims m).length : Int) == 0) = true := by rw [hk]; rfl
      have CK := Lib.hid (CS.out _ _ _ _ J1.out)
      have D2 : Hid (∀ W a c, In W a c (lims n) → Fr [] w W → GivesI w false G (.returned (.agg #[.bool false, .slice a (lims n).length c])) W) := Lib.hid (fun W a c h1 h2 => by rw [hx] at h1 ⊢; exact D.out W a c h1 h2)
      clear hx hk HG2 D
      go_wp2_with fail
      refine CK.out.mono ?_
      rintro e wq ⟨a5, c5, rfl, J5, F2⟩
      have J5 := Lib.hid J5
      have R9 := Lib.hid (R6.out.fr F2)
      have sc0 := R9.out.c0
      have sc1 := R9.out.c1
      have sl := R9.out.lt
      have sf0 := R9.out.f 0
      have sf1 := R9.out.f 1
      have FW9 := Lib.hid (F6.out.same F2)
      clear F2
      go_wp2
      simp only [Exit.jump]
      refine bodyPost_ret (ret_iv rfl _ _ _ _ _ rfl (R9.out.set _ _)) rfl ?_
      exact D2.out _ _ _ (J5.out.set2 R9.out _ _) (FW9.out.set2 (by omega) _ _)
    · have hz : (((lims m).length : Int) == 0) = false := by rw [beq_eq_false_iff_ne]; have := lims_len_pos.2 hk; omega
      have CK := Lib.hid (CD.out _ _ _ _ _ _ _ J1.out J2.out HFF.out.1 HFF.out.2 hk)
      have HN := Lib.hid (GC.out _ _ G0.out)
      have HM := Lib.hid (Nat.mod_lt n (Nat.pos_of_ne_zero hk))
      have HL2 : Hid (fits m = true ∧ fits (n % m) = true) := Lib.hid ⟨HFF.out.2, fits_le (Nat.le_of_lt HM.out) HFF.out.2⟩
      obtain ⟨q, hq⟩ : ∃ q, q = n / m := ⟨_, rfl⟩
      obtain ⟨r, hr⟩ : ∃ r, r = n % m := ⟨_, rfl⟩
      rw [← hq, ← hr] at CK
      rw [← hr] at HN HM HL2
      clear hk hq hr
      go_wp2_with fail
      refine CK.out.mono ?_
      rintro e wq ⟨a3, c3, a4, c4, rfl, J4, F2⟩
      have J4 := Lib.hid J4
      have R9 := Lib.hid (R6.out.fr F2)
      have J9 := Lib.hid (J2.out.keep F2)
      have FW9 := Lib.hid (F6.out.same F2)
      clear F2
      go_wp2
      go_step3
      exact ⟨rfl, r, _, _, _, _, _, _, _, _, _, _, _, _, _, _, _, _, _, _, _, _, _, _, _, _, _, _, _, _, _, _, _, rfl, J9, J4, HN, HL2, R9, FW9⟩
  · rintro k a' wr ⟨a1, c1, x, a2, c2, u7, u8, u9, u10, u11, u12, u13, u14, u15, u16, u17, u18, u19, u20, u21, u22, u23, u24, u25, u26, u27, u28, u29, u30, u31, u32, rfl, J1, J2, HG, HFF, R, FW⟩
    clear P Q pc0 pc1 pl qc0 qc1 ql rc0 rc1 rl rf0 rf1 F0 H H2 hn hm G0 CT CU
    have rc0 := R.out.c0
    have rc1 := R.out.c1
    have rl := R.out.lt
    have rf0 := R.out.f 0
    have rf1 := R.out.f 1
    by_cases hk : k = 0
    · have HG2 := Lib.hid HG.out
      rw [hk] at HG2
      have hx := GZ.out _ HG2.out
      have hz : (((lims k).length : Int) == 0) = true := by rw [hk]; rfl
      have CK := Lib.hid (CS.out _ _ _ _ J1.out)
      have D2 : Hid (∀ W a c, In W a c (lims x) → Fr [] w W → GivesI w false G (.returned (.agg #[.bool false, .slice a (lims x).length c])) W) := Lib.hid (fun W a c h1 h2 => by rw [hx] at h1 ⊢; exact D.out W a c h1 h2)
      clear hx hk HG2 D
      go_wp2_with fail
      refine CK.out.mono ?_
      rintro e wq ⟨a5, c5, rfl, J5, F2⟩
      have J5 := Lib.hid J5
      have R9 := Lib.hid (R.out.fr F2)
      have sc0 := R9.out.c0
      have sc1 := R9.out.c1
      have sl := R9.out.lt
      have sf0 := R9.out.f 0
      have sf1 := R9.out.f 1
      have FW9 := Lib.hid (FW.out.same F2)
      clear F2
      go_wp2
      simp only [Exit.jump]
      refine bodyPost_ret (ret_iv rfl _ _ _ _ _ rfl (R9.out.set _ _)) rfl ?_
      exact D2.out _ _ _ (J5.out.set2 R9.out _ _) (FW9.out.set2 (by omega) _ _)
    · have hz : (((lims k).length : Int) == 0) = false := by rw [beq_eq_false_iff_ne]; have := lims_len_pos.2 hk; omega
      have CK := Lib.hid (CD.out _ _ _ _ _ _ _ J1.out J2.out HFF.out.1 HFF.out.2 hk)
      have HN := Lib.hid (GC.out _ _ HG.out)
      have HM := Lib.hid (Nat.mod_lt x (Nat.pos_of_ne_zero hk))
      have HL2 : Hid (fits k = true ∧ fits (x % k) = true) := Lib.hid ⟨HFF.out.2, fits_le (Nat.le_of_lt HM.out) HFF.out.2⟩
      obtain ⟨q, hq⟩ : ∃ q, q = x / k := ⟨_, rfl⟩
      obtain ⟨r, hr⟩ : ∃ r, r = x % k := ⟨_, rfl⟩
      rw [← hq, ← hr] at CK
      rw [← hr] at HN HM HL2
      clear hk hq hr
      go_wp2_with fail
      refine CK.out.mono ?_
      rintro e wq ⟨a3, c3, a4, c4, rfl, J4, F2⟩
      have J4 := Lib.hid J4
      have R9 := Lib.hid (R.out.fr F2)
      have J9 := Lib.hid (J2.out.keep F2)
      have FW9 := Lib.hid (FW.out.same F2)
      clear F2
      go_wp2
      go_step3
      exact ⟨rfl, r, HM.out, _, _, _, _, _, _, _, _, _, _, _, _, _, _, _, _, _, _, _, _, _, _, _, _, _, _, _, _, _, _, _, rfl, J9, J4, HN, HL2, R9, FW9⟩
end Go.Proofs.YtladhmbidicncaaDoor
