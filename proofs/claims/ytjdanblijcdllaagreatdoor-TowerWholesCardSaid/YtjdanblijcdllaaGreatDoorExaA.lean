import Derived.Test.YtjdanblijcdllaaGreatDoorLawC
/- Exact: a sign and limbs: signed, made. -/
set_option linter.all false
namespace Go.Proofs.YtjdanblijcdllaaGreatDoor
open Go.ChangeShapes Go.WideShapes Go.RowKit
variable {w w' w2 wr : World} {a b : Option Addr} {cap cap2 : Nat} {L M : List Nat} {B : Nat}
/-- A sign and limbs, as a value. -/
def iv (s : Bool) (n : Nat) (a : Option Addr) (cap : Nat) : Value := .agg #[.bool s, .slice a (lims n).length cap]
/-- A function gives a sign and limbs. -/
def GivesI (w : World) (s : Bool) (n : Nat) (e : Ending) (w' : World) : Prop := ∃ a cap, e = .returned (.agg #[.bool s, .slice a (lims n).length cap]) ∧ In w' a cap (lims n) ∧ Fr [] w w'
/-- Nothing has no sign. -/
def sg (s : Bool) (n : Nat) : Bool := s && decide (n ≠ 0)
theorem sg_zero (s : Bool) : sg s 0 = false := by simp [sg]
theorem sg_pos (s : Bool) {n : Nat} (h : n ≠ 0) : sg s n = s := by simp [sg, h]
theorem sg_false (n : Nat) : sg false n = false := by simp [sg]
theorem info_int : ((Tryz.prog).info? 25).map (·.size) = some 2 := by kernel_rfl
theorem und_int : (match (Tryz.prog).underlying 25 with | some (.struct _) | some (.array _ _) => true | _ => false) = true := by kernel_rfl
theorem ret_iv {fn : Func} {p : Tmp} (h : fn.results = #[.cell p 25]) (tmps : Array Value) (w : World) (g : Nat) (x y : Value) (hp : tmps.getD p undef = .pointer (some ⟨g, 0, none⟩)) (hb : blk w g = some (.cells #[x, y] 25 (0, 0))) :
    (results fn tmps).run Tryz.prog w = .ok (.agg #[x, y]) w := by
  have hu := und_int
  cases hd : (Tryz.prog).underlying 25 with
  | none => rw [hd] at hu; cases hu
  | some d =>
    refine results_cell_row h tmps w g 25 #[x, y] (0, 0) d hp hb hd ?_ info_int
    rw [hd] at hu
    cases d <;> first | rfl | cases hu
/-- A block that holds a sign and limbs. -/
def Bx (w : World) (k : Nat) (x y : Value) : Prop := blk w k = some (.cells #[x, y] 25 (0, 0))
theorem Bx.c0 {k : Nat} {x y : Value} (h : Bx w k x y) : w.cell? ⟨k, 0, none⟩ = some x := cell_of (i := 0) h rfl
theorem Bx.c1 {k : Nat} {x y : Value} (h : Bx w k x y) : w.cell? ⟨k, 1, none⟩ = some y := cell_of (i := 1) h rfl
theorem Bx.f {k : Nat} {x y : Value} (h : Bx w k x y) (i : Nat) : w.frozen? ⟨k, i, none⟩ = false := free_of h
theorem Bx.lt {k : Nat} {x y : Value} (h : Bx w k x y) : k < w.heap.size := lt_size h
theorem Bx.fr {k : Nat} {x y : Value} (h : Bx w k x y) (hF : Fr [] w w') : Bx w' k x y := hF.at h (by simp)
theorem Bx.new (w : World) (x y : Value) : Bx (w.alloc (.cells #[x, y] 25)) w.heap.size x y := by unfold Bx; rw [blk_alloc, if_pos rfl]
theorem Bx.set {k : Nat} {x y : Value} (h : Bx w k x y) (x' y' : Value) : Bx ((w.setCell ⟨k, 0, none⟩ x').setCell ⟨k, 1, none⟩ y') k x' y' := by
  unfold Bx at *
  rw [blk_set, if_pos rfl, blk_set, if_pos rfl, h]; rfl
theorem Fr.set2 {a' w : World} (h : Fr [] a' w) {k : Nat} (hk : a'.heap.size ≤ k) (x y : Value) : Fr [] a' ((w.setCell ⟨k, 0, none⟩ x).setCell ⟨k, 1, none⟩ y) := (h.setCell (.inr hk) _).setCell (.inr hk) _
theorem Bx.eq {w1 : World} {k k' : Nat} {x y : Value} (h : Bx w1 k x y) (e : k = k') : Bx w1 k' x y := e ▸ h
theorem signed_c (w : World) (s : Bool) (n : Nat) (h : In w a cap (lims n)) : Calls Tryz.prog 110 #[.bool s, .slice a (lims n).length cap] w (GivesI w (sg s n) n) := by
  have H := Lib.hid h
  clear h
  have D : Hid (∀ W s', sg s n = s' → Fr [] w W → GivesI w (sg s n) n (.returned (.agg #[.bool s', .slice a (lims n).length cap])) W) := Lib.hid (fun W s' e h => by rw [e]; exact ⟨a, cap, rfl, H.out.keep h, h⟩)
  by_cases h0 : n = 0
  · have e1 : sg s n = false := by rw [h0, sg_zero]
    have hl : (lims n).length = 0 := by rw [h0]; rfl
    have E1 := Lib.hid e1
    rw [hl] at D ⊢
    clear e1 hl h0 H
    cases s with
    | false =>
      go_enter Tryz.func110, Tryz.ntmps110
      go_wp2
      refine bodyPost_ret (ret_iv rfl _ _ _ _ _ rfl (by rw [blk_alloc, if_pos rfl])) rfl ?_
      exact D.out _ _ E1.out ((Fr.refl _ _).alloc _)
    | true =>
      go_enter Tryz.func110, Tryz.ntmps110
      go_wp2
      refine bodyPost_ret (ret_iv rfl _ _ _ _ _ rfl (by rw [blk_alloc, if_pos rfl])) rfl ?_
      exact D.out _ _ E1.out ((Fr.refl _ _).alloc _)
  · have hl : 0 < (lims n).length := lims_len_pos.2 h0
    have e1 := sg_pos s h0
    have E1 := Lib.hid e1
    clear e1 h0 H
    cases s with
    | false =>
      go_enter Tryz.func110, Tryz.ntmps110
      go_wp2
      refine bodyPost_ret (ret_iv rfl _ _ _ _ _ rfl (by rw [blk_alloc, if_pos rfl])) rfl ?_
      exact D.out _ _ E1.out ((Fr.refl _ _).alloc _)
    | true =>
      go_enter Tryz.func110, Tryz.ntmps110
      go_wp2
      refine bodyPost_ret (ret_iv rfl _ _ _ _ _ rfl (by rw [blk_alloc, if_pos rfl])) rfl ?_
      exact D.out _ _ E1.out ((Fr.refl _ _).alloc _)
/-- A store into such a block leaves limbs alone. -/
theorem In.set2 {k : Nat} {s : Bool} {a' : Option Addr} {n' c' : Nat} (h : In w a cap L) (hb : Bx w k (.bool s) (.slice a' n' c')) (x y : Value) : In ((w.setCell ⟨k, 0, none⟩ x).setCell ⟨k, 1, none⟩ y) a cap L := by
  have hF : Fr [k] w ((w.setCell ⟨k, 0, none⟩ x).setCell ⟨k, 1, none⟩ y) := ((Fr.refl _ _).setCell (by simp) _).setCell (by simp) _
  refine ⟨?_, h.lim, h.le, h.cm, h.sm⟩
  rcases h.rd with h1 | ⟨b, o, h1, h2, h3⟩
  · exact .inl h1
  · by_cases h0 : L = []
    · exact .inl h0
    · right
      have hl : 0 < L.length := List.length_pos_iff.2 h0
      have hne : b ≠ k := by
        rintro rfl
        have h4 := h3 0 hl
        unfold Bx blk at hb
        simp only [World.cell?, hb] at h4
        rcases o with _ | _ | o <;> simp at h4
      exact ⟨b, o, h1, Nat.lt_of_lt_of_le h2 hF.size, fun i hi => by rw [cell_fr hF h2 (by simpa using hne)]; exact h3 i hi⟩
theorem made_c (w : World) (s : Bool) (n : Nat) (h : In w a cap (lims n)) : Calls Tryz.prog 111 #[.bool s, .slice a (lims n).length cap] w (GivesI w (sg s n) n) := by
  have H := Lib.hid h
  clear h
  by_cases h0 : n = 0
  · have D : Hid (∀ W, Fr [] w W → GivesI w (sg s n) n (.returned (.agg #[.bool false, .slice none 0 0])) W) := Lib.hid (fun W h => by
      subst h0; rw [sg_zero]; exact ⟨none, 0, rfl, (Nw.nil W 0).in, h⟩)
    have hl : (lims n).length = 0 := by rw [h0]; rfl
    rw [hl]
    clear hl h0 H
    go_enter Tryz.func111, Tryz.ntmps111
    go_wp2
    refine bodyPost_ret (ret_iv rfl _ _ _ _ _ rfl (by rw [blk_alloc, if_pos rfl])) rfl ?_
    exact D.out _ ((Fr.refl _ _).alloc _)
  · have hl : 0 < (lims n).length := lims_len_pos.2 h0
    have hlz : (((lims n).length : Int) == 0) = false := by rw [beq_eq_false_iff_ne]; omega
    have D : Hid (∀ W, Fr [] w W → GivesI w (sg s n) n (.returned (.agg #[.bool s, .slice a (lims n).length cap])) W) := Lib.hid (fun W h => by rw [sg_pos s h0]; exact ⟨a, cap, rfl, H.out.keep h, h⟩)
    clear h0 H
    go_enter Tryz.func111, Tryz.ntmps111
    go_wp2
    refine bodyPost_ret (ret_iv rfl _ _ _ _ _ rfl (by rw [blk_alloc, if_pos rfl])) rfl ?_
    exact D.out _ ((Fr.refl _ _).alloc _)
end Go.Proofs.YtjdanblijcdllaaGreatDoor
/- Exact: signs turned, that of an int, the same, which is less. -/
namespace Go.Proofs.YtjdanblijcdllaaGreatDoor
open Go.ChangeShapes Go.WideShapes Go.RowKit
variable {w w' w2 wr : World} {a b : Option Addr} {cap cap2 : Nat} {L M : List Nat} {B : Nat}
theorem r2neg_c (w : World) (s : Bool) (n : Nat) (h : In w a cap (lims n)) : Calls Tryz.prog 98 #[.agg #[.bool s, .slice a (lims n).length cap]] w (GivesI w (sg (!s) n) n) := by
  have H := Lib.hid h
  clear h
  have CM := Lib.hid (fun W (hW : Fr [] w W) => made_c W (!s) n (H.out.keep hW))
  have F0 : Hid (Fr [] w ((w.alloc (.cells #[.bool s, .slice a (lims n).length cap] 25)).alloc (.cells #[.bool false, .slice none 0 0] 25))) := Lib.hid (((Fr.refl [] w).alloc _).alloc _)
  have P : Hid (Bx ((w.alloc (.cells #[.bool s, .slice a (lims n).length cap] 25)).alloc (.cells #[.bool false, .slice none 0 0] 25)) (w.heap.size) (.bool s) (.slice a (lims n).length cap)) := Lib.hid ((Bx.new _ _ _).fr ((Fr.refl [] _).alloc _))
  have R : Hid (Bx ((w.alloc (.cells #[.bool s, .slice a (lims n).length cap] 25)).alloc (.cells #[.bool false, .slice none 0 0] 25)) (w.heap.size + 1) (.bool false) (.slice none 0 0)) := Lib.hid (((Bx.new _ _ _).eq (by simp)).fr (Fr.refl [] _))
  go_enter Tryz.func98, Tryz.ntmps98
  go_wp2_with fail
  refine (CM.out _ F0.out).mono ?_
  rintro e w1 ⟨a1, c1, rfl, I1, F1⟩
  have I1 := Lib.hid I1
  replace R := Lib.hid (R.out.fr F1)
  replace rc0 := R.out.c0
  replace rc1 := R.out.c1
  replace rl := R.out.lt
  replace rf0 := R.out.f 0
  replace rf1 := R.out.f 1
  have F1 := Lib.hid (F0.out.same F1)
  go_wp2_with fail
  refine bodyPost_ret (ret_iv rfl _ _ _ _ _ rfl (R.out.set _ _)) rfl ?_
  exact ⟨a1, c1, rfl, I1.out.set2 R.out _ _, F1.out.set2 (by omega) _ _⟩
theorem eneg_c (w : World) (s : Bool) (n : Nat) (h : In w a cap (lims n)) : Calls Tryz.prog 70 #[.agg #[.bool s, .slice a (lims n).length cap]] w (GivesI w (sg (!s) n) n) := by
  have H := Lib.hid h
  clear h
  have CT : Hid (∀ W, Fr [] w W → Calls Tryz.prog 85 #[.slice a (lims n).length cap] W (Gives W (lims n))) := Lib.hid (fun W hW => by have := ltrim_c W (H.out.keep hW); rwa [val_lims] at this)
  have CS : Hid (∀ W a1 c1, In W a1 c1 (lims n) → Calls Tryz.prog 110 #[.bool (!s), .slice a1 (lims n).length c1] W (GivesI W (sg (!s) n) n)) := Lib.hid (fun W a1 c1 h => signed_c W (!s) n h)
  have F0 : Hid (Fr [] w ((w.alloc (.cells #[.bool s, .slice a (lims n).length cap] 25)).alloc (.cells #[.bool false, .slice none 0 0] 25))) := Lib.hid (((Fr.refl [] w).alloc _).alloc _)
  have P : Hid (Bx ((w.alloc (.cells #[.bool s, .slice a (lims n).length cap] 25)).alloc (.cells #[.bool false, .slice none 0 0] 25)) (w.heap.size) (.bool s) (.slice a (lims n).length cap)) := Lib.hid ((Bx.new _ _ _).fr ((Fr.refl [] _).alloc _))
  have R : Hid (Bx ((w.alloc (.cells #[.bool s, .slice a (lims n).length cap] 25)).alloc (.cells #[.bool false, .slice none 0 0] 25)) (w.heap.size + 1) (.bool false) (.slice none 0 0)) := Lib.hid (((Bx.new _ _ _).eq (by simp)).fr (Fr.refl [] _))
  have F0d := Lib.hid F0.out.drew
  replace pc0 := P.out.c0
  replace pc1 := P.out.c1
  replace pl := P.out.lt
  replace rc0 := R.out.c0
  replace rc1 := R.out.c1
  replace rl := R.out.lt
  replace rf0 := R.out.f 0
  replace rf1 := R.out.f 1
  go_enter Tryz.func70, Tryz.ntmps70
  go_wp2_with fail
  go_region_with (first | (go_at_call 85; refine Calls.mono (CT.out _ ?_) ?_; (· (repeat (first | exact Fr.refl _ _ | apply Fr.drew | apply Fr.alloc))); rintro e w1 ⟨a1, c1, rfl, N1, G1⟩; have P1 := Lib.hid ((P.out.fr ((Fr.refl [] _).drew)).fr G1); have R1 := Lib.hid ((R.out.fr ((Fr.refl [] _).drew)).fr G1); have pp0 := P1.out.c0; have pp1 := P1.out.c1; have ppl := P1.out.lt) | (go_at_call 110; refine Calls.mono (CS.out _ _ _ ?_) ?_; (· exact N1.in); rintro e w2 ⟨a2, c2, rfl, I2, G2⟩; have R2 := Lib.hid (R1.out.fr G2); have rr0 := R2.out.c0; have rr1 := R2.out.c1; have rf0 := R2.out.f 0; have rf1 := R2.out.f 1; have rrl := R2.out.lt))
  all_goals
    go_wp2
    refine bodyPost_ret (ret_iv rfl _ _ _ _ _ rfl (R2.out.set _ _)) rfl ?_
    exact ⟨a2, c2, rfl, I2.set2 R2.out _ _, ((F0d.out.same G1).same G2).set2 (by omega) _ _⟩
end Go.Proofs.YtjdanblijcdllaaGreatDoor
/- Exact: that of an int, the same, which is less. -/
namespace Go.Proofs.YtjdanblijcdllaaGreatDoor
open Go.ChangeShapes Go.WideShapes Go.RowKit
variable {w w' w2 wr : World} {a b : Option Addr} {cap cap2 : Nat} {L M : List Nat} {B : Nat}
theorem eof_c (w : World) (z : Int) (h1 : -9223372036854775808 ≤ z) (h2 : z ≤ 9223372036854775807) : Calls Tryz.prog 56 #[.int .i64 z] w (GivesI w (decide (z < 0)) z.natAbs) := by
  obtain ⟨m, hm⟩ : ∃ m, m = z.natAbs := ⟨_, rfl⟩
  rw [← hm]
  have hmb : m ≤ 9223372036854775808 := by omega
  have LO := Lib.hid (fun W => lof_c W m (by omega))
  have F0 : Hid (Fr [] w (w.alloc (.cells #[.bool false, .slice none 0 0] 25))) := Lib.hid ((Fr.refl [] w).alloc _)
  have R : Hid (Bx (w.alloc (.cells #[.bool false, .slice none 0 0] 25)) (w.heap.size) (.bool false) (.slice none 0 0)) := Lib.hid ((Bx.new _ _ _).fr (Fr.refl [] _))
  by_cases hz : z < 0
  · have hm0 : m ≠ 0 := by omega
    have SG : Hid (sg true m = true) := Lib.hid (by rw [sg_pos _ hm0])
    have hzm : z = -(m : Int) := by omega
    rw [decide_eq_true hz]
    have CS : Hid (∀ W a1 c1, In W a1 c1 (lims m) → Calls Tryz.prog 110 #[.bool true, .slice a1 (lims m).length c1] W (GivesI W true m)) := Lib.hid (fun W a1 c1 h => by have := signed_c W true m h; rwa [SG.out] at this)
    subst hzm
    have e1 : IntKind.i64.wrap (-(m : Int) + 1) = -(m : Int) + 1 := IntWalk.i64_in _ (by omega)
    clear hm hz
    go_enter Tryz.func56, Tryz.ntmps56
    go_wp2_with fail
    rw [show (-(-(m : Int) + 1) + 1) = (m : Int) by omega]
    refine (LO.out _).mono ?_
    rintro e w1 ⟨a1, c1, rfl, N1, F1⟩
    have N1 := Lib.hid N1
    replace R := Lib.hid (R.out.fr F1)
    replace rc0 := R.out.c0
    replace rc1 := R.out.c1
    replace rl := R.out.lt
    replace rf0 := R.out.f 0
    replace rf1 := R.out.f 1
    have F1 := Lib.hid (F0.out.same F1)
    go_wp2_with fail
    refine (CS.out _ _ _ N1.out.in).mono ?_
    rintro e w2 ⟨a2, c2, rfl, I2, F2⟩
    have I2 := Lib.hid I2
    replace R := Lib.hid (R.out.fr F2)
    replace rc0 := R.out.c0
    replace rc1 := R.out.c1
    replace rl := R.out.lt
    replace rf0 := R.out.f 0
    replace rf1 := R.out.f 1
    have F2 := Lib.hid (F1.out.same F2)
    go_wp2_with fail
    refine bodyPost_ret (ret_iv rfl _ _ _ _ _ rfl (R.out.set _ _)) rfl ?_
    exact ⟨a2, c2, rfl, I2.out.set2 R.out _ _, F2.out.set2 (by omega) _ _⟩
  · have hzm : z = (m : Int) := by omega
    rw [decide_eq_false hz]
    have CS : Hid (∀ W a1 c1, In W a1 c1 (lims m) → Calls Tryz.prog 110 #[.bool false, .slice a1 (lims m).length c1] W (GivesI W false m)) := Lib.hid (fun W a1 c1 h => by have := signed_c W false m h; rwa [sg_false] at this)
    subst hzm
    clear hm hz
    go_enter Tryz.func56, Tryz.ntmps56
    go_wp2_with fail
    refine (LO.out _).mono ?_
    rintro e w1 ⟨a1, c1, rfl, N1, F1⟩
    have N1 := Lib.hid N1
    replace R := Lib.hid (R.out.fr F1)
    replace rc0 := R.out.c0
    replace rc1 := R.out.c1
    replace rl := R.out.lt
    replace rf0 := R.out.f 0
    replace rf1 := R.out.f 1
    have F1 := Lib.hid (F0.out.same F1)
    go_wp2_with fail
    refine (CS.out _ _ _ N1.out.in).mono ?_
    rintro e w2 ⟨a2, c2, rfl, I2, F2⟩
    have I2 := Lib.hid I2
    replace R := Lib.hid (R.out.fr F2)
    replace rc0 := R.out.c0
    replace rc1 := R.out.c1
    replace rl := R.out.lt
    replace rf0 := R.out.f 0
    replace rf1 := R.out.f 1
    have F2 := Lib.hid (F1.out.same F2)
    go_wp2_with fail
    refine bodyPost_ret (ret_iv rfl _ _ _ _ _ rfl (R.out.set _ _)) rfl ?_
    exact ⟨a2, c2, rfl, I2.out.set2 R.out _ _, F2.out.set2 (by omega) _ _⟩
theorem r2of_c (w : World) (z : Int) (h1 : -9223372036854775808 ≤ z) (h2 : z ≤ 9223372036854775807) : Calls Tryz.prog 57 #[.int .i64 z] w (GivesI w (decide (z < 0)) z.natAbs) := by
  obtain ⟨m, hm⟩ : ∃ m, m = z.natAbs := ⟨_, rfl⟩
  rw [← hm]
  have hmb : m ≤ 9223372036854775808 := by omega
  have F0 : Hid (Fr [] w (w.alloc (.cells #[.bool false, .slice none 0 0] 25))) := Lib.hid ((Fr.refl [] w).alloc _)
  have R : Hid (Bx (w.alloc (.cells #[.bool false, .slice none 0 0] 25)) (w.heap.size) (.bool false) (.slice none 0 0)) := Lib.hid ((Bx.new _ _ _).fr (Fr.refl [] _))
  by_cases hz : z < 0
  · have hm0 : m ≠ 0 := by omega
    have SG : Hid (sg true m = true) := Lib.hid (by rw [sg_pos _ hm0])
    rw [decide_eq_true hz]
    have CS : Hid (∀ W a1 c1, In W a1 c1 (lims m) → Calls Tryz.prog 111 #[.bool true, .slice a1 (lims m).length c1] W (GivesI W true m)) := Lib.hid (fun W a1 c1 h => by have := made_c W true m h; rwa [SG.out] at this)
    obtain ⟨q, hq⟩ : ∃ q, m = q + 1 := ⟨m - 1, by omega⟩
    have HQ := Lib.hid hq
    have hzm : z = -(q : Int) - 1 := by omega
    have LO := Lib.hid (fun W => r1of_c W q (by omega))
    subst hzm
    have e1 : IntKind.i64.wrap (-1 - (-(q : Int) - 1)) = (q : Int) := by rw [show -1 - (-(q : Int) - 1) = (q : Int) by omega]; exact IntWalk.i64_in _ (by omega)
    have hql : q ≤ 9223372036854775807 := by omega
    clear hm hz hq hmb hm0
    go_enter Tryz.func57, Tryz.ntmps57
    go_wp2_with fail
    refine (LO.out _).mono ?_
    rintro e w1 ⟨a1, c1, rfl, N1, F1⟩
    have CP : Hid (Calls Tryz.prog 113 #[.slice a1 (lims q).length c1, .slice (some ⟨w1.heap.size, 0, none⟩) 1 1] (w1.alloc (.cells #[.int .u32 1] 108)) (Gives (w1.alloc (.cells #[.int .u32 1] 108)) (lims m))) := Lib.hid (by
      have hl : (lims q).length ≤ 2 := by rw [len_lims]; omega
      have := r1plus_c (w1.alloc (.cells #[.int .u32 ((1 : Nat) : Int)] 108)) (N1.keep ((Fr.refl [] _).alloc _)).in (one_new w1 1 0 (by decide) (Nat.zero_le _)).in (by omega) (by simp)
      rwa [val_lims, lims_one, ← HQ.out] at this)
    replace R := Lib.hid (R.out.fr F1)
    replace rc0 := R.out.c0
    replace rc1 := R.out.c1
    replace rl := R.out.lt
    replace rf0 := R.out.f 0
    replace rf1 := R.out.f 1
    have F1 := Lib.hid (F0.out.same F1)
    clear N1
    go_wp2_with fail
    refine CP.out.mono ?_
    rintro e w3 ⟨a3, c3, rfl, N3, F3⟩
    have F3 := ((Fr.refl [] w1).alloc (.cells #[.int .u32 1] 108)).same F3
    have N3 := Lib.hid N3
    replace R := Lib.hid (R.out.fr F3)
    replace rc0 := R.out.c0
    replace rc1 := R.out.c1
    replace rl := R.out.lt
    replace rf0 := R.out.f 0
    replace rf1 := R.out.f 1
    have F1 := Lib.hid (F1.out.same F3)
    go_wp2_with fail
    refine (CS.out _ _ _ N3.out.in).mono ?_
    rintro e w2 ⟨a2, c2, rfl, I2, F2⟩
    have I2 := Lib.hid I2
    replace R := Lib.hid (R.out.fr F2)
    replace rc0 := R.out.c0
    replace rc1 := R.out.c1
    replace rl := R.out.lt
    replace rf0 := R.out.f 0
    replace rf1 := R.out.f 1
    have F2 := Lib.hid (F1.out.same F2)
    go_wp2_with fail
    refine bodyPost_ret (ret_iv rfl _ _ _ _ _ rfl (R.out.set _ _)) rfl ?_
    exact ⟨a2, c2, rfl, I2.out.set2 R.out _ _, F2.out.set2 (by omega) _ _⟩
  · have hzm : z = (m : Int) := by omega
    have LO := Lib.hid (fun W => r1of_c W m (by omega))
    rw [decide_eq_false hz]
    have CS : Hid (∀ W a1 c1, In W a1 c1 (lims m) → Calls Tryz.prog 111 #[.bool false, .slice a1 (lims m).length c1] W (GivesI W false m)) := Lib.hid (fun W a1 c1 h => by have := made_c W false m h; rwa [sg_false] at this)
    subst hzm
    clear hm hz
    go_enter Tryz.func57, Tryz.ntmps57
    go_wp2_with fail
    refine (LO.out _).mono ?_
    rintro e w1 ⟨a1, c1, rfl, N1, F1⟩
    have N1 := Lib.hid N1
    replace R := Lib.hid (R.out.fr F1)
    replace rc0 := R.out.c0
    replace rc1 := R.out.c1
    replace rl := R.out.lt
    replace rf0 := R.out.f 0
    replace rf1 := R.out.f 1
    have F1 := Lib.hid (F0.out.same F1)
    go_wp2_with fail
    refine (CS.out _ _ _ N1.out.in).mono ?_
    rintro e w2 ⟨a2, c2, rfl, I2, F2⟩
    have I2 := Lib.hid I2
    replace R := Lib.hid (R.out.fr F2)
    replace rc0 := R.out.c0
    replace rc1 := R.out.c1
    replace rl := R.out.lt
    replace rf0 := R.out.f 0
    replace rf1 := R.out.f 1
    have F2 := Lib.hid (F1.out.same F2)
    go_wp2_with fail
    refine bodyPost_ret (ret_iv rfl _ _ _ _ _ rfl (R.out.set _ _)) rfl ?_
    exact ⟨a2, c2, rfl, I2.out.set2 R.out _ _, F2.out.set2 (by omega) _ _⟩
set_option maxRecDepth 100000 in
theorem slequal_c (w : World) (ha : In w a cap L) (hb : In w b cap2 M) : Calls Tryz.prog 109 #[.slice a L.length cap, .slice b M.length cap2] w fun e w' => e = .returned (.bool (decide (L = M))) ∧ Fr [] w w' := by
  have HA := Lib.hid ha
  have HB := Lib.hid hb
  have hsa := ha.sm
  clear ha hb
  by_cases hl : L.length = M.length
  · have HL := Lib.hid hl
    have SA := Lib.hid (fun h => same_all (L := L) (M := M) hl h)
    clear hl
    obtain ⟨r, hr⟩ : ∃ r, r = decide (L = M) := ⟨_, rfl⟩
    have HR := Lib.hid hr
    rw [← hr]
    rw [← HL.out]
    clear hr
    go_enter Tryz.func109, Tryz.ntmps109
    go_wp2_with fail
    go_loopw [13, 5] (fun x _ wr => ∃ k : Nat, k ≤ L.length ∧ x = .int .i64 (k : Int) ∧ Hid (∀ i, i < k → L[i]?.getD 0 = M[i]?.getD 0) ∧ Hid (Fr [] w wr)) (fun x _ _ => L.length - (intOf x).toNat)
    case atStart => exact ⟨0, by omega, rfl, Lib.hid (fun i h => by omega), Lib.hid (Fr.refl _ _)⟩
    case round =>
      obtain ⟨k, hk, rfl, hS, hF⟩ := hrel
      by_cases hlt : k < L.length
      · obtain ⟨ab, ao, rfl, al, ac⟩ := (HA.out.keep hF.out).at hlt
        obtain ⟨bb, bo, rfl, bl, bc⟩ := (HB.out.keep hF.out).at (i := k) (by rw [← HL.out]; exact hlt)
        have kk0 : (0 : Int) ≤ (k : Int) := by omega
        have kk1 : (k : Int) < (L.length : Int) := by omega
        have NX : Hid (L[k]?.getD 0 = M[k]?.getD 0 → ∀ i, i < k + 1 → L[i]?.getD 0 = M[i]?.getD 0) := Lib.hid (fun he i hi => by
          by_cases h : i = k
          · subst h; exact he
          · exact hS.out i (by omega))
        have NE : Hid (L[k]?.getD 0 ≠ M[k]?.getD 0 → r = false) := Lib.hid (fun he => by
          rw [HR.out, decide_eq_false_iff_not]; rintro rfl; exact he rfl)
        generalize L[k]?.getD 0 = x at *
        generalize M[k]?.getD 0 = y at *
        by_cases hxy : x = y
        · have S1 := Lib.hid (NX.out hxy)
          have hb : ((x : Int) != (y : Int)) = false := by rw [bne_eq_false_iff_eq]; omega
          clear NX NE hxy hS
          go_wp2_with fail
          go_quiet (fail)
          go_wp2
          go_roundw
          case rel => exact ⟨k + 1, by omega, by go_num, S1, Lib.hid (by first | exact hF.out.drewN _ | exact hF.out.drew | exact hF.out)⟩
          case measure => simp [intOf]; omega
        · have hb : ((x : Int) != (y : Int)) = true := by rw [bne_iff_ne]; omega
          have R0 := NE.out hxy
          have D : Hid (∀ W, Fr [] wr W → (Ending.returned (.bool false) = .returned (.bool r) ∧ Fr [] w W)) := Lib.hid (fun W hW => ⟨by rw [R0], hF.out.same hW⟩)
          clear NX NE hxy hS R0
          go_wp2_with fail
          go_quiet (fail)
          go_wp2
          go_ret
          exact D.out _ (by first | exact (Fr.refl _ _).drewN _ | exact (Fr.refl _ _).drew | exact Fr.refl _ _)
      · have hkl : k = L.length := by omega
        have R1 : r = true := by rw [HR.out, decide_eq_true_eq]; exact SA.out (by rw [← hkl]; exact hS.out)
        subst R1
        clear hS
        go_wp2
        go_ret
        exact ⟨rfl, hF.out⟩
  · have hd : decide (L = M) = false := by rw [decide_eq_false_iff_not]; rintro rfl; exact hl rfl
    rw [hd]
    have hn : ((L.length : Int) != (M.length : Int)) = true := by rw [bne_iff_ne]; omega
    clear hd hl
    go_enter Tryz.func109, Tryz.ntmps109
    go_wp2
    go_ret
    exact ⟨rfl, Fr.refl _ _⟩
theorem lims_inj {n m : Nat} : lims n = lims m ↔ n = m := ⟨fun h => by rw [← val_lims n, h, val_lims], fun h => by rw [h]⟩
theorem esame_c (w : World) (s s2 : Bool) (n m : Nat) (h : In w a cap (lims n)) (h2 : In w b cap2 (lims m)) : Calls Tryz.prog 53 #[.agg #[.bool s, .slice a (lims n).length cap], .agg #[.bool s2, .slice b (lims m).length cap2]] w fun e w' => e = .returned (.bool (decide (s = s2 ∧ n = m))) ∧ Fr [] w w' := by
  have H := Lib.hid h
  have H2 := Lib.hid h2
  clear h h2
  have CE : Hid (∀ W, Fr [] w W → Calls Tryz.prog 109 #[.slice a (lims n).length cap, .slice b (lims m).length cap2] W fun e w' => e = .returned (.bool (decide (n = m))) ∧ Fr [] W w') := Lib.hid (fun W hW => by
    have := slequal_c W (H.out.keep hW) (H2.out.keep hW)
    simpa only [lims_inj] using this)
  have F0 : Hid (Fr [] w ((w.alloc (.cells #[.bool s, .slice a (lims n).length cap] 25)).alloc (.cells #[.bool s2, .slice b (lims m).length cap2] 25))) := Lib.hid (((Fr.refl [] w).alloc _).alloc _)
  have P : Hid (Bx ((w.alloc (.cells #[.bool s, .slice a (lims n).length cap] 25)).alloc (.cells #[.bool s2, .slice b (lims m).length cap2] 25)) (w.heap.size) (.bool s) (.slice a (lims n).length cap)) := Lib.hid ((Bx.new _ _ _).fr ((Fr.refl [] _).alloc _))
  have Q : Hid (Bx ((w.alloc (.cells #[.bool s, .slice a (lims n).length cap] 25)).alloc (.cells #[.bool s2, .slice b (lims m).length cap2] 25)) (w.heap.size + 1) (.bool s2) (.slice b (lims m).length cap2)) := Lib.hid (((Bx.new _ _ _).eq (by simp)).fr (Fr.refl [] _))
  replace pc0 := P.out.c0
  replace pc1 := P.out.c1
  replace pl := P.out.lt
  replace qc0 := Q.out.c0
  replace qc1 := Q.out.c1
  replace ql := Q.out.lt
  by_cases hs : s = s2
  · subst hs
    have ES : (s == s) = true := beq_self_eq_true s
    have HR : Hid (decide (s = s ∧ n = m) = decide (n = m)) := Lib.hid (by simp)
    rw [HR.out]
    go_enter Tryz.func53, Tryz.ntmps53
    go_wp2_with fail
    refine (CE.out _ F0.out).mono ?_
    rintro e w1 ⟨rfl, F1⟩
    have F1 := Lib.hid (F0.out.same F1)
    go_wp2
    go_ret
    exact ⟨rfl, F1.out⟩
  · have ES : (s == s2) = false := by simpa using hs
    have HR : decide (s = s2 ∧ n = m) = false := by simp [hs]
    rw [HR]
    clear hs HR
    go_enter Tryz.func53, Tryz.ntmps53
    go_wp2
    go_ret
    exact ⟨rfl, F0.out⟩
theorem r2same_c (w : World) (s s2 : Bool) (n m : Nat) (h : In w a cap (lims n)) (h2 : In w b cap2 (lims m)) : Calls Tryz.prog 54 #[.agg #[.bool s, .slice a (lims n).length cap], .agg #[.bool s2, .slice b (lims m).length cap2]] w fun e w' => e = .returned (.bool (decide (s = s2 ∧ n = m))) ∧ Fr [] w w' := by
  have H := Lib.hid h
  have H2 := Lib.hid h2
  clear h h2
  have CE : Hid (∀ W, Fr [] w W → Calls Tryz.prog 83 #[.slice a (lims n).length cap, .slice b (lims m).length cap2] W fun e w' => e = .returned (.bool (decide (n = m))) ∧ Fr [] W w') := Lib.hid (fun W hW => by
    have := r1same_c W (H.out.keep hW) (H2.out.keep hW)
    simpa only [lims_inj] using this)
  have F0 : Hid (Fr [] w ((w.alloc (.cells #[.bool s, .slice a (lims n).length cap] 25)).alloc (.cells #[.bool s2, .slice b (lims m).length cap2] 25))) := Lib.hid (((Fr.refl [] w).alloc _).alloc _)
  have P : Hid (Bx ((w.alloc (.cells #[.bool s, .slice a (lims n).length cap] 25)).alloc (.cells #[.bool s2, .slice b (lims m).length cap2] 25)) (w.heap.size) (.bool s) (.slice a (lims n).length cap)) := Lib.hid ((Bx.new _ _ _).fr ((Fr.refl [] _).alloc _))
  have Q : Hid (Bx ((w.alloc (.cells #[.bool s, .slice a (lims n).length cap] 25)).alloc (.cells #[.bool s2, .slice b (lims m).length cap2] 25)) (w.heap.size + 1) (.bool s2) (.slice b (lims m).length cap2)) := Lib.hid (((Bx.new _ _ _).eq (by simp)).fr (Fr.refl [] _))
  replace pc0 := P.out.c0
  replace pc1 := P.out.c1
  replace pl := P.out.lt
  replace qc0 := Q.out.c0
  replace qc1 := Q.out.c1
  replace ql := Q.out.lt
  by_cases hs : s = s2
  · subst hs
    have ES : (s == s) = true := beq_self_eq_true s
    have HR : Hid (decide (s = s ∧ n = m) = decide (n = m)) := Lib.hid (by simp)
    rw [HR.out]
    go_enter Tryz.func54, Tryz.ntmps54
    go_wp2_with fail
    refine (CE.out _ F0.out).mono ?_
    rintro e w1 ⟨rfl, F1⟩
    have F1 := Lib.hid (F0.out.same F1)
    go_wp2
    go_ret
    exact ⟨rfl, F1.out⟩
  · have ES : (s == s2) = false := by simpa using hs
    have HR : decide (s = s2 ∧ n = m) = false := by simp [hs]
    rw [HR]
    clear hs HR
    go_enter Tryz.func54, Tryz.ntmps54
    go_wp2
    go_ret
    exact ⟨rfl, F0.out⟩
end Go.Proofs.YtjdanblijcdllaaGreatDoor
/- Exact: which is less, sums, products. -/
namespace Go.Proofs.YtjdanblijcdllaaGreatDoor
open Go.ChangeShapes Go.WideShapes Go.RowKit
variable {w w' w2 wr : World} {a b : Option Addr} {cap cap2 : Nat} {L M : List Nat} {B : Nat}
theorem load_iv (w : World) (g : Nat) (x y : Value) (hb : blk w g = some (.cells #[x, y] 25 (0, 0))) : (loadVar 25 ⟨g, 0, none⟩).run Tryz.prog w = .ok (.agg #[x, y]) w := by
  have hu := und_int
  cases hd : (Tryz.prog).underlying 25 with
  | none => rw [hd] at hu; cases hu
  | some d =>
    refine run_loadVar_row (P := Tryz.prog) w g 25 25 #[x, y] (0, 0) d hb hd ?_ info_int
    rw [hd] at hu
    cases d <;> first | rfl | cases hu
theorem ret_iv2 {fn : Func} {p u : Tmp} (h : fn.results = #[.cell p 25, .tmp u]) (tmps : Array Value) (w : World) (g : Nat) (x y : Value) (hp : tmps.getD p undef = .pointer (some ⟨g, 0, none⟩)) (hb : blk w g = some (.cells #[x, y] 25 (0, 0))) :
    (results fn tmps).run Tryz.prog w = .ok (.tuple #[.agg #[x, y], tmps.getD u undef]) w := by
  rw [results_cell_tmp h, hp]
  have := load_iv w g x y hb
  simp [asAddr, this]
/-- The sum of two with signs. -/
def addP (s : Bool) (n : Nat) (s2 : Bool) (m : Nat) : Bool × Nat :=
  if s = s2 then (sg s (n + m), n + m) else if m ≤ n then (sg s (n - m), n - m) else (sg s2 (m - n), m - n)
/-- What a capped function of signs and limbs gives. -/
def CapI (w : World) (g : Bool) (s : Bool) (n : Nat) (e : Ending) (w' : World) : Prop :=
  match g with
  | true => ∃ a cap, e = .returned (.tuple #[.agg #[.bool s, .slice a (lims n).length cap], .int .i64 0]) ∧ In w' a cap (lims n) ∧ Fr [] w w'
  | false => e = .returned (.tuple #[.agg #[.bool false, .slice none 0 0], .int .i64 11]) ∧ Fr [] w w'
def AddI (w : World) (s : Bool) (n : Nat) (s2 : Bool) (m : Nat) (e : Ending) (w' : World) : Prop := CapI w (fits (addP s n s2 m).2) (addP s n s2 m).1 (addP s n s2 m).2 e w'
/-- Which of two with signs is less. -/
def cmpP (s : Bool) (n : Nat) (s2 : Bool) (m : Nat) : Int :=
  match s, s2 with
  | true, false => -1
  | false, true => 1
  | true, true => cmpN m n
  | false, false => cmpN n m
theorem ecmp_c (w : World) (s s2 : Bool) (n m : Nat) (h : In w a cap (lims n)) (h2 : In w b cap2 (lims m)) : Calls Tryz.prog 50 #[.agg #[.bool s, .slice a (lims n).length cap], .agg #[.bool s2, .slice b (lims m).length cap2]] w fun e w' => e = .returned (.int .i64 (cmpP s n s2 m)) ∧ Fr [] w w' := by
  have C1 : Hid (∀ W, Fr [] w W → Calls Tryz.prog 105 #[.slice a (lims n).length cap, .slice b (lims m).length cap2] W fun e w' => e = .returned (.int .i64 (cmpN n m)) ∧ Fr [] W w') := Lib.hid (fun W hW => by
    have := lcmp_c W (h.keep hW) (h2.keep hW)
    simpa only [val_lims] using this)
  have C2 : Hid (∀ W, Fr [] w W → Calls Tryz.prog 105 #[.slice b (lims m).length cap2, .slice a (lims n).length cap] W fun e w' => e = .returned (.int .i64 (cmpN m n)) ∧ Fr [] W w') := Lib.hid (fun W hW => by
    have := lcmp_c W (h2.keep hW) (h.keep hW)
    simpa only [val_lims] using this)
  clear h h2
  cases s <;> cases s2
  · have F0 : Hid (Fr [] w ((w.alloc (.cells #[.bool false, .slice a (lims n).length cap] 25)).alloc (.cells #[.bool false, .slice b (lims m).length cap2] 25))) := Lib.hid (((Fr.refl [] w).alloc _).alloc _)
    have P : Hid (Bx ((w.alloc (.cells #[.bool false, .slice a (lims n).length cap] 25)).alloc (.cells #[.bool false, .slice b (lims m).length cap2] 25)) (w.heap.size) (.bool false) (.slice a (lims n).length cap)) := Lib.hid ((Bx.new _ _ _).fr ((Fr.refl [] _).alloc _))
    have Q : Hid (Bx ((w.alloc (.cells #[.bool false, .slice a (lims n).length cap] 25)).alloc (.cells #[.bool false, .slice b (lims m).length cap2] 25)) (w.heap.size + 1) (.bool false) (.slice b (lims m).length cap2)) := Lib.hid (((Bx.new _ _ _).eq (by simp)).fr (Fr.refl [] _))
    go_enter Tryz.func50, Tryz.ntmps50
    go_wp2_with fail
    refine (C1.out _ F0.out).mono ?_
    rintro e w1 ⟨rfl, F1⟩
    have F1 := Lib.hid (F0.out.same F1)
    go_wp2
    go_ret
    exact ⟨rfl, F1.out⟩
  · have F0 : Hid (Fr [] w ((w.alloc (.cells #[.bool false, .slice a (lims n).length cap] 25)).alloc (.cells #[.bool true, .slice b (lims m).length cap2] 25))) := Lib.hid (((Fr.refl [] w).alloc _).alloc _)
    have P : Hid (Bx ((w.alloc (.cells #[.bool false, .slice a (lims n).length cap] 25)).alloc (.cells #[.bool true, .slice b (lims m).length cap2] 25)) (w.heap.size) (.bool false) (.slice a (lims n).length cap)) := Lib.hid ((Bx.new _ _ _).fr ((Fr.refl [] _).alloc _))
    have Q : Hid (Bx ((w.alloc (.cells #[.bool false, .slice a (lims n).length cap] 25)).alloc (.cells #[.bool true, .slice b (lims m).length cap2] 25)) (w.heap.size + 1) (.bool true) (.slice b (lims m).length cap2)) := Lib.hid (((Bx.new _ _ _).eq (by simp)).fr (Fr.refl [] _))
    go_enter Tryz.func50, Tryz.ntmps50
    go_wp2
    go_ret
    exact ⟨rfl, F0.out⟩
  · have F0 : Hid (Fr [] w ((w.alloc (.cells #[.bool true, .slice a (lims n).length cap] 25)).alloc (.cells #[.bool false, .slice b (lims m).length cap2] 25))) := Lib.hid (((Fr.refl [] w).alloc _).alloc _)
    have P : Hid (Bx ((w.alloc (.cells #[.bool true, .slice a (lims n).length cap] 25)).alloc (.cells #[.bool false, .slice b (lims m).length cap2] 25)) (w.heap.size) (.bool true) (.slice a (lims n).length cap)) := Lib.hid ((Bx.new _ _ _).fr ((Fr.refl [] _).alloc _))
    have Q : Hid (Bx ((w.alloc (.cells #[.bool true, .slice a (lims n).length cap] 25)).alloc (.cells #[.bool false, .slice b (lims m).length cap2] 25)) (w.heap.size + 1) (.bool false) (.slice b (lims m).length cap2)) := Lib.hid (((Bx.new _ _ _).eq (by simp)).fr (Fr.refl [] _))
    go_enter Tryz.func50, Tryz.ntmps50
    go_wp2
    go_ret
    exact ⟨rfl, F0.out⟩
  · have F0 : Hid (Fr [] w ((w.alloc (.cells #[.bool true, .slice a (lims n).length cap] 25)).alloc (.cells #[.bool true, .slice b (lims m).length cap2] 25))) := Lib.hid (((Fr.refl [] w).alloc _).alloc _)
    have P : Hid (Bx ((w.alloc (.cells #[.bool true, .slice a (lims n).length cap] 25)).alloc (.cells #[.bool true, .slice b (lims m).length cap2] 25)) (w.heap.size) (.bool true) (.slice a (lims n).length cap)) := Lib.hid ((Bx.new _ _ _).fr ((Fr.refl [] _).alloc _))
    have Q : Hid (Bx ((w.alloc (.cells #[.bool true, .slice a (lims n).length cap] 25)).alloc (.cells #[.bool true, .slice b (lims m).length cap2] 25)) (w.heap.size + 1) (.bool true) (.slice b (lims m).length cap2)) := Lib.hid (((Bx.new _ _ _).eq (by simp)).fr (Fr.refl [] _))
    go_enter Tryz.func50, Tryz.ntmps50
    go_wp2_with fail
    refine (C2.out _ F0.out).mono ?_
    rintro e w1 ⟨rfl, F1⟩
    have F1 := Lib.hid (F0.out.same F1)
    go_wp2
    go_ret
    exact ⟨rfl, F1.out⟩
set_option maxHeartbeats 2000000 in
theorem eadd_c (w : World) (s s2 : Bool) (n m : Nat) (h : In w a cap (lims n)) (h2 : In w b cap2 (lims m)) (hn : fits n = true) (hm : fits m = true) : Calls Tryz.prog 101 #[.agg #[.bool s, .slice a (lims n).length cap], .agg #[.bool s2, .slice b (lims m).length cap2]] w (AddI w s n s2 m) := by
  have H := Lib.hid h
  have H2 := Lib.hid h2
  clear h h2
  have F0 : Hid (Fr [] w (((w.alloc (.cells #[.bool s, .slice a (lims n).length cap] 25)).alloc (.cells #[.bool s2, .slice b (lims m).length cap2] 25)).alloc (.cells #[.bool false, .slice none 0 0] 25))) := Lib.hid ((((Fr.refl [] w).alloc _).alloc _).alloc _)
  have P : Hid (Bx (((w.alloc (.cells #[.bool s, .slice a (lims n).length cap] 25)).alloc (.cells #[.bool s2, .slice b (lims m).length cap2] 25)).alloc (.cells #[.bool false, .slice none 0 0] 25)) (w.heap.size) (.bool s) (.slice a (lims n).length cap)) := Lib.hid ((Bx.new _ _ _).fr (((Fr.refl [] _).alloc _).alloc _))
  have Q : Hid (Bx (((w.alloc (.cells #[.bool s, .slice a (lims n).length cap] 25)).alloc (.cells #[.bool s2, .slice b (lims m).length cap2] 25)).alloc (.cells #[.bool false, .slice none 0 0] 25)) (w.heap.size + 1) (.bool s2) (.slice b (lims m).length cap2)) := Lib.hid (((Bx.new _ _ _).eq (by simp)).fr ((Fr.refl [] _).alloc _))
  have R : Hid (Bx (((w.alloc (.cells #[.bool s, .slice a (lims n).length cap] 25)).alloc (.cells #[.bool s2, .slice b (lims m).length cap2] 25)).alloc (.cells #[.bool false, .slice none 0 0] 25)) (w.heap.size + 2) (.bool false) (.slice none 0 0)) := Lib.hid (((Bx.new _ _ _).eq (by simp)).fr (Fr.refl [] _))
  replace pc0 := P.out.c0
  replace pc1 := P.out.c1
  replace pl := P.out.lt
  replace qc0 := Q.out.c0
  replace qc1 := Q.out.c1
  replace ql := Q.out.lt
  replace rc0 := R.out.c0
  replace rc1 := R.out.c1
  replace rl := R.out.lt
  replace rf0 := R.out.f 0
  replace rf1 := R.out.f 1
  have CA := Lib.hid (ladd_c _ (H.out.keep F0.out) (H2.out.keep F0.out))
  rw [val_lims, val_lims] at CA
  by_cases hs : s = s2
  · subst hs
    have hp : addP s n s m = (sg s (n + m), n + m) := by unfold addP; rw [if_pos rfl]
    have ES : (s == s) = true := beq_self_eq_true s
    cases hf : fits (n + m) with
    | true =>
      have D : Hid (∀ W a c, In W a c (lims (n + m)) → Fr [] w W → AddI w s n s m (.returned (.tuple #[.agg #[.bool (sg s (n + m)), .slice a (lims (n + m)).length c], .int .i64 0])) W) := Lib.hid (fun W a c h1 h2 => by
        unfold AddI; rw [hp, hf]; exact ⟨a, c, rfl, h1, h2⟩)
      rw [hf] at CA
      clear hf hp
      go_enter Tryz.func101, Tryz.ntmps101
      go_wp2_with fail
      refine CA.out.mono ?_
      rintro e w1 ⟨a1, c1, rfl, N1, F1⟩
      have N1 := Lib.hid N1
      replace P := Lib.hid (P.out.fr F1)
      replace pc0 := P.out.c0
      replace pc1 := P.out.c1
      replace pl := P.out.lt
      replace Q := Lib.hid (Q.out.fr F1)
      replace qc0 := Q.out.c0
      replace qc1 := Q.out.c1
      replace ql := Q.out.lt
      replace R := Lib.hid (R.out.fr F1)
      replace rc0 := R.out.c0
      replace rc1 := R.out.c1
      replace rl := R.out.lt
      replace rf0 := R.out.f 0
      replace rf1 := R.out.f 1
      have F1 := Lib.hid (F0.out.same F1)
      go_wp2_with fail
      refine (signed_c w1 s (n + m) N1.out.in).mono ?_
      rintro e w8 ⟨a8, c8, rfl, I8, F8⟩
      have I8 := Lib.hid I8
      replace P := Lib.hid (P.out.fr F8)
      replace pc0 := P.out.c0
      replace pc1 := P.out.c1
      replace pl := P.out.lt
      replace Q := Lib.hid (Q.out.fr F8)
      replace qc0 := Q.out.c0
      replace qc1 := Q.out.c1
      replace ql := Q.out.lt
      replace R := Lib.hid (R.out.fr F8)
      replace rc0 := R.out.c0
      replace rc1 := R.out.c1
      replace rl := R.out.lt
      replace rf0 := R.out.f 0
      replace rf1 := R.out.f 1
      have F8 := Lib.hid (F1.out.same F8)
      go_wp2_with fail
      refine bodyPost_ret (ret_iv2 rfl _ _ _ _ _ rfl (R.out.set _ _)) rfl ?_
      exact D.out _ _ _ (I8.out.set2 R.out _ _) (F8.out.set2 (by omega) _ _)
    | false =>
      have D : Hid (∀ W, Fr [] w W → AddI w s n s m (.returned (.tuple #[.agg #[.bool false, .slice none 0 0], .int .i64 11])) W) := Lib.hid (fun W h2 => by
        unfold AddI; rw [hp, hf]; exact ⟨rfl, h2⟩)
      rw [hf] at CA
      clear hf hp
      go_enter Tryz.func101, Tryz.ntmps101
      go_wp2_with fail
      refine CA.out.mono ?_
      rintro e w1 ⟨rfl, F1⟩
      replace P := Lib.hid (P.out.fr F1)
      replace pc0 := P.out.c0
      replace pc1 := P.out.c1
      replace pl := P.out.lt
      replace Q := Lib.hid (Q.out.fr F1)
      replace qc0 := Q.out.c0
      replace qc1 := Q.out.c1
      replace ql := Q.out.lt
      replace R := Lib.hid (R.out.fr F1)
      replace rc0 := R.out.c0
      replace rc1 := R.out.c1
      replace rl := R.out.lt
      replace rf0 := R.out.f 0
      replace rf1 := R.out.f 1
      have F1 := Lib.hid (F0.out.same F1)
      go_wp2_with fail
      refine bodyPost_ret (ret_iv2 rfl _ _ _ _ _ rfl (R.out.set _ _)) rfl ?_
      exact D.out _ (F1.out.set2 (by omega) _ _)
  · have ES : (s == s2) = false := by simpa using hs
    by_cases hle : m ≤ n
    · have hp : addP s n s2 m = (sg s (n - m), n - m) := by unfold addP; rw [if_neg hs, if_pos hle]
      have hf : fits (n - m) = true := fits_le (Nat.sub_le _ _) hn
      have D : Hid (∀ W a c, In W a c (lims (n - m)) → Fr [] w W → AddI w s n s2 m (.returned (.tuple #[.agg #[.bool (sg s (n - m)), .slice a (lims (n - m)).length c], .int .i64 0])) W) := Lib.hid (fun W a c h1 h2 => by
        unfold AddI; rw [hp, hf]; exact ⟨a, c, rfl, h1, h2⟩)
      have CS := Lib.hid (lsub_c _ (H.out.keep F0.out) (H2.out.keep F0.out))
      rw [val_lims, val_lims] at CS
      have RES : Hid (∀ W e w1, SubR W n m e w1 → ∃ a c, e = .returned (.tuple #[.slice a (lims (n - m)).length c, .bool true]) ∧ In w1 a c (lims (n - m)) ∧ Fr [] W w1) := Lib.hid (fun W e w1 hr => by
        unfold SubR at hr; rw [if_neg (by omega)] at hr
        obtain ⟨a, c, h1, h2, h3⟩ := hr
        exact ⟨a, c, h1, h2.in, h3⟩)
      clear hf hp hs hle CA
      go_enter Tryz.func101, Tryz.ntmps101
      go_wp2_with fail
      refine CS.out.mono ?_
      intro e w1 hr
      obtain ⟨a1, c1, rfl, N1, F1⟩ := RES.out _ _ _ hr
      have N1 := Lib.hid N1
      replace P := Lib.hid (P.out.fr F1)
      replace pc0 := P.out.c0
      replace pc1 := P.out.c1
      replace pl := P.out.lt
      replace Q := Lib.hid (Q.out.fr F1)
      replace qc0 := Q.out.c0
      replace qc1 := Q.out.c1
      replace ql := Q.out.lt
      replace R := Lib.hid (R.out.fr F1)
      replace rc0 := R.out.c0
      replace rc1 := R.out.c1
      replace rl := R.out.lt
      replace rf0 := R.out.f 0
      replace rf1 := R.out.f 1
      have F1 := Lib.hid (F0.out.same F1)
      clear hr
      go_wp2_with fail
      refine (signed_c w1 s (n - m) N1.out).mono ?_
      rintro e w8 ⟨a8, c8, rfl, I8, F8⟩
      have I8 := Lib.hid I8
      replace P := Lib.hid (P.out.fr F8)
      replace pc0 := P.out.c0
      replace pc1 := P.out.c1
      replace pl := P.out.lt
      replace Q := Lib.hid (Q.out.fr F8)
      replace qc0 := Q.out.c0
      replace qc1 := Q.out.c1
      replace ql := Q.out.lt
      replace R := Lib.hid (R.out.fr F8)
      replace rc0 := R.out.c0
      replace rc1 := R.out.c1
      replace rl := R.out.lt
      replace rf0 := R.out.f 0
      replace rf1 := R.out.f 1
      have F8 := Lib.hid (F1.out.same F8)
      go_wp2_with fail
      refine bodyPost_ret (ret_iv2 rfl _ _ _ _ _ rfl (R.out.set _ _)) rfl ?_
      exact D.out _ _ _ (I8.out.set2 R.out _ _) (F8.out.set2 (by omega) _ _)
    · have hp : addP s n s2 m = (sg s2 (m - n), m - n) := by unfold addP; rw [if_neg hs, if_neg hle]
      have hf : fits (m - n) = true := fits_le (Nat.sub_le _ _) hm
      have D : Hid (∀ W a c, In W a c (lims (m - n)) → Fr [] w W → AddI w s n s2 m (.returned (.tuple #[.agg #[.bool (sg s2 (m - n)), .slice a (lims (m - n)).length c], .int .i64 0])) W) := Lib.hid (fun W a c h1 h2 => by
        unfold AddI; rw [hp, hf]; exact ⟨a, c, rfl, h1, h2⟩)
      have CS := Lib.hid (lsub_c _ (H.out.keep F0.out) (H2.out.keep F0.out))
      rw [val_lims, val_lims] at CS
      have RES : Hid (∀ W e w1, SubR W n m e w1 → e = .returned (.tuple #[.slice none 0 0, .bool false]) ∧ Fr [] W w1) := Lib.hid (fun W e w1 hr => by
        unfold SubR at hr; rw [if_pos (by omega)] at hr; exact hr)
      have CU : Hid (∀ W, Fr [] w W → Calls Tryz.prog 151 #[.slice b (lims m).length cap2, .slice a (lims n).length cap] W fun e w1 => ∃ a c, e = .returned (.tuple #[.slice a (lims (m - n)).length c, .bool true]) ∧ In w1 a c (lims (m - n)) ∧ Fr [] W w1) := Lib.hid (fun W hW => by
        have := lsub_c W (H2.out.keep hW) (H.out.keep hW)
        rw [val_lims, val_lims] at this
        refine this.mono ?_
        intro e w1 hr
        unfold SubR at hr; rw [if_neg (by omega)] at hr
        obtain ⟨a, c, h1, h2, h3⟩ := hr
        exact ⟨a, c, h1, h2.in, h3⟩)
      clear hf hp hs hle CA
      go_enter Tryz.func101, Tryz.ntmps101
      go_wp2_with fail
      refine CS.out.mono ?_
      intro e w1 hr
      obtain ⟨rfl, F1⟩ := RES.out _ _ _ hr
      replace P := Lib.hid (P.out.fr F1)
      replace pc0 := P.out.c0
      replace pc1 := P.out.c1
      replace pl := P.out.lt
      replace Q := Lib.hid (Q.out.fr F1)
      replace qc0 := Q.out.c0
      replace qc1 := Q.out.c1
      replace ql := Q.out.lt
      replace R := Lib.hid (R.out.fr F1)
      replace rc0 := R.out.c0
      replace rc1 := R.out.c1
      replace rl := R.out.lt
      replace rf0 := R.out.f 0
      replace rf1 := R.out.f 1
      have F1 := Lib.hid (F0.out.same F1)
      clear hr
      go_wp2_with fail
      refine (CU.out _ F1.out).mono ?_
      rintro e w2 ⟨a1, c1, rfl, N1, F2⟩
      have N1 := Lib.hid N1
      replace P := Lib.hid (P.out.fr F2)
      replace pc0 := P.out.c0
      replace pc1 := P.out.c1
      replace pl := P.out.lt
      replace Q := Lib.hid (Q.out.fr F2)
      replace qc0 := Q.out.c0
      replace qc1 := Q.out.c1
      replace ql := Q.out.lt
      replace R := Lib.hid (R.out.fr F2)
      replace rc0 := R.out.c0
      replace rc1 := R.out.c1
      replace rl := R.out.lt
      replace rf0 := R.out.f 0
      replace rf1 := R.out.f 1
      have F2 := Lib.hid (F1.out.same F2)
      go_wp2_with fail
      refine (signed_c w2 s2 (m - n) N1.out).mono ?_
      rintro e w8 ⟨a8, c8, rfl, I8, F8⟩
      have I8 := Lib.hid I8
      replace P := Lib.hid (P.out.fr F8)
      replace pc0 := P.out.c0
      replace pc1 := P.out.c1
      replace pl := P.out.lt
      replace Q := Lib.hid (Q.out.fr F8)
      replace qc0 := Q.out.c0
      replace qc1 := Q.out.c1
      replace ql := Q.out.lt
      replace R := Lib.hid (R.out.fr F8)
      replace rc0 := R.out.c0
      replace rc1 := R.out.c1
      replace rl := R.out.lt
      replace rf0 := R.out.f 0
      replace rf1 := R.out.f 1
      have F8 := Lib.hid (F2.out.same F8)
      go_wp2_with fail
      refine bodyPost_ret (ret_iv2 rfl _ _ _ _ _ rfl (R.out.set _ _)) rfl ?_
      exact D.out _ _ _ (I8.out.set2 R.out _ _) (F8.out.set2 (by omega) _ _)
end Go.Proofs.YtjdanblijcdllaaGreatDoor
