/- The texts and numbers of numbers: a part of the walk. No condition. -/
import Derived.Test.YtcjkgnafpkkjmaaGreatDoorQk16
import Derived.Test.YtcjkgnafpkkjmaaGreatDoorQk13
set_option linter.all false
section
namespace Go.Proofs.YtcjkgnafpkkjmaaGreatDoor
open Go.ChangeShapes Go.WideShapes Go.RowKit
variable {w w' : World} {a a2 : Option Addr} {cap cap2 : Nat}
theorem info_num : ((Tryz.prog).info? 38).map (·.size) = some 4 := by kernel_rfl
theorem und_num : (match (Tryz.prog).underlying 38 with | some (.struct _) | some (.array _ _) => true | _ => false) = true := by kernel_rfl
theorem load_nv (w : World) (g : Nat) (x0 x1 x2 x3 : Value) (hb : blk w g = some (.cells #[x0, x1, x2, x3] 38 (0, 0))) : (loadVar 38 ⟨g, 0, none⟩).run Tryz.prog w = .ok (.agg #[x0, x1, x2, x3]) w := by
  have hu := und_num
  cases hd : (Tryz.prog).underlying 38 with
  | none => rw [hd] at hu; cases hu
  | some d =>
    refine run_loadVar_row (P := Tryz.prog) w g 38 38 #[x0, x1, x2, x3] (0, 0) d hb hd ?_ info_num
    rw [hd] at hu
    cases d <;> first | rfl | cases hu
theorem ret_nv {fn : Func} {p : Tmp} (h : fn.results = #[.cell p 38]) (tmps : Array Value) (w : World) (g : Nat) (x0 x1 x2 x3 : Value) (hp : tmps.getD p undef = .pointer (some ⟨g, 0, none⟩)) (hb : blk w g = some (.cells #[x0, x1, x2, x3] 38 (0, 0))) :
    (results fn tmps).run Tryz.prog w = .ok (.agg #[x0, x1, x2, x3]) w := by
  have hu := und_num
  cases hd : (Tryz.prog).underlying 38 with
  | none => rw [hd] at hu; cases hu
  | some d =>
    refine results_cell_row h tmps w g 38 #[x0, x1, x2, x3] (0, 0) d hp hb hd ?_ info_num
    rw [hd] at hu
    cases d <;> first | rfl | cases hu
theorem ret_nv2 {fn : Func} {p u : Tmp} (h : fn.results = #[.cell p 38, .tmp u]) (tmps : Array Value) (w : World) (g : Nat) (x0 x1 x2 x3 : Value) (hp : tmps.getD p undef = .pointer (some ⟨g, 0, none⟩)) (hb : blk w g = some (.cells #[x0, x1, x2, x3] 38 (0, 0))) :
    (results fn tmps).run Tryz.prog w = .ok (.tuple #[.agg #[x0, x1, x2, x3], tmps.getD u undef]) w := by
  rw [results_cell_tmp h, hp]
  have := load_nv w g x0 x1 x2 x3 hb
  simp [asAddr, this]
theorem sf_run (a : Addr) (m : Mode) (b : Nat) (w : World) : (store a (.float .f64 b) m).run Tryz.prog w = stored Tryz.prog w a (.float .f64 b) m := run_store _ w a _ m rfl
def BxN (w : World) (k : Nat) (x0 x1 x2 x3 : Value) : Prop := blk w k = some (.cells #[x0, x1, x2, x3] 38 (0, 0))
section
variable {k : Nat} {x0 x1 x2 x3 : Value}
theorem BxN.c0 (h : BxN w k x0 x1 x2 x3) : w.cell? ⟨k, 0, none⟩ = some x0 := cell_of (i := 0) h rfl
theorem BxN.c1 (h : BxN w k x0 x1 x2 x3) : w.cell? ⟨k, 1, none⟩ = some x1 := cell_of (i := 1) h rfl
theorem BxN.c2 (h : BxN w k x0 x1 x2 x3) : w.cell? ⟨k, 2, none⟩ = some x2 := cell_of (i := 2) h rfl
theorem BxN.c3 (h : BxN w k x0 x1 x2 x3) : w.cell? ⟨k, 3, none⟩ = some x3 := cell_of (i := 3) h rfl
theorem BxN.f (h : BxN w k x0 x1 x2 x3) (i : Nat) : w.frozen? ⟨k, i, none⟩ = false := free_of h
theorem BxN.lt (h : BxN w k x0 x1 x2 x3) : k < w.heap.size := lt_size h
theorem BxN.fr (h : BxN w k x0 x1 x2 x3) (hF : Fr [] w w') : BxN w' k x0 x1 x2 x3 := hF.at h (by simp)
theorem BxN.new (w : World) (x0 x1 x2 x3 : Value) : BxN (w.alloc (.cells #[x0, x1, x2, x3] 38)) w.heap.size x0 x1 x2 x3 := by unfold BxN; rw [blk_alloc, if_pos rfl]
theorem BxN.set (h : BxN w k x0 x1 x2 x3) (y0 y1 y2 y3 : Value) : BxN ((((w.setCell ⟨k, 0, none⟩ y0).setCell ⟨k, 1, none⟩ y1).setCell ⟨k, 2, none⟩ y2).setCell ⟨k, 3, none⟩ y3) k y0 y1 y2 y3 := by
  unfold BxN at *
  rw [blk_set, if_pos rfl, blk_set, if_pos rfl, blk_set, if_pos rfl, blk_set, if_pos rfl, h]; rfl
theorem Fr.set4 {b w : World} (h : Fr [] b w) {k : Nat} (hk : b.heap.size ≤ k) (y0 y1 y2 y3 : Value) : Fr [] b ((((w.setCell ⟨k, 0, none⟩ y0).setCell ⟨k, 1, none⟩ y1).setCell ⟨k, 2, none⟩ y2).setCell ⟨k, 3, none⟩ y3) := (((h.setCell (.inr hk) _).setCell (.inr hk) _).setCell (.inr hk) _).setCell (.inr hk) _
end
theorem In.set4 {L : List Nat} {k f l c' : Nat} {fl s : Bool} {a' : Option Addr} (h : In w a cap L) (hb : BxN w k (.bool fl) (.float .f64 f) (.bool s) (.slice a' l c')) (y0 y1 y2 y3 : Value) : In ((((w.setCell ⟨k, 0, none⟩ y0).setCell ⟨k, 1, none⟩ y1).setCell ⟨k, 2, none⟩ y2).setCell ⟨k, 3, none⟩ y3) a cap L := by
  have hF : Fr [k] w ((((w.setCell ⟨k, 0, none⟩ y0).setCell ⟨k, 1, none⟩ y1).setCell ⟨k, 2, none⟩ y2).setCell ⟨k, 3, none⟩ y3) := ((((Fr.refl _ _).setCell (by simp) _).setCell (by simp) _).setCell (by simp) _).setCell (by simp) _
  refine ⟨?_, h.lim, h.le, h.cm, h.sm⟩
  rcases h.rd with h1 | ⟨b, o, h1, h2, h3⟩
  · exact .inl h1
  · by_cases h0 : L = []
    · exact .inl h0
    · right
      have hl : 0 < L.length := List.length_pos_iff.2 h0
      have hne : b ≠ k := by
        rintro rfl
        have h4 := h3 0 hl
        unfold BxN blk at hb
        simp only [World.cell?, hb] at h4
        rcases o with _ | _ | _ | _ | o <;> simp at h4
      exact ⟨b, o, h1, Nat.lt_of_lt_of_le h2 hF.size, fun i hi => by rw [cell_fr hF h2 (by simpa using hne)]; exact h3 i hi⟩
theorem twwhole_c (w : World) (s : Bool) (l : Nat) : Calls Tryz.prog 42 #[.agg #[.bool s, .slice a l cap]] w fun e w' => e = .returned (.agg #[.bool false, .float .f64 0, .bool s, .slice a l cap]) ∧ Fr [] w w' := by
  have hsf := sf_run
  go_enter Tryz.func42, Tryz.ntmps42
  go_wp2
  refine bodyPost_ret (ret_nv rfl _ _ (w.heap.size + 1) _ _ _ _ rfl (by rw [blk_alloc, size_alloc, if_pos rfl])) rfl ?_
  exact ⟨rfl, ((Fr.refl [] w).alloc _).alloc _⟩
theorem twflo_c (w : World) (f : Nat) : Calls Tryz.prog 36 #[.float .f64 f] w fun e w' => e = .returned (.agg #[.bool true, .float .f64 f, .bool false, .slice none 0 0]) ∧ Fr [] w w' := by
  have hsf := sf_run
  go_enter Tryz.func36, Tryz.ntmps36
  go_wp2
  refine bodyPost_ret (ret_nv rfl _ _ _ _ _ _ _ rfl (BxN.new w _ _ _ _)) rfl ?_
  exact ⟨rfl, (Fr.refl [] w).alloc _⟩
def valP (fl : Bool) (f : Nat) (s : Bool) (n : Nat) : Nat := if fl then f else if s then Op.negFloat .f64 (ofR n) else ofR n
theorem twvalue_c (w : World) (fl : Bool) (f : Nat) (s : Bool) (n : Nat) (h : In w a cap (lims n)) (hl : (lims n).length ≤ 100) : Calls Tryz.prog 76 #[.agg #[.bool fl, .float .f64 f, .bool s, .slice a (lims n).length cap]] w fun e w' => e = .returned (.float .f64 (valP fl f s n)) ∧ Fr [] w w' := by
  obtain ⟨W1, hW1⟩ : ∃ W1, W1 = w.alloc (.cells #[.bool fl, .float .f64 f, .bool s, .slice a (lims n).length cap] 38) := ⟨_, rfl⟩
  have F1 : Hid (Fr [] w W1) := Lib.hid (by rw [hW1]; exact (Fr.refl _ _).alloc _)
  have CO := Lib.hid (flof_c W1 s n (h.keep F1.out) hl)
  cases fl with
  | true =>
    have e1 : valP true f s n = f := if_pos rfl
    rw [e1]
    clear CO h hl e1
    generalize (lims n).length = l at *
    go_enter Tryz.func76, Tryz.ntmps76
    go_wp2
    go_ret
    rw [← hW1]
    exact ⟨rfl, F1.out⟩
  | false =>
    have e1 : valP false f s n = if s then Op.negFloat .f64 (ofR n) else ofR n := if_neg (by decide)
    rw [e1]
    obtain ⟨z, hz⟩ : ∃ z, z = if s then Op.negFloat .f64 (ofR n) else ofR n := ⟨_, rfl⟩
    rw [← hz] at CO ⊢
    clear h hl hz e1
    generalize (lims n).length = l at *
    go_enter Tryz.func76, Tryz.ntmps76
    go_wp2_with fail
    rw [← hW1]
    refine CO.out.mono ?_
    rintro e w2 ⟨rfl, F2⟩
    go_wp2
    go_ret
    exact ⟨rfl, F1.out.same F2⟩
theorem twzero_c (w : World) (fl : Bool) (f : Nat) (s : Bool) (l : Nat) : Calls Tryz.prog 74 #[.agg #[.bool fl, .float .f64 f, .bool s, .slice a l cap]] w fun e w' => e = .returned (.bool (!fl && decide (l = 0))) ∧ Fr [] w w' := by
  have hd : ((l : Int) == 0) = decide (l = 0) := by
    by_cases h : l = 0
    · subst h; rfl
    · rw [decide_eq_false h]; simpa using h
  cases fl with
  | true =>
    clear hd
    go_enter Tryz.func74, Tryz.ntmps74
    go_wp2
    go_ret
    exact ⟨rfl, (Fr.refl _ _).alloc _⟩
  | false =>
    rw [Bool.not_false, Bool.true_and]
    obtain ⟨z, hz⟩ : ∃ z, z = decide (l = 0) := ⟨_, rfl⟩
    rw [← hz] at hd ⊢
    clear hz
    go_enter Tryz.func74, Tryz.ntmps74
    go_wp2
    go_ret
    exact ⟨rfl, (Fr.refl _ _).alloc _⟩
theorem twint_c (w : World) (z : Int) (h1 : -9223372036854775808 ≤ z) (h2 : z ≤ 9223372036854775807) : Calls Tryz.prog 35 #[.int .i64 z] w fun e w' => ∃ a cap, e = .returned (.agg #[.bool false, .float .f64 0, .bool (decide (z < 0)), .slice a (lims z.natAbs).length cap]) ∧ In w' a cap (lims z.natAbs) ∧ Fr [] w w' := by
  obtain ⟨W1, hW1⟩ : ∃ W1, W1 = w.alloc (.cells #[.bool false, .float .f64 0, .bool false, .slice none 0 0] 38) := ⟨_, rfl⟩
  obtain ⟨k, hk⟩ : ∃ k, k = w.heap.size := ⟨_, rfl⟩
  have P1 : Hid (BxN W1 k (.bool false) (.float .f64 0) (.bool false) (.slice none 0 0)) := Lib.hid (by rw [hW1, hk]; exact BxN.new _ _ _ _ _)
  have F1 : Hid (Fr [] w W1) := Lib.hid (by rw [hW1]; exact (Fr.refl _ _).alloc _)
  have HK := Lib.hid hk
  have CO := Lib.hid (eof_c W1 z h1 h2)
  obtain ⟨s, hs⟩ : ∃ s, s = decide (z < 0) := ⟨_, rfl⟩
  obtain ⟨n, hn⟩ : ∃ n, n = z.natAbs := ⟨_, rfl⟩
  rw [← hs, ← hn] at CO ⊢
  clear hs hn h1 h2
  have hsf := sf_run
  go_enter Tryz.func35, Tryz.ntmps35
  go_wp2_with fail
  rw [← hW1, ← hk]
  clear hW1 hk
  refine CO.out.mono ?_
  rintro e w2 ⟨a2, c2, rfl, I2, F2⟩
  have I2 := Lib.hid I2
  have P2 := Lib.hid (P1.out.fr F2)
  have F2 := Lib.hid (F1.out.same F2)
  clear CO P1 F1
  obtain ⟨l, hl⟩ : ∃ l, l = (lims n).length := ⟨_, rfl⟩
  have HL := Lib.hid hl
  rw [← hl]
  clear hl
  go_wp2_with fail
  refine (twwhole_c w2 s l).mono ?_
  rintro e w3 ⟨rfl, F3⟩
  have I3 := Lib.hid (I2.out.keep F3)
  have P3 := Lib.hid (P2.out.fr F3)
  have F3 := Lib.hid (F2.out.same F3)
  clear I2 P2 F2
  have q0 := P3.out.f 0
  have q1 := P3.out.f 1
  have q2 := P3.out.f 2
  have q3 := P3.out.f 3
  have c0 := P3.out.c0
  have c1 := P3.out.c1
  have c2' := P3.out.c2
  have c3 := P3.out.c3
  have ql := P3.out.lt
  go_wp2_with fail
  refine bodyPost_ret (ret_nv rfl _ _ _ _ _ _ _ rfl (P3.out.set _ _ _ _)) rfl ?_
  have hkw : w.heap.size ≤ k := by rw [HK.out]; exact Nat.le_refl _
  exact ⟨a2, c2, by rw [HL.out], I3.out.set4 P3.out _ _ _ _, F3.out.set4 hkw _ _ _ _⟩
end Go.Proofs.YtcjkgnafpkkjmaaGreatDoor
namespace Go.Proofs.YtcjkgnafpkkjmaaGreatDoor
open Go.ChangeShapes Go.WideShapes Go.RowKit
variable {w w' : World} {a a2 : Option Addr} {cap cap2 : Nat}
def nanN (fl : Bool) (f : Nat) : Bool := fl && isNan f
def keyN (fl : Bool) (f : Nat) (s : Bool) (n : Nat) : Int := match fl with | true => keyF f | false => unitX s n
theorem lt_key {x y : Nat} (hx : isNan x = false) (hy : isNan y = false) : (FloatKind.f64.format.order x y == some .lt) = decide (keyF x < keyF y) := by
  change (Ieee.double.order x y == some .lt) = _
  rw [order_key hx hy, fcmpI]
  by_cases h : keyF x < keyF y
  · rw [if_pos h, decide_eq_true h]; rfl
  · rw [if_neg h, decide_eq_false h]; split <;> rfl
theorem gt_key {x y : Nat} (hx : isNan x = false) (hy : isNan y = false) : (FloatKind.f64.format.order x y == some .gt) = decide (keyF y < keyF x) := by
  change (Ieee.double.order x y == some .gt) = _
  rw [order_key hx hy, fcmpI]
  by_cases h : keyF y < keyF x
  · rw [if_neg (by omega), if_neg (by omega), decide_eq_true h]; rfl
  · rw [decide_eq_false h]
    by_cases h2 : keyF x < keyF y
    · rw [if_pos h2]; rfl
    · rw [if_neg h2, if_pos (by omega)]; rfl
theorem cpnan_c (w : World) (b : Nat) : Calls Tryz.prog 117 #[.float .f64 b] w fun e w' => e = .returned (.bool (isNan b)) ∧ w = w' := by
  have hb := neq_nan b
  go_enter Tryz.func117, Tryz.ntmps117
  go_wp2
  go_ret
  exact ⟨rfl, rfl⟩
theorem fcompare_c (w : World) (x y : Nat) (hx : isNan x = false) (hy : isNan y = false) : Calls Tryz.prog 79 #[.float .f64 x, .float .f64 y] w fun e w' => e = .returned (.int .i64 (sgI (keyF x) (keyF y))) ∧ w = w' := by
  have C1 := Lib.hid (by have := cpnan_c w x; rw [hx] at this; exact this)
  have C2 := Lib.hid (by have := cpnan_c w y; rw [hy] at this; exact this)
  have h1 := lt_key hx hy
  have h2 := gt_key hx hy
  clear hx hy
  unfold sgI
  obtain ⟨p, hp⟩ : ∃ p, p = keyF x := ⟨_, rfl⟩
  obtain ⟨q, hq⟩ : ∃ q, q = keyF y := ⟨_, rfl⟩
  rw [← hp, ← hq] at h1 h2 ⊢
  clear hp hq
  by_cases c1 : p < q
  · rw [if_pos c1]
    rw [decide_eq_true c1] at h1
    clear h2 c1
    go_enter Tryz.func79, Tryz.ntmps79
    go_wp2_with fail
    refine C1.out.mono ?_
    rintro e w' ⟨rfl, rfl⟩
    go_wp2_with fail
    refine C2.out.mono ?_
    rintro e w' ⟨rfl, rfl⟩
    go_wp2
    go_ret
    exact ⟨rfl, rfl⟩
  · rw [if_neg c1]
    rw [decide_eq_false c1] at h1
    by_cases c2 : p = q
    · rw [if_pos c2]
      rw [decide_eq_false (by omega)] at h2
      clear c1 c2
      go_enter Tryz.func79, Tryz.ntmps79
      go_wp2_with fail
      refine C1.out.mono ?_
      rintro e w' ⟨rfl, rfl⟩
      go_wp2_with fail
      refine C2.out.mono ?_
      rintro e w' ⟨rfl, rfl⟩
      go_wp2
      go_ret
      exact ⟨rfl, rfl⟩
    · rw [if_neg c2]
      rw [decide_eq_true (by omega)] at h2
      clear c1 c2
      go_enter Tryz.func79, Tryz.ntmps79
      go_wp2_with fail
      refine C1.out.mono ?_
      rintro e w' ⟨rfl, rfl⟩
      go_wp2_with fail
      refine C2.out.mono ?_
      rintro e w' ⟨rfl, rfl⟩
      go_wp2
      go_ret
      exact ⟨rfl, rfl⟩
theorem sgI_b (p q : Int) : -1 ≤ sgI p q ∧ sgI p q ≤ 1 := by unfold sgI; split <;> (try split) <;> omega
theorem fcP_b (s : Bool) (n b : Nat) : -1 ≤ fcP s n b ∧ fcP s n b ≤ 1 := by
  unfold fcP
  split
  · decide
  · exact sgI_b _ _
def tcP (fl : Bool) (f : Nat) (s : Bool) (n : Nat) (fl2 : Bool) (f2 : Nat) (s2 : Bool) (m : Nat) : Int := if nanN fl f || nanN fl2 f2 then 0 else sgI (keyN fl f s n) (keyN fl2 f2 s2 m)
def tokP (fl : Bool) (f : Nat) (fl2 : Bool) (f2 : Nat) : Bool := !(nanN fl f || nanN fl2 f2)
theorem tc_ee {s s2 : Bool} {n m f f2 : Nat} (h1 : s = true → n ≠ 0) (h2 : s2 = true → m ≠ 0) : tcP false f s n false f2 s2 m = cmpP s n s2 m := by
  have hU := U1_pos
  unfold tcP nanN
  rw [Bool.false_and, Bool.false_and, Bool.or_false, if_neg (by decide), cmpP_sgI h1 h2]
  exact sgI_scale _ _ (by omega)
theorem tc_ef {s s2 : Bool} {n m f f2 : Nat} : tcP false f s n true f2 s2 m = fcP s n f2 := by
  unfold tcP nanN fcP
  rw [Bool.false_and, Bool.true_and, Bool.false_or]
  rfl
theorem tc_fe {s s2 : Bool} {n m f f2 : Nat} : tcP true f s n false f2 s2 m = -fcP s2 m f := by
  unfold tcP nanN fcP
  rw [Bool.false_and, Bool.true_and, Bool.or_false]
  by_cases h : isNan f = true
  · rw [if_pos h, if_pos h]; rfl
  · rw [if_neg h, if_neg h]; exact sgI_neg _ _
set_option maxHeartbeats 1000000 in
set_option maxRecDepth 20000 in
theorem twcmp_c (w : World) (fl : Bool) (f : Nat) (s : Bool) (n : Nat) (fl2 : Bool) (f2 : Nat) (s2 : Bool) (m : Nat) (hf : f < 18446744073709551616) (hf2 : f2 < 18446744073709551616) (h : In w a cap (lims n)) (h2 : In w a2 cap2 (lims m)) (hn : n < B2) (hm : m < B2) (hs : s = true → n ≠ 0) (hs2 : s2 = true → m ≠ 0) :
    Calls Tryz.prog 38 #[.agg #[.bool fl, .float .f64 f, .bool s, .slice a (lims n).length cap], .agg #[.bool fl2, .float .f64 f2, .bool s2, .slice a2 (lims m).length cap2]] w fun e w' => e = .returned (.tuple #[.int .i64 (tcP fl f s n fl2 f2 s2 m), .bool (tokP fl f fl2 f2)]) ∧ Fr [] w w' := by
  obtain ⟨W1, hW1⟩ : ∃ W1, W1 = (w.alloc (.cells #[.bool fl, .float .f64 f, .bool s, .slice a (lims n).length cap] 38)).alloc (.cells #[.bool fl2, .float .f64 f2, .bool s2, .slice a2 (lims m).length cap2] 38) := ⟨_, rfl⟩
  have F1 : Hid (Fr [] w W1) := Lib.hid (by rw [hW1]; exact ((Fr.refl _ _).alloc _).alloc _)
  have I1 := h.keep F1.out
  have I2 := h2.keep F1.out
  cases fl with
  | false =>
    cases fl2 with
    | false =>
      have CE := Lib.hid (ecmp_c W1 s s2 n m I1 I2)
      have e2 : tokP false f false f2 = true := rfl
      rw [tc_ee hs hs2, e2]
      obtain ⟨c, hc⟩ : ∃ c, c = cmpP s n s2 m := ⟨_, rfl⟩
      rw [← hc] at CE ⊢
      clear I1 I2 h h2 hn hm hs hs2 hf hf2 hc e2
      generalize (lims n).length = l at *
      generalize (lims m).length = l2 at *
      go_enter Tryz.func38, Tryz.ntmps38
      go_wp2_with fail
      rw [← hW1]
      refine CE.out.mono ?_
      rintro e w2 ⟨rfl, F2⟩
      go_wp2
      go_ret2
      exact ⟨rfl, F1.out.same F2⟩
    | true =>
      have CE := Lib.hid (flcmp_c W1 s n f2 I1 hn hs hf2)
      have e2 : tokP false f true f2 = !isNan f2 := rfl
      rw [tc_ef, e2]
      obtain ⟨c, hc⟩ : ∃ c, c = fcP s n f2 := ⟨_, rfl⟩
      obtain ⟨o, ho⟩ : ∃ o, o = !isNan f2 := ⟨_, rfl⟩
      rw [← hc, ← ho] at CE ⊢
      clear I1 I2 h h2 hn hm hs hs2 hf hf2 hc ho e2
      generalize (lims n).length = l at *
      generalize (lims m).length = l2 at *
      go_enter Tryz.func38, Tryz.ntmps38
      go_wp2_with fail
      rw [← hW1]
      refine CE.out.mono ?_
      rintro e w2 ⟨rfl, F2⟩
      go_wp2
      go_ret2
      exact ⟨rfl, F1.out.same F2⟩
  | true =>
    cases fl2 with
    | false =>
      have CE := Lib.hid (flcmp_c W1 s2 m f I2 hm hs2 hf)
      have e2 : tokP true f false f2 = !isNan f := by unfold tokP nanN; simp
      have hcb := fcP_b s2 m f
      rw [tc_fe, e2]
      obtain ⟨c, hc⟩ : ∃ c, c = fcP s2 m f := ⟨_, rfl⟩
      obtain ⟨o, ho⟩ : ∃ o, o = !isNan f := ⟨_, rfl⟩
      rw [← hc, ← ho] at CE ⊢
      rw [← hc] at hcb
      obtain ⟨hc1, hc2⟩ := hcb
      clear I1 I2 h h2 hn hm hs hs2 hf hf2 hc ho e2
      generalize (lims n).length = l at *
      generalize (lims m).length = l2 at *
      go_enter Tryz.func38, Tryz.ntmps38
      go_wp2_with fail
      rw [← hW1]
      refine CE.out.mono ?_
      rintro e w2 ⟨rfl, F2⟩
      go_wp2
      go_ret2
      exact ⟨rfl, F1.out.same F2⟩
    | true =>
      have hb1 := neq_nan f
      have hb2 := neq_nan f2
      cases g1 : isNan f with
      | true =>
        have e1 : tcP true f s n true f2 s2 m = 0 := by unfold tcP nanN; rw [g1]; rfl
        have e2 : tokP true f true f2 = false := by unfold tokP nanN; rw [g1]; rfl
        rw [e1, e2]
        rw [g1] at hb1
        clear I1 I2 h h2 hn hm hs hs2 hf hf2 e1 e2 g1 hb2
        generalize (lims n).length = l at *
        generalize (lims m).length = l2 at *
        go_enter Tryz.func38, Tryz.ntmps38
        go_wp2
        go_ret2
        rw [← hW1]
        exact ⟨rfl, F1.out⟩
      | false =>
        rw [g1] at hb1
        cases g2 : isNan f2 with
        | true =>
          have e1 : tcP true f s n true f2 s2 m = 0 := by unfold tcP nanN; rw [g1, g2]; rfl
          have e2 : tokP true f true f2 = false := by unfold tokP nanN; rw [g1, g2]; rfl
          rw [e1, e2]
          rw [g2] at hb2
          clear I1 I2 h h2 hn hm hs hs2 hf hf2 e1 e2 g1 g2
          generalize (lims n).length = l at *
          generalize (lims m).length = l2 at *
          go_enter Tryz.func38, Tryz.ntmps38
          go_wp2
          go_ret2
          rw [← hW1]
          exact ⟨rfl, F1.out⟩
        | false =>
          have e1 : tcP true f s n true f2 s2 m = sgI (keyF f) (keyF f2) := by unfold tcP nanN; rw [g1, g2]; rfl
          have e2 : tokP true f true f2 = true := by unfold tokP nanN; rw [g1, g2]; rfl
          have CE := Lib.hid (fcompare_c W1 f f2 g1 g2)
          rw [e1, e2]
          rw [g2] at hb2
          obtain ⟨c, hc⟩ : ∃ c, c = sgI (keyF f) (keyF f2) := ⟨_, rfl⟩
          rw [← hc] at CE ⊢
          clear I1 I2 h h2 hn hm hs hs2 hf hf2 e1 e2 g1 g2 hc
          generalize (lims n).length = l at *
          generalize (lims m).length = l2 at *
          go_enter Tryz.func38, Tryz.ntmps38
          go_wp2_with fail
          rw [← hW1]
          clear hW1
          refine CE.out.mono ?_
          rintro e w2 ⟨rfl, rfl⟩
          go_wp2
          go_ret2
          exact ⟨rfl, F1.out⟩
end Go.Proofs.YtcjkgnafpkkjmaaGreatDoor
namespace Go.Proofs.YtcjkgnafpkkjmaaGreatDoor
open Go.ChangeShapes Go.WideShapes Go.RowKit
variable {w w' : World} {a a2 : Option Addr} {cap cap2 : Nat}
theorem lims_1 : lims 1 = [1] := lims_of 1 [1] (by decide) rfl (by decide)
theorem lims_2 : lims 2 = [2] := lims_of 2 [2] (by decide) rfl (by decide)
theorem lims_3 : lims 3 = [3] := lims_of 3 [3] (by decide) rfl (by decide)
theorem lims_6 : lims 6 = [6] := lims_of 6 [6] (by decide) rfl (by decide)
theorem value_one (w : World) (h : In w a cap [1]) : Calls Tryz.prog 76 #[.agg #[.bool false, .float .f64 0, .bool false, .slice a 1 cap]] w fun e w' => e = .returned (.float .f64 4607182418800017408) ∧ Fr [] w w' := by
  have := twvalue_c (a := a) (cap := cap) w false 0 false 1 (by rw [lims_1]; exact h) (by rw [lims_1]; decide)
  rw [lims_1] at this
  exact this
theorem value_two (w : World) (h : In w a cap [2]) : Calls Tryz.prog 76 #[.agg #[.bool false, .float .f64 0, .bool false, .slice a 1 cap]] w fun e w' => e = .returned (.float .f64 4611686018427387904) ∧ Fr [] w w' := by
  have := twvalue_c (a := a) (cap := cap) w false 0 false 2 (by rw [lims_2]; exact h) (by rw [lims_2]; decide)
  rw [lims_2] at this
  exact this
theorem value_fl (w : World) (f : Nat) : Calls Tryz.prog 76 #[.agg #[.bool true, .float .f64 f, .bool false, .slice none 0 0]] w fun e w' => e = .returned (.float .f64 f) ∧ Fr [] w w' :=
  twvalue_c (a := none) (cap := 0) w true f false 0 (Nw.nil w 0).in (by decide)
theorem add_half (w : World) (t : TypeId) : (binOp .add t (.float .f64 4607182418800017408) (.float .f64 4602678819172646912)).run Tryz.prog w = .ok (.float .f64 4609434218613702656) w :=
  run_float_arith w .add t .f64 _ _ _ (by decide)
theorem quo_half (w : World) (t : TypeId) : (binOp .quo t (.float .f64 4607182418800017408) (.float .f64 4611686018427387904)).run Tryz.prog w = .ok (.float .f64 4602678819172646912) w :=
  run_float_arith w .quo t .f64 _ _ _ (by decide)
theorem add1_c (w : World) : Calls Tryz.prog 71 #[.float .f64 4607182418800017408, .float .f64 4602678819172646912] w fun e w' => e = .returned (.float .f64 4609434218613702656) ∧ w = w' := by
  have ha := fun t w => add_half w t
  go_enter Tryz.func71, Tryz.ntmps71
  go_wp2
  go_ret
  exact ⟨rfl, rfl⟩
set_option maxRecDepth 20000 in
theorem do_half (w : World) (h : In w a cap [1]) (x0 : Value) : Calls Tryz.prog 72 #[.agg #[x0, .func (.func 71) #[] #[]], .agg #[.bool false, .float .f64 0, .bool false, .slice a 1 cap], .agg #[.bool true, .float .f64 4602678819172646912, .bool false, .slice none 0 0]] w fun e w' => e = .returned (.tuple #[.agg #[.bool true, .float .f64 4609434218613702656, .bool false, .slice none 0 0], .int .i64 0]) ∧ Fr [] w w' := by
  obtain ⟨W1, hW1⟩ : ∃ W1, W1 = (((w.alloc (.cells #[x0, .func (.func 71) #[] #[]] 100)).alloc (.cells #[.bool false, .float .f64 0, .bool false, .slice a 1 cap] 38)).alloc (.cells #[.bool true, .float .f64 4602678819172646912, .bool false, .slice none 0 0] 38)).alloc (.cells #[.bool false, .float .f64 0, .bool false, .slice none 0 0] 38) := ⟨_, rfl⟩
  obtain ⟨k, hk⟩ : ∃ k, k = w.heap.size := ⟨_, rfl⟩
  have F1 : Hid (Fr [] w W1) := Lib.hid (by rw [hW1]; exact ((((Fr.refl _ _).alloc _).alloc _).alloc _).alloc _)
  have B0 : blk W1 k = some (.cells #[x0, .func (.func 71) #[] #[]] 100 (0, 0)) := by
    rw [hW1, hk]
    simp only [blk_alloc, size_alloc]
    rw [if_neg (by omega), if_neg (by omega), if_neg (by omega), if_pos trivial]
  have B1 : BxN W1 (k + 1) (.bool false) (.float .f64 0) (.bool false) (.slice a 1 cap) := by
    unfold BxN
    rw [hW1, hk]
    simp only [blk_alloc, size_alloc]
    rw [if_neg (by omega), if_neg (by omega), if_pos trivial]
  have B2 : BxN W1 (k + 1 + 1) (.bool true) (.float .f64 4602678819172646912) (.bool false) (.slice none 0 0) := by
    unfold BxN
    rw [hW1, hk]
    simp only [blk_alloc, size_alloc]
    rw [if_neg (by omega), if_pos trivial]
  have B3 : BxN W1 (k + 1 + 1 + 1) (.bool false) (.float .f64 0) (.bool false) (.slice none 0 0) := by
    unfold BxN
    rw [hW1, hk]
    simp only [blk_alloc, size_alloc]
    rw [if_pos trivial]
  have KC : Hid (∀ wa : World, Fr [k + 1 + 1 + 1] W1 wa → wa.cell? ⟨k, 1, none⟩ = some (.func (.func 71) #[] #[]) ∧ wa.cell? ⟨k + 1, 0, none⟩ = some (.bool false) ∧ wa.cell? ⟨k + 1, 1, none⟩ = some (.float .f64 0) ∧ wa.cell? ⟨k + 1, 2, none⟩ = some (.bool false) ∧ wa.cell? ⟨k + 1, 3, none⟩ = some (.slice a 1 cap) ∧ wa.cell? ⟨k + 1 + 1, 0, none⟩ = some (.bool true) ∧ wa.cell? ⟨k + 1 + 1, 1, none⟩ = some (.float .f64 4602678819172646912) ∧ wa.cell? ⟨k + 1 + 1, 2, none⟩ = some (.bool false) ∧ wa.cell? ⟨k + 1 + 1, 3, none⟩ = some (.slice none 0 0)) := Lib.hid (fun wa (hF : Fr [k + 1 + 1 + 1] W1 wa) => And.intro (cell_of (hF.at B0 (by simp; try omega)) (i := 1) rfl) (And.intro (cell_of (hF.at B1 (by simp; try omega)) (i := 0) rfl) (And.intro (cell_of (hF.at B1 (by simp; try omega)) (i := 1) rfl) (And.intro (cell_of (hF.at B1 (by simp; try omega)) (i := 2) rfl) (And.intro (cell_of (hF.at B1 (by simp; try omega)) (i := 3) rfl) (And.intro (cell_of (hF.at B2 (by simp; try omega)) (i := 0) rfl) (And.intro (cell_of (hF.at B2 (by simp; try omega)) (i := 1) rfl) (And.intro (cell_of (hF.at B2 (by simp; try omega)) (i := 2) rfl) (cell_of (hF.at B2 (by simp; try omega)) (i := 3) rfl)))))))))
  have HM : k + 1 + 1 + 1 ∈ [k + 1 + 1 + 1] := by simp
  have PK := Lib.hid (fun wa (hF : Fr [] W1 wa) => B3.fr hF)
  have CV1 := Lib.hid (fun wa (hF : Fr [] W1 wa) => value_one wa (h.keep (F1.out.same hF)))
  have CV2 := Lib.hid (fun wa => value_fl wa 4602678819172646912)
  have c0 := cell_of B0 (i := 1) rfl
  have b0 := B1.c0
  have b1 := B1.c1
  have b2 := B1.c2
  have b3 := B1.c3
  have d0 := B2.c0
  have d1 := B2.c1
  have d2 := B2.c2
  have d3 := B2.c3
  have T1 : Hid True := Lib.hid trivial
  have HK := Lib.hid hk
  clear B0 B1 B2 B3 h
  have hsf := sf_run
  go_enter Tryz.func72, Tryz.ntmps72
  go_wp2_with fail
  rw [← hW1, ← hk]
  clear hW1 hk
  go_region_held3 (fun W => W.cell? ⟨k, 1, none⟩ = some (.func (.func 71) #[] #[]) ∧ W.cell? ⟨k + 1, 0, none⟩ = some (.bool false) ∧ W.cell? ⟨k + 1, 1, none⟩ = some (.float .f64 0) ∧ W.cell? ⟨k + 1, 2, none⟩ = some (.bool false) ∧ W.cell? ⟨k + 1, 3, none⟩ = some (.slice a 1 cap) ∧ W.cell? ⟨k + 1 + 1, 0, none⟩ = some (.bool true) ∧ W.cell? ⟨k + 1 + 1, 1, none⟩ = some (.float .f64 4602678819172646912) ∧ W.cell? ⟨k + 1 + 1, 2, none⟩ = some (.bool false) ∧ W.cell? ⟨k + 1 + 1, 3, none⟩ = some (.slice none 0 0)) (with_reducible first | assumption | exact KC.out _ GS | exact KC.out _ (Fr.refl _ _).drew | exact KC.out _ (Fr.setCell (Fr.setCell (Fr.setCell (Fr.setCell GS (.inl HM) _) (.inl HM) _) (.inl HM) _) (.inl HM) _)) (first | (go_at_call 76; first | (have T2 := T1; clear T1; refine (CV1.out _ (by repeat (first | exact Fr.refl _ _ | exact GF | apply Fr.drew))).mono ?_; rintro e w2 ⟨rfl, F2⟩; have GF : Fr [] W1 w2 := Fr.same (by repeat (first | exact Fr.refl _ _ | exact GF | apply Fr.drew)) F2; have GS : Fr [k + 1 + 1 + 1] W1 w2 := GF.mono (fun _ h => by cases h)) | (refine (CV2.out _).mono ?_; rintro e w2 ⟨rfl, F2⟩; have GF : Fr [] W1 w2 := Fr.same (by repeat (first | exact Fr.refl _ _ | exact GF | apply Fr.drew)) F2; have GS : Fr [k + 1 + 1 + 1] W1 w2 := GF.mono (fun _ h => by cases h))) | (go_at_call 71; refine (add1_c _).mono ?_; rintro e w2 ⟨rfl, rfl⟩) | (go_at_call 36; refine (twflo_c _ _).mono ?_; rintro e w2 ⟨rfl, F2⟩; have GF : Fr [] W1 w2 := Fr.same (by repeat (first | exact Fr.refl _ _ | exact GF | apply Fr.drew)) F2; have GS : Fr [k + 1 + 1 + 1] W1 w2 := GF.mono (fun _ h => by cases h); have PB := PK.out _ GF; have q0 := PB.c0; have q1 := PB.c1; have q2 := PB.c2; have q3 := PB.c3; have p0 := PB.f 0; have p1 := PB.f 1; have p2 := PB.f 2; have p3 := PB.f 3; have pl := PB.lt))
  go_wp2_with fail
  have hkw : w.heap.size ≤ k + 1 + 1 + 1 := by have := HK.out; omega
  refine bodyPost_ret (ret_nv2 rfl _ _ _ _ _ _ _ rfl (PB.set _ _ _ _)) rfl ?_
  exact ⟨rfl, (F1.out.same GF).set4 hkw _ _ _ _⟩
end Go.Proofs.YtcjkgnafpkkjmaaGreatDoor
namespace Go.Proofs.YtcjkgnafpkkjmaaGreatDoor
open Go.ChangeShapes Go.WideShapes Go.RowKit
variable {w w' : World} {a a2 : Option Addr} {cap cap2 : Nat}
set_option maxRecDepth 20000 in
theorem twadd_half (w : World) (h : In w a cap [1]) : Calls Tryz.prog 34 #[.agg #[.bool false, .float .f64 0, .bool false, .slice a 1 cap], .agg #[.bool true, .float .f64 4602678819172646912, .bool false, .slice none 0 0]] w fun e w' => e = .returned (.tuple #[.agg #[.bool true, .float .f64 4609434218613702656, .bool false, .slice none 0 0], .int .i64 0]) ∧ Fr [] w w' := by
  obtain ⟨W1, hW1⟩ : ∃ W1, W1 = ((w.alloc (.cells #[.bool false, .float .f64 0, .bool false, .slice a 1 cap] 38)).alloc (.cells #[.bool true, .float .f64 4602678819172646912, .bool false, .slice none 0 0] 38)).alloc (.cells #[.bool false, .float .f64 0, .bool false, .slice none 0 0] 38) := ⟨_, rfl⟩
  obtain ⟨k, hk⟩ : ∃ k, k = w.heap.size := ⟨_, rfl⟩
  have F1 : Hid (Fr [] w W1) := Lib.hid (by rw [hW1]; exact (((Fr.refl _ _).alloc _).alloc _).alloc _)
  have B3 : Hid (BxN W1 (k + 1 + 1) (.bool false) (.float .f64 0) (.bool false) (.slice none 0 0)) := Lib.hid (by
    unfold BxN
    rw [hW1, hk]
    simp only [blk_alloc, size_alloc]
    rw [if_pos trivial])
  have CD := Lib.hid (do_half W1 (h.keep F1.out) (.func (.func 70) #[] #[]))
  have HK := Lib.hid hk
  have hsf := sf_run
  clear h
  go_enter Tryz.func34, Tryz.ntmps34
  go_wp2_with fail
  rw [← hW1, ← hk]
  clear hW1 hk
  refine CD.out.mono ?_
  rintro e w2 ⟨rfl, F2⟩
  have P2 := Lib.hid (B3.out.fr F2)
  have F2 := Lib.hid (F1.out.same F2)
  clear CD F1 B3
  have q0 := P2.out.c0
  have q1 := P2.out.c1
  have q2 := P2.out.c2
  have q3 := P2.out.c3
  have p0 := P2.out.f 0
  have p1 := P2.out.f 1
  have p2 := P2.out.f 2
  have p3 := P2.out.f 3
  have pl := P2.out.lt
  go_wp2_with fail
  have hkw : w.heap.size ≤ k + 1 + 1 := by have := HK.out; omega
  refine bodyPost_ret (ret_nv2 rfl _ _ _ _ _ _ _ rfl (P2.out.set _ _ _ _)) rfl ?_
  exact ⟨rfl, F2.out.set4 hkw _ _ _ _⟩
theorem quo_63 (w : World) (h : In w a cap [6]) (h2 : In w a2 cap2 [3]) : Calls Tryz.prog 75 #[.agg #[.bool false, .slice a 1 cap], .agg #[.bool false, .slice a2 1 cap2]] w fun e w' => ∃ a3 c3 a4 c4, e = .returned (.tuple #[.agg #[.bool false, .slice a3 1 c3], .agg #[.bool false, .slice a4 0 c4], .int .i64 0]) ∧ In w' a3 c3 [2] ∧ Fr [] w w' := by
  have := equo_c (a := a) (b := a2) (cap := cap) (cap2 := cap2) w false false 6 3 (by rw [lims_6]; exact h) (by rw [lims_3]; exact h2) (by decide +kernel) (by decide +kernel)
  rw [lims_6, lims_3] at this
  refine this.mono ?_
  intro e w' hq
  unfold QuoI at hq
  have e1 : sg (false != false) 2 = false := by decide
  have e2 : sg false 0 = false := by decide
  rw [if_neg (by decide), show 6 / 3 = 2 by decide, show 6 % 3 = 0 by decide, lims_2, e1, e2] at hq
  obtain ⟨a4, c4, a5, c5, rfl, I4, _, F4⟩ := hq
  exact ⟨a4, c4, a5, c5, rfl, I4, F4⟩
theorem quo_12 (w : World) (h : In w a cap [1]) (h2 : In w a2 cap2 [2]) : Calls Tryz.prog 75 #[.agg #[.bool false, .slice a 1 cap], .agg #[.bool false, .slice a2 1 cap2]] w fun e w' => ∃ a3 c3 a4 c4, e = .returned (.tuple #[.agg #[.bool false, .slice a3 0 c3], .agg #[.bool false, .slice a4 1 c4], .int .i64 0]) ∧ Fr [] w w' := by
  have := equo_c (a := a) (b := a2) (cap := cap) (cap2 := cap2) w false false 1 2 (by rw [lims_1]; exact h) (by rw [lims_2]; exact h2) (by decide +kernel) (by decide +kernel)
  rw [lims_1, lims_2] at this
  refine this.mono ?_
  intro e w' hq
  unfold QuoI at hq
  have e1 : sg (false != false) 0 = false := by decide
  have e2 : sg false 1 = false := by decide
  rw [if_neg (by decide), show 1 / 2 = 0 by decide, show 1 % 2 = 1 by decide, lims_1, e1, e2] at hq
  obtain ⟨a4, c4, a5, c5, rfl, _, _, F4⟩ := hq
  exact ⟨a4, c4, a5, c5, rfl, F4⟩
set_option maxRecDepth 20000 in
theorem twdiv_63 (w : World) (h : In w a cap [6]) (h2 : In w a2 cap2 [3]) : Calls Tryz.prog 37 #[.agg #[.bool false, .float .f64 0, .bool false, .slice a 1 cap], .agg #[.bool false, .float .f64 0, .bool false, .slice a2 1 cap2]] w fun e w' => ∃ a3 c3, e = .returned (.tuple #[.agg #[.bool false, .float .f64 0, .bool false, .slice a3 1 c3], .int .i64 0]) ∧ In w' a3 c3 [2] ∧ Fr [] w w' := by
  obtain ⟨W1, hW1⟩ : ∃ W1, W1 = ((w.alloc (.cells #[.bool false, .float .f64 0, .bool false, .slice a 1 cap] 38)).alloc (.cells #[.bool false, .float .f64 0, .bool false, .slice a2 1 cap2] 38)).alloc (.cells #[.bool false, .float .f64 0, .bool false, .slice none 0 0] 38) := ⟨_, rfl⟩
  obtain ⟨k, hk⟩ : ∃ k, k = w.heap.size := ⟨_, rfl⟩
  have F1 : Hid (Fr [] w W1) := Lib.hid (by rw [hW1]; exact (((Fr.refl _ _).alloc _).alloc _).alloc _)
  have B1 : Hid (BxN W1 k (.bool false) (.float .f64 0) (.bool false) (.slice a 1 cap)) := Lib.hid (by
    unfold BxN
    rw [hW1, hk]
    simp only [blk_alloc, size_alloc]
    rw [if_neg (by omega), if_neg (by omega), if_pos trivial])
  have B2 : Hid (BxN W1 (k + 1) (.bool false) (.float .f64 0) (.bool false) (.slice a2 1 cap2)) := Lib.hid (by
    unfold BxN
    rw [hW1, hk]
    simp only [blk_alloc, size_alloc]
    rw [if_neg (by omega), if_pos trivial])
  have B3 : Hid (BxN W1 (k + 1 + 1) (.bool false) (.float .f64 0) (.bool false) (.slice none 0 0)) := Lib.hid (by
    unfold BxN
    rw [hW1, hk]
    simp only [blk_alloc, size_alloc]
    rw [if_pos trivial])
  have HI := Lib.hid h
  have HI2 := Lib.hid h2
  have CZ := Lib.hid (twzero_c (a := a2) (cap := cap2) W1 false 0 false 1)
  have HK := Lib.hid hk
  have hsf := sf_run
  clear h h2
  go_enter Tryz.func37, Tryz.ntmps37
  go_wp2_with fail
  rw [← hW1, ← hk]
  clear hW1 hk
  refine CZ.out.mono ?_
  rintro e w2 ⟨rfl, F2⟩
  have P1 := Lib.hid (B1.out.fr F2)
  have P2 := Lib.hid (B2.out.fr F2)
  have P3 := Lib.hid (B3.out.fr F2)
  have F2 := Lib.hid (F1.out.same F2)
  clear CZ F1 B1 B2 B3
  have CQ := Lib.hid (quo_63 w2 (HI.out.keep F2.out) (HI2.out.keep F2.out))
  have b0 := P1.out.c0
  have b1 := P1.out.c1
  have b2 := P1.out.c2
  have b3 := P1.out.c3
  have d0 := P2.out.c0
  have d1 := P2.out.c1
  have d2 := P2.out.c2
  have d3 := P2.out.c3
  have pl1 := P1.out.lt
  have pl2 := P2.out.lt
  clear HI HI2
  go_wp2_with fail
  refine CQ.out.mono ?_
  rintro e w4 ⟨a4, c4, a5, c5, rfl, I4, F4⟩
  have P4 := Lib.hid (P3.out.fr F4)
  have I4 := Lib.hid I4
  have F4 := Lib.hid (F2.out.same F4)
  clear CQ F2 P1 P2 P3 b0 b1 b2 b3 d0 d1 d2 d3 pl1 pl2
  have G5 : Hid (Fr [] w4 ((w4.alloc (.cells #[.bool false, .slice a4 1 c4] 36)).alloc (.cells #[.bool false, .slice a5 0 c5] 36))) := Lib.hid (((Fr.refl _ _).alloc _).alloc _)
  go_wp2_with fail
  refine (twwhole_c _ false 1).mono ?_
  rintro e w6 ⟨rfl, F6⟩
  have G6 := Lib.hid (G5.out.same F6)
  clear G5 F6
  have P6 := Lib.hid (P4.out.fr G6.out)
  have I6 := Lib.hid (I4.out.keep G6.out)
  have F6 := Lib.hid (F4.out.same G6.out)
  clear P4 I4 F4 G6
  have q0 := P6.out.c0
  have q1 := P6.out.c1
  have q2 := P6.out.c2
  have q3 := P6.out.c3
  have p0 := P6.out.f 0
  have p1 := P6.out.f 1
  have p2 := P6.out.f 2
  have p3 := P6.out.f 3
  have pl := P6.out.lt
  go_wp2_with fail
  have hkw : w.heap.size ≤ k + 1 + 1 := by have := HK.out; omega
  refine bodyPost_ret (ret_nv2 rfl _ _ _ _ _ _ _ rfl (P6.out.set _ _ _ _)) rfl ?_
  exact ⟨a4, c4, rfl, I6.out.set4 P6.out _ _ _ _, F6.out.set4 hkw _ _ _ _⟩
set_option maxRecDepth 20000 in
theorem twdiv_12 (w : World) (h : In w a cap [1]) (h2 : In w a2 cap2 [2]) : Calls Tryz.prog 37 #[.agg #[.bool false, .float .f64 0, .bool false, .slice a 1 cap], .agg #[.bool false, .float .f64 0, .bool false, .slice a2 1 cap2]] w fun e w' => e = .returned (.tuple #[.agg #[.bool true, .float .f64 4602678819172646912, .bool false, .slice none 0 0], .int .i64 0]) ∧ Fr [] w w' := by
  obtain ⟨W1, hW1⟩ : ∃ W1, W1 = ((w.alloc (.cells #[.bool false, .float .f64 0, .bool false, .slice a 1 cap] 38)).alloc (.cells #[.bool false, .float .f64 0, .bool false, .slice a2 1 cap2] 38)).alloc (.cells #[.bool false, .float .f64 0, .bool false, .slice none 0 0] 38) := ⟨_, rfl⟩
  obtain ⟨k, hk⟩ : ∃ k, k = w.heap.size := ⟨_, rfl⟩
  have F1 : Hid (Fr [] w W1) := Lib.hid (by rw [hW1]; exact (((Fr.refl _ _).alloc _).alloc _).alloc _)
  have B1 : Hid (BxN W1 k (.bool false) (.float .f64 0) (.bool false) (.slice a 1 cap)) := Lib.hid (by
    unfold BxN
    rw [hW1, hk]
    simp only [blk_alloc, size_alloc]
    rw [if_neg (by omega), if_neg (by omega), if_pos trivial])
  have B2 : Hid (BxN W1 (k + 1) (.bool false) (.float .f64 0) (.bool false) (.slice a2 1 cap2)) := Lib.hid (by
    unfold BxN
    rw [hW1, hk]
    simp only [blk_alloc, size_alloc]
    rw [if_neg (by omega), if_pos trivial])
  have B3 : Hid (BxN W1 (k + 1 + 1) (.bool false) (.float .f64 0) (.bool false) (.slice none 0 0)) := Lib.hid (by
    unfold BxN
    rw [hW1, hk]
    simp only [blk_alloc, size_alloc]
    rw [if_pos trivial])
  have HI := Lib.hid h
  have HI2 := Lib.hid h2
  have CZ := Lib.hid (twzero_c (a := a2) (cap := cap2) W1 false 0 false 1)
  have HK := Lib.hid hk
  have hsf := sf_run
  clear h h2
  go_enter Tryz.func37, Tryz.ntmps37
  go_wp2_with fail
  rw [← hW1, ← hk]
  clear hW1 hk
  refine CZ.out.mono ?_
  rintro e w2 ⟨rfl, F2⟩
  have P1 := Lib.hid (B1.out.fr F2)
  have P2 := Lib.hid (B2.out.fr F2)
  have P3 := Lib.hid (B3.out.fr F2)
  have F2 := Lib.hid (F1.out.same F2)
  clear CZ F1 B1 B2 B3
  have CQ := Lib.hid (quo_12 w2 (HI.out.keep F2.out) (HI2.out.keep F2.out))
  have b0 := P1.out.c0
  have b1 := P1.out.c1
  have b2 := P1.out.c2
  have b3 := P1.out.c3
  have d0 := P2.out.c0
  have d1 := P2.out.c1
  have d2 := P2.out.c2
  have d3 := P2.out.c3
  have pl1 := P1.out.lt
  have pl2 := P2.out.lt
  go_wp2_with fail
  refine CQ.out.mono ?_
  rintro e w4 ⟨a4, c4, a5, c5, rfl, F4⟩
  obtain ⟨W5, hW5⟩ : ∃ W5, W5 = (w4.alloc (.cells #[.bool false, .slice a4 0 c4] 36)).alloc (.cells #[.bool false, .slice a5 1 c5] 36) := ⟨_, rfl⟩
  have G5 : Hid (Fr [] w4 W5) := Lib.hid (by rw [hW5]; exact ((Fr.refl _ _).alloc _).alloc _)
  have B1 := Lib.hid ((P1.out.fr F4).fr G5.out)
  have B2 := Lib.hid ((P2.out.fr F4).fr G5.out)
  have B3 := Lib.hid ((P3.out.fr F4).fr G5.out)
  have F5 := Lib.hid ((F2.out.same F4).same G5.out)
  clear CQ F2 P1 P2 P3 b0 b1 b2 b3 d0 d1 d2 d3 pl1 pl2 G5 F4
  go_wp2_with fail
  rw [← hW5]
  clear hW5
  have KC : Hid (∀ wa : World, Fr [k + 1 + 1] W5 wa → wa.cell? ⟨k, 0, none⟩ = some (.bool false) ∧ wa.cell? ⟨k, 1, none⟩ = some (.float .f64 0) ∧ wa.cell? ⟨k, 2, none⟩ = some (.bool false) ∧ wa.cell? ⟨k, 3, none⟩ = some (.slice a 1 cap) ∧ wa.cell? ⟨k + 1, 0, none⟩ = some (.bool false) ∧ wa.cell? ⟨k + 1, 1, none⟩ = some (.float .f64 0) ∧ wa.cell? ⟨k + 1, 2, none⟩ = some (.bool false) ∧ wa.cell? ⟨k + 1, 3, none⟩ = some (.slice a2 1 cap2)) := Lib.hid (fun wa hF => ⟨cell_of (hF.at B1.out (by simp; try omega)) (i := 0) rfl, cell_of (hF.at B1.out (by simp; try omega)) (i := 1) rfl, cell_of (hF.at B1.out (by simp; try omega)) (i := 2) rfl, cell_of (hF.at B1.out (by simp; try omega)) (i := 3) rfl, cell_of (hF.at B2.out (by simp; try omega)) (i := 0) rfl, cell_of (hF.at B2.out (by simp; try omega)) (i := 1) rfl, cell_of (hF.at B2.out (by simp; try omega)) (i := 2) rfl, cell_of (hF.at B2.out (by simp; try omega)) (i := 3) rfl⟩)
  have HM : k + 1 + 1 ∈ [k + 1 + 1] := by simp
  have PK := Lib.hid (fun wa (hF : Fr [] W5 wa) => B3.out.fr hF)
  have CV1 := Lib.hid (fun wa (hF : Fr [] W5 wa) => value_one wa (HI.out.keep (F5.out.same hF)))
  have CV2 := Lib.hid (fun wa (hF : Fr [] W5 wa) => value_two wa (HI2.out.keep (F5.out.same hF)))
  have b0 := B1.out.c0
  have b1 := B1.out.c1
  have b2 := B1.out.c2
  have b3 := B1.out.c3
  have d0 := B2.out.c0
  have d1 := B2.out.c1
  have d2 := B2.out.c2
  have d3 := B2.out.c3
  have T1 : Hid True := Lib.hid trivial
  have hq := fun t w => quo_half w t
  clear B1 B2 B3 HI HI2
  go_region_held3 (fun W => W.cell? ⟨k, 0, none⟩ = some (.bool false) ∧ W.cell? ⟨k, 1, none⟩ = some (.float .f64 0) ∧ W.cell? ⟨k, 2, none⟩ = some (.bool false) ∧ W.cell? ⟨k, 3, none⟩ = some (.slice a 1 cap) ∧ W.cell? ⟨k + 1, 0, none⟩ = some (.bool false) ∧ W.cell? ⟨k + 1, 1, none⟩ = some (.float .f64 0) ∧ W.cell? ⟨k + 1, 2, none⟩ = some (.bool false) ∧ W.cell? ⟨k + 1, 3, none⟩ = some (.slice a2 1 cap2)) (with_reducible first | assumption | exact KC.out _ GS | exact KC.out _ (Fr.refl _ _).drew | exact KC.out _ (Fr.setCell (Fr.setCell (Fr.setCell (Fr.setCell GS (.inl HM) _) (.inl HM) _) (.inl HM) _) (.inl HM) _)) (first | (go_at_call 76; first | (have T2 := T1; clear T1; refine (CV1.out _ (by repeat (first | exact Fr.refl _ _ | exact GF | apply Fr.drew))).mono ?_; rintro e w2 ⟨rfl, F2⟩; have GF : Fr [] W5 w2 := Fr.same (by repeat (first | exact Fr.refl _ _ | exact GF | apply Fr.drew)) F2; have GS : Fr [k + 1 + 1] W5 w2 := GF.mono (fun _ h => by cases h)) | (refine (CV2.out _ (by repeat (first | exact Fr.refl _ _ | exact GF | apply Fr.drew))).mono ?_; rintro e w2 ⟨rfl, F2⟩; have GF : Fr [] W5 w2 := Fr.same (by repeat (first | exact Fr.refl _ _ | exact GF | apply Fr.drew)) F2; have GS : Fr [k + 1 + 1] W5 w2 := GF.mono (fun _ h => by cases h))) | (go_at_call 36; refine (twflo_c _ _).mono ?_; rintro e w2 ⟨rfl, F2⟩; have GF : Fr [] W5 w2 := Fr.same (by repeat (first | exact Fr.refl _ _ | exact GF | apply Fr.drew)) F2; have GS : Fr [k + 1 + 1] W5 w2 := GF.mono (fun _ h => by cases h); have PB := PK.out _ GF; have q0 := PB.c0; have q1 := PB.c1; have q2 := PB.c2; have q3 := PB.c3; have p0 := PB.f 0; have p1 := PB.f 1; have p2 := PB.f 2; have p3 := PB.f 3; have pl := PB.lt))
  go_wp2_with fail
  have hkw : w.heap.size ≤ k + 1 + 1 := by have := HK.out; omega
  refine bodyPost_ret (ret_nv2 rfl _ _ _ _ _ _ _ rfl (PB.set _ _ _ _)) rfl ?_
  exact ⟨rfl, (F5.out.same GF).set4 hkw _ _ _ _⟩
end Go.Proofs.YtcjkgnafpkkjmaaGreatDoor
namespace Go.Proofs.YtcjkgnafpkkjmaaGreatDoor
open Go.ChangeShapes Go.WideShapes Go.RowKit
variable {w w' : World} {a a2 : Option Addr} {cap cap2 : Nat}
theorem int_c (w : World) (z : Int) (n l : Nat) (L : List Nat) (h1 : -9223372036854775808 ≤ z) (h2 : z ≤ 9223372036854775807) (hz : 0 ≤ z) (hn : z.natAbs = n) (hL : lims n = L) (hl : L.length = l) : Calls Tryz.prog 35 #[.int .i64 z] w fun e w' => ∃ a cap, e = .returned (.agg #[.bool false, .float .f64 0, .bool false, .slice a l cap]) ∧ In w' a cap L ∧ Fr [] w w' := by
  have := twint_c w z h1 h2
  rw [decide_eq_false (by omega), hn, hL, hl] at this
  exact this
theorem twtext_fl (w : World) (f : Nat) (t : ByteArray) (C : ∀ w1, Fr [] w w1 → Calls Tryz.prog 9 #[.float .f64 f] w1 fun e w' => e = .returned (.string t) ∧ Fr [] w1 w') : Calls Tryz.prog 16 #[.agg #[.bool true, .float .f64 f, .bool false, .slice none 0 0]] w fun e w' => e = .returned (.string t) ∧ Fr [] w w' := by
  obtain ⟨W1, hW1⟩ : ∃ W1, W1 = w.alloc (.cells #[.bool true, .float .f64 f, .bool false, .slice none 0 0] 38) := ⟨_, rfl⟩
  have F1 : Hid (Fr [] w W1) := Lib.hid (by rw [hW1]; exact (Fr.refl _ _).alloc _)
  have CT := Lib.hid (C W1 F1.out)
  clear C
  go_enter Tryz.func16, Tryz.ntmps16
  go_wp2_with fail
  rw [← hW1]
  refine CT.out.mono ?_
  rintro e w2 ⟨rfl, F2⟩
  go_wp2
  go_ret
  exact ⟨rfl, F1.out.same F2⟩
theorem text2 : textI false 2 = [50] := by
  show textOf 2 = [50]
  unfold textOf
  exact Lib.decDigits_one (by decide)
theorem twtext_2 (w : World) (HT : Tab w) (h : In w a cap [2]) : Calls Tryz.prog 16 #[.agg #[.bool false, .float .f64 0, .bool false, .slice a 1 cap]] w fun e w' => e = .returned (.string ⟨#[50]⟩) ∧ Fr [] w w' := by
  obtain ⟨W1, hW1⟩ : ∃ W1, W1 = w.alloc (.cells #[.bool false, .float .f64 0, .bool false, .slice a 1 cap] 38) := ⟨_, rfl⟩
  have F1 : Hid (Fr [] w W1) := Lib.hid (by rw [hW1]; exact (Fr.refl _ _).alloc _)
  have CT := Lib.hid (by have := etext_c (a := a) (cap := cap) W1 false 2 (by rw [lims_2]; exact h.keep F1.out) (HT.fr F1.out); rw [lims_2, text2] at this; exact this)
  clear HT h
  go_enter Tryz.func16, Tryz.ntmps16
  go_wp2_with fail
  rw [← hW1]
  refine CT.out.mono ?_
  rintro e w2 ⟨rfl, F2⟩
  go_wp2
  go_ret
  exact ⟨rfl, F1.out.same F2⟩
theorem lims_big : lims 9007199254740993 = [1, 2097152] := lims_of _ [1, 2097152] (by decide) rfl (by decide)
theorem cmp_big : tcP false 0 false 9007199254740993 true 4845873199050653696 false 0 = 1 ∧ tokP false 0 true 4845873199050653696 = true := by
  constructor
  · rw [tc_ef]
    unfold fcP
    have hf : Fin64 4845873199050653696 := by unfold Fin64; decide
    rw [nan_fin hf, keyF_fin hf, num_fmg, show fsg 4845873199050653696 = false by decide]
    have hm : fmg 4845873199050653696 = 9007199254740992 * U1 := by
      unfold fmg
      rw [show 4845873199050653696 % 9223372036854775808 = 4845873199050653696 by decide]
      obtain ⟨e, he⟩ : ∃ e : Nat, e = 1075 := ⟨_, rfl⟩
      have := magn_at e 4503599627370496 (by omega) (by omega)
      rw [show e * 4503599627370496 + 4503599627370496 = 4845873199050653696 by omega] at this
      rw [this]
      have h2 : (2 : Nat) ^ e = 2 * U1 := by
        unfold U1
        rw [← Nat.pow_succ', show e = B1 + 1 by rw [B1_eq]; omega]
      rw [h2, ← Nat.mul_assoc]
    rw [hm]
    have hU := U1_pos
    unfold unitX sInt sgI
    generalize U1 = U at *
    simp only [Bool.false_eq_true, if_false]
    rw [if_neg (by omega), if_neg (by omega)]
  · decide
set_option maxRecDepth 20000 in
theorem cmp_ex (w : World) (h : In w a cap [1, 2097152]) : Calls Tryz.prog 38 #[.agg #[.bool false, .float .f64 0, .bool false, .slice a 2 cap], .agg #[.bool true, .float .f64 4845873199050653696, .bool false, .slice none 0 0]] w fun e w' => e = .returned (.tuple #[.int .i64 1, .bool true]) ∧ Fr [] w w' := by
  have := twcmp_c (a := a) (cap := cap) (a2 := none) (cap2 := 0) w false 0 false 9007199254740993 true 4845873199050653696 false 0 (by decide) (by decide) (by rw [lims_big]; exact h) (Nw.nil w 0).in (by rw [← fits_B2]; decide +kernel) (by rw [← fits_B2]; decide +kernel) (fun h => by cases h) (fun h => by cases h)
  rw [lims_big, cmp_big.1, cmp_big.2] at this
  exact this
set_option maxRecDepth 100000 in
set_option maxHeartbeats 1000000 in
theorem towerAlive_c (w : World) (HL : LdT w) : Calls Tryz.prog 12 #[] w fun e w' => e = .returned (.bool true) ∧ Fr [] w w' := by
  have HL := Lib.hid HL
  have hsf := sf_run
  go_enter Tryz.func12, Tryz.ntmps12
  go_wp2_with fail
  refine (int_c w 1 1 1 [1] (by decide) (by decide) (by decide) rfl lims_1 rfl).mono ?_
  rintro e w1 ⟨a1, c1, rfl, I1, F1⟩
  have I1 := Lib.hid I1
  have G1 := Lib.hid F1
  clear F1
  go_wp2_with fail
  refine (twflo_c w1 4602678819172646912).mono ?_
  rintro e w2 ⟨rfl, F2⟩
  have I2 := Lib.hid (I1.out.keep F2)
  have G2 := Lib.hid (G1.out.same F2)
  clear I1 G1 F2
  go_wp2_with fail
  refine (twadd_half w2 I2.out).mono ?_
  rintro e w3 ⟨rfl, F3⟩
  have G3 := Lib.hid (G2.out.same F3)
  clear I2 G2 F3
  obtain ⟨W3, hW3⟩ : ∃ W3, W3 = w3.alloc (.cells #[.bool true, .float .f64 4609434218613702656, .bool false, .slice none 0 0] 38) := ⟨_, rfl⟩
  obtain ⟨ka, hka⟩ : ∃ ka, ka = w3.heap.size := ⟨_, rfl⟩
  have PA : Hid (BxN W3 ka (.bool true) (.float .f64 4609434218613702656) (.bool false) (.slice none 0 0)) := Lib.hid (by rw [hW3, hka]; exact BxN.new _ _ _ _ _)
  have G3 := Lib.hid (show Fr [] w W3 by rw [hW3]; exact G3.out.alloc _)
  go_wp2_with fail
  rw [← hW3, ← hka]
  clear hW3 hka
  refine (int_c W3 6 6 1 [6] (by decide) (by decide) (by decide) rfl lims_6 rfl).mono ?_
  rintro e w4 ⟨a4, c4, rfl, I4, F4⟩
  have I4 := Lib.hid I4
  have PA := Lib.hid (PA.out.fr F4)
  have G4 := Lib.hid (G3.out.same F4)
  clear G3 F4
  go_wp2_with fail
  refine (int_c w4 3 3 1 [3] (by decide) (by decide) (by decide) rfl lims_3 rfl).mono ?_
  rintro e w5 ⟨a5, c5, rfl, I5, F5⟩
  have I5 := Lib.hid I5
  have I4 := Lib.hid (I4.out.keep F5)
  have PA := Lib.hid (PA.out.fr F5)
  have G5 := Lib.hid (G4.out.same F5)
  clear G4 F5
  go_wp2_with fail
  refine (twdiv_63 w5 I4.out I5.out).mono ?_
  rintro e w6 ⟨a6, c6, rfl, I6, F6⟩
  have I6 := Lib.hid I6
  have PA := Lib.hid (PA.out.fr F6)
  have G6 := Lib.hid (G5.out.same F6)
  clear G5 F6 I4 I5
  obtain ⟨W6, hW6⟩ : ∃ W6, W6 = w6.alloc (.cells #[.bool false, .float .f64 0, .bool false, .slice a6 1 c6] 38) := ⟨_, rfl⟩
  obtain ⟨kb, hkb⟩ : ∃ kb, kb = w6.heap.size := ⟨_, rfl⟩
  have PB : Hid (BxN W6 kb (.bool false) (.float .f64 0) (.bool false) (.slice a6 1 c6)) := Lib.hid (by rw [hW6, hkb]; exact BxN.new _ _ _ _ _)
  have N6 : Hid (Fr [] w6 W6) := Lib.hid (by rw [hW6]; exact (Fr.refl _ _).alloc _)
  have PA := Lib.hid (PA.out.fr N6.out)
  have I6 := Lib.hid (I6.out.keep N6.out)
  have G6 := Lib.hid (G6.out.same N6.out)
  clear N6
  go_wp2_with fail
  rw [← hW6, ← hkb]
  clear hW6 hkb
  refine (int_c W6 1 1 1 [1] (by decide) (by decide) (by decide) rfl lims_1 rfl).mono ?_
  rintro e w7 ⟨a7, c7, rfl, I7, F7⟩
  have I7 := Lib.hid I7
  have I6 := Lib.hid (I6.out.keep F7)
  have PA := Lib.hid (PA.out.fr F7)
  have PB := Lib.hid (PB.out.fr F7)
  have G7 := Lib.hid (G6.out.same F7)
  clear G6 F7
  go_wp2_with fail
  refine (int_c w7 2 2 1 [2] (by decide) (by decide) (by decide) rfl lims_2 rfl).mono ?_
  rintro e w8 ⟨a8, c8, rfl, I8, F8⟩
  have I8 := Lib.hid I8
  have I7 := Lib.hid (I7.out.keep F8)
  have I6 := Lib.hid (I6.out.keep F8)
  have PA := Lib.hid (PA.out.fr F8)
  have PB := Lib.hid (PB.out.fr F8)
  have G8 := Lib.hid (G7.out.same F8)
  clear G7 F8
  go_wp2_with fail
  refine (twdiv_12 w8 I7.out I8.out).mono ?_
  rintro e w9 ⟨rfl, F9⟩
  have I6 := Lib.hid (I6.out.keep F9)
  have PA := Lib.hid (PA.out.fr F9)
  have PB := Lib.hid (PB.out.fr F9)
  have G9 := Lib.hid (G8.out.same F9)
  clear G8 F9 I7 I8
  obtain ⟨W9, hW9⟩ : ∃ W9, W9 = w9.alloc (.cells #[.bool true, .float .f64 4602678819172646912, .bool false, .slice none 0 0] 38) := ⟨_, rfl⟩
  obtain ⟨kc, hkc⟩ : ∃ kc, kc = w9.heap.size := ⟨_, rfl⟩
  have PC : Hid (BxN W9 kc (.bool true) (.float .f64 4602678819172646912) (.bool false) (.slice none 0 0)) := Lib.hid (by rw [hW9, hkc]; exact BxN.new _ _ _ _ _)
  have N9 : Hid (Fr [] w9 W9) := Lib.hid (by rw [hW9]; exact (Fr.refl _ _).alloc _)
  have PA := Lib.hid (PA.out.fr N9.out)
  have PB := Lib.hid (PB.out.fr N9.out)
  have I6 := Lib.hid (I6.out.keep N9.out)
  have G9 := Lib.hid (G9.out.same N9.out)
  clear N9
  go_wp2_with fail
  rw [← hW9, ← hkc]
  clear hW9 hkc
  refine (int_c W9 9007199254740993 9007199254740993 2 [1, 2097152] (by decide) (by decide) (by decide) rfl lims_big rfl).mono ?_
  rintro e wa ⟨aa, ca, rfl, Ia, Fa⟩
  have Ia := Lib.hid Ia
  have I6 := Lib.hid (I6.out.keep Fa)
  have PA := Lib.hid (PA.out.fr Fa)
  have PB := Lib.hid (PB.out.fr Fa)
  have PC := Lib.hid (PC.out.fr Fa)
  have Ga := Lib.hid (G9.out.same Fa)
  clear G9 Fa
  go_wp2_with fail
  refine (twflo_c wa 4845873199050653696).mono ?_
  rintro e wb ⟨rfl, Fb⟩
  have Ia := Lib.hid (Ia.out.keep Fb)
  have I6 := Lib.hid (I6.out.keep Fb)
  have PA := Lib.hid (PA.out.fr Fb)
  have PB := Lib.hid (PB.out.fr Fb)
  have PC := Lib.hid (PC.out.fr Fb)
  have Gb := Lib.hid (Ga.out.same Fb)
  clear Ga Fb
  go_wp2_with fail
  refine (cmp_ex wb Ia.out).mono ?_
  rintro e wc ⟨rfl, Fc⟩
  have I6 := Lib.hid (I6.out.keep Fc)
  have PA := Lib.hid (PA.out.fr Fc)
  have PB := Lib.hid (PB.out.fr Fc)
  have PC := Lib.hid (PC.out.fr Fc)
  have Gc := Lib.hid (Gb.out.same Fc)
  clear Gb Fc Ia
  have x0 := PA.out.c0
  have x1 := PA.out.c1
  have x2 := PA.out.c2
  have x3 := PA.out.c3
  have xl := PA.out.lt
  go_wp2_with fail
  refine (twtext_fl wc 4609434218613702656 ⟨#[49, 46, 53]⟩ (fun w1 h1 => txt_15 w1 (HL.out.fr (Gc.out.same h1)))).mono ?_
  rintro e wd ⟨rfl, Fd⟩
  have I6 := Lib.hid (I6.out.keep Fd)
  have PB := Lib.hid (PB.out.fr Fd)
  have PC := Lib.hid (PC.out.fr Fd)
  have Gd := Lib.hid (Gc.out.same Fd)
  clear Gc Fd PA x0 x1 x2 x3 xl
  have y0 := PB.out.c0
  have y1 := PB.out.c1
  have y2 := PB.out.c2
  have y3 := PB.out.c3
  have yl := PB.out.lt
  go_wp2_with fail
  refine (twtext_2 wd (HL.out.fr Gd.out).tab I6.out).mono ?_
  rintro e we ⟨rfl, Fe⟩
  have PC := Lib.hid (PC.out.fr Fe)
  have Ge := Lib.hid (Gd.out.same Fe)
  clear Gd Fe PB I6 y0 y1 y2 y3 yl
  have z0 := PC.out.c0
  have z1 := PC.out.c1
  have z2 := PC.out.c2
  have z3 := PC.out.c3
  have zl := PC.out.lt
  go_wp2_with fail
  refine (twtext_fl we 4602678819172646912 ⟨#[48, 46, 53]⟩ (fun w1 h1 => txt_05 w1 (HL.out.fr (Ge.out.same h1)))).mono ?_
  rintro e wf ⟨rfl, Ff⟩
  have Gf := Lib.hid (Ge.out.same Ff)
  clear Ge Ff PC z0 z1 z2 z3 zl
  go_wp2_with fail
  go_ret
  exact ⟨rfl, Gf.out⟩
end Go.Proofs.YtcjkgnafpkkjmaaGreatDoor
namespace Go.Proofs.YtcjkgnafpkkjmaaGreatDoor
open Go.ChangeShapes Go.WideShapes Go.RowKit
variable {w w' : World} {a a2 : Option Addr} {cap cap2 : Nat} {L : List Nat}
def rightN (fl : Bool) (f : Nat) (s : Bool) (L : List Nat) : Bool := match fl with | true => !s && decide (L.length = 0) | false => decide (f = 0) && rightP s L
theorem r4right_c (w : World) (fl : Bool) (f : Nat) (s : Bool) (len : Nat) (h : InA w a len cap L) : Calls Tryz.prog 13 #[.agg #[.bool fl, .float .f64 f, .bool s, .slice a len cap]] w fun e w' => e = .returned (.bool (rightN fl f s L)) ∧ Fr [] w w' := by
  obtain ⟨W1, hW1⟩ : ∃ W1, W1 = w.alloc (.cells #[.bool fl, .float .f64 f, .bool s, .slice a len cap] 38) := ⟨_, rfl⟩
  have F1 : Hid (Fr [] w W1) := Lib.hid (by rw [hW1]; exact (Fr.refl _ _).alloc _)
  cases fl with
  | true =>
    have hd : ((len : Int) == 0) = decide (L.length = 0) := by
      rw [h.len]
      by_cases h0 : len = 0
      · subst h0; rfl
      · rw [decide_eq_false h0]; simpa using h0
    have e1 : rightN true f s L = (!s && decide (L.length = 0)) := rfl
    rw [e1]
    obtain ⟨z, hz⟩ : ∃ z, z = decide (L.length = 0) := ⟨_, rfl⟩
    rw [← hz] at hd ⊢
    clear h hz e1
    cases s with
    | true =>
      clear hd
      go_enter Tryz.func13, Tryz.ntmps13
      go_wp2
      go_ret
      rw [← hW1]
      exact ⟨rfl, F1.out⟩
    | false =>
      go_enter Tryz.func13, Tryz.ntmps13
      go_wp2
      go_ret
      rw [← hW1]
      exact ⟨rfl, F1.out⟩
  | false =>
    have hr := bits_run f
    have CR := Lib.hid (r2right_any W1 s len (h.keep F1.out))
    have e1 : rightN false f s L = (decide (f = 0) && rightP s L) := rfl
    rw [e1]
    by_cases h0 : f = 0
    · subst h0
      rw [decide_eq_true rfl, Bool.true_and]
      obtain ⟨z, hz⟩ : ∃ z, z = rightP s L := ⟨_, rfl⟩
      rw [← hz] at CR ⊢
      clear h hz e1
      have hr : ∀ w : World, (callFunc 39 #[.float .f64 0]).run Tryz.prog w = .ok (.value (.int .u64 0)) w := hr
      go_enter Tryz.func13, Tryz.ntmps13
      go_wp2_with fail
      rw [← hW1]
      clear hW1
      refine CR.out.mono ?_
      rintro e w2 ⟨rfl, F2⟩
      go_wp2
      go_ret
      exact ⟨rfl, F1.out.same F2⟩
    · rw [decide_eq_false h0, Bool.false_and]
      have hb : ((f : Int) == 0) = false := by simpa using h0
      clear h e1 CR
      go_enter Tryz.func13, Tryz.ntmps13
      go_wp2
      go_ret
      rw [← hW1]
      exact ⟨rfl, F1.out⟩
theorem right_openN {fl s : Bool} {f len : Nat} (h : InA w a len cap L) (hr : rightN fl f s L = true) : ∃ n, len = (lims n).length ∧ In w a cap (lims n) ∧ n < B2 ∧ (s = true → n ≠ 0) ∧ (lims n).length ≤ 64 := by
  cases fl with
  | true =>
    have hr : (!s && decide (L.length = 0)) = true := hr
    rw [Bool.and_eq_true] at hr
    have hs : s = false := by simpa using hr.1
    have hl : L.length = 0 := by simpa using hr.2
    have hL : L = [] := List.length_eq_zero_iff.1 hl
    refine ⟨0, by rw [← h.len, hl]; rfl, ?_, by rw [← fits_B2]; decide +kernel, (fun hc => by rw [hs] at hc; cases hc), by decide⟩
    have := h.in (by rw [← h.len, hl]; decide)
    rw [hL] at this
    exact this
  | false =>
    have hr : (decide (f = 0) && rightP s L) = true := hr
    rw [Bool.and_eq_true] at hr
    obtain ⟨n, h1, h2, h3, h4, h5⟩ := right_open h hr.2
    exact ⟨n, h1, h2, fits_B2.1 h3, h4, h5⟩
end Go.Proofs.YtcjkgnafpkkjmaaGreatDoor
end
