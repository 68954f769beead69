/- The texts and numbers of numbers: a part of the walk. No condition. -/
import Derived.Test.YtcjkgnafpkkjmaaGreatDoorQk11
import Derived.Test.YtcjkgnafpkkjmaaGreatDoorTie
import Derived.Test.YtcjkgnafpkkjmaaGreatDoorCards
import Derived.LaidMore
import Derived.LaidHandle
import Derived.MakeChecks
import Derived.Stop.Joined
import Derived.Stop.LaidErr
import Derived.Lib.LaidTab
import Derived.SevenTiedAt
import Derived.JoinedOf
import Derived.ChangeVars
import Derived.Lay
import Derived.LaidOnce
import Derived.Lib.LaidU8
set_option linter.all false
section
namespace Go.Proofs.YtcjkgnafpkkjmaaGreatDoor
open Go.ChangeShapes Go.WideShapes Go.RowKit
def listedF : List (String × DataW Unit) := [("math/bits.deBruijn32tab", Rows.laid_math_bits_deBruijn32tab), ("math/bits.deBruijn64tab", Rows.laid_math_bits_deBruijn64tab), ("internal/strconv.float32info", Rows.laid_internal_strconv_float32info), ("internal/strconv.float64info", Rows.laid_internal_strconv_float64info), ("internal/strconv.optimize", Rows.laid_internal_strconv_optimize), ("internal/strconv.powtab", Rows.laid_internal_strconv_powtab), ("internal/strconv.float64pow10", Rows.laid_internal_strconv_float64pow10), ("internal/strconv.float32pow10", Rows.laid_internal_strconv_float32pow10), ("internal/strconv.uint64pow10", Rows.laid_internal_strconv_uint64pow10), ("strconv.ErrRange", Rows.laid_strconv_ErrRange), ("strconv.ErrSyntax", Rows.laid_strconv_ErrSyntax), ("internal/strconv.leftcheats", Rows.laid_internal_strconv_leftcheats), ("internal/strconv.pow10Tab", Rows.laid_internal_strconv_pow10Tab)]
theorem own : ownKnob Tryz.prog.godebug = none := by kernel_rfl
theorem laidOut : laidOutB Tryz.prog = true := by kernel_rfl
theorem tab_of_reads {W : World} (h : Lib.VarReads Tryz.prog W "internal/strconv.uint64pow10" Rows.laid_internal_strconv_uint64pow10) : Tab W := by
  obtain ⟨g, t, cs, fuel, p, hg, hty, hvar, hd⟩ := h
  obtain rfl := Option.some.inj ((show Tryz.prog.globalNamed "internal/strconv.uint64pow10" = some 7 by kernel_rfl).symm.trans hg)
  obtain rfl := Option.some.inj ((show (Tryz.prog.globals[7]?).map (·.type) = some 228 by kernel_rfl).symm.trans hty)
  show W.var? Tryz.prog _ = _
  rw [hvar, ← Lib.cells_of_tab Tryz.underlying228 Tryz.underlying22 (by kernel_rfl) (by kernel_rfl) hd]
theorem listedF_met (os : Os) (args : Array Value) : laidMet Tryz.prog listedF ((World.laidAll Tryz.prog os listedF).forCall (fun _ _ => 0) ⟨#[], args, []⟩).memory := laidMet_laidAll args (by kernel_rfl) (by kernel_rfl)
structure InA (w : World) (a : Option Addr) (len cap : Nat) (L : List Nat) : Prop where
  len : L.length = len
  rd : L = [] ∨ ∃ b o, a = some ⟨b, o, none⟩ ∧ b < w.heap.size ∧ ∀ i, i < L.length → w.cell? ⟨b, o + i, none⟩ = some (.int .u32 ((L[i]?.getD 0 : Nat) : Int))
  lim : Lim L
  le : L.length ≤ cap
  cm : cap ≤ maxLen
theorem InA.in {w : World} {a : Option Addr} {len cap : Nat} {L : List Nat} (h : InA w a len cap L) (hs : len ≤ 100000) : In w a cap L := ⟨h.rd, h.lim, h.le, h.cm, by rw [h.len]; exact hs⟩
theorem wf_u32 {z : Int} (h : (Lit.int .u32 z).wf = true) : 0 ≤ z ∧ z < 4294967296 := by
  simp [Lit.wf, IntKind.min, IntKind.max, IntKind.bits, IntKind.signed] at h
  omega
section
variable {H : Type} {enc : TypeId × Value → H} {W : World} {d : DataW H} {p : List MemPlace}
theorem open_u32s {a : Option Addr} {len cap : Nat} (h : DataW.Trod enc Tryz.prog W 0 (fun _ => true) true 34 (.slice a len cap) d p) : ∃ L : List Nat, InA W a len cap L := by
  obtain ⟨zs, h1, h2, h3, h4, h5⟩ := open_int_slice Tryz.underlying34 Tryz.underlying84 (by kernel_rfl) h
  have hz : ∀ n ∈ zs, 0 ≤ n ∧ n < 4294967296 := fun n hn => wf_u32 (h2 n hn)
  refine ⟨zs.map Int.toNat, ⟨by simp [h1], ?_, ?_, by simpa [h1] using h3, h4⟩⟩
  · rcases h5 with h5 | ⟨b, o, e1, e2, e3⟩
    · left
      have : zs = [] := List.length_eq_zero_iff.1 (by omega)
      rw [this]; rfl
    · right
      refine ⟨b, o, e1, e2, fun i hi => ?_⟩
      have hi' : i < zs.length := by simpa using hi
      rw [e3 i (by omega), List.getElem?_map, List.getElem?_eq_getElem hi']
      have := hz _ (List.getElem_mem hi')
      simp only [Option.map_some, Option.getD_some]
      rw [Int.toNat_of_nonneg this.1]
  · intro z hz'
    obtain ⟨n, hn, rfl⟩ := List.mem_map.1 hz'
    have := hz n hn
    omega
end
end Go.Proofs.YtcjkgnafpkkjmaaGreatDoor
end
section
namespace Go.Proofs.YtcjkgnafpkkjmaaGreatDoor
open Go.ChangeShapes Go.WideShapes Go.RowKit
end Go.Proofs.YtcjkgnafpkkjmaaGreatDoor
end
section
namespace Go.Proofs.YtcjkgnafpkkjmaaGreatDoor
open Go.ChangeShapes Go.WideShapes Go.RowKit
variable {w w' w2 wr : World} {a b : Option Addr} {cap cap2 : Nat} {L M : List Nat} {B : Nat}
def GivesI (w : World) (s : Bool) (n : Nat) (e : Ending) (w' : World) : Prop := ∃ a cap, e = .returned (.agg #[.bool s, .slice a (lims n).length cap]) ∧ In w' a cap (lims n) ∧ Fr [] w w'
def sg (s : Bool) (n : Nat) : Bool := s && decide (n ≠ 0)
theorem sg_zero (s : Bool) : sg s 0 = false := by simp [sg]
theorem sg_pos (s : Bool) {n : Nat} (h : n ≠ 0) : sg s n = s := by simp [sg, h]
theorem sg_false (n : Nat) : sg false n = false := by simp [sg]
theorem info_int : ((Tryz.prog).info? 36).map (·.size) = some 2 := by kernel_rfl
theorem und_int : (match (Tryz.prog).underlying 36 with | some (.struct _) | some (.array _ _) => true | _ => false) = true := by kernel_rfl
theorem ret_iv {fn : Func} {p : Tmp} (h : fn.results = #[.cell p 36]) (tmps : Array Value) (w : World) (g : Nat) (x y : Value) (hp : tmps.getD p undef = .pointer (some ⟨g, 0, none⟩)) (hb : blk w g = some (.cells #[x, y] 36 (0, 0))) :
    (results fn tmps).run Tryz.prog w = .ok (.agg #[x, y]) w := by
  have hu := und_int
  cases hd : (Tryz.prog).underlying 36 with
  | none => rw [hd] at hu; cases hu
  | some d =>
    refine results_cell_row h tmps w g 36 #[x, y] (0, 0) d hp hb hd ?_ info_int
    rw [hd] at hu
    cases d <;> first | rfl | cases hu
def Bx (w : World) (k : Nat) (x y : Value) : Prop := blk w k = some (.cells #[x, y] 36 (0, 0))
theorem Bx.c0 {k : Nat} {x y : Value} (h : Bx w k x y) : w.cell? ⟨k, 0, none⟩ = some x := cell_of (i := 0) h rfl
theorem Bx.c1 {k : Nat} {x y : Value} (h : Bx w k x y) : w.cell? ⟨k, 1, none⟩ = some y := cell_of (i := 1) h rfl
theorem Bx.f {k : Nat} {x y : Value} (h : Bx w k x y) (i : Nat) : w.frozen? ⟨k, i, none⟩ = false := free_of h
theorem Bx.lt {k : Nat} {x y : Value} (h : Bx w k x y) : k < w.heap.size := lt_size h
theorem Bx.fr {k : Nat} {x y : Value} (h : Bx w k x y) (hF : Fr [] w w') : Bx w' k x y := hF.at h (by simp)
theorem Bx.new (w : World) (x y : Value) : Bx (w.alloc (.cells #[x, y] 36)) w.heap.size x y := by unfold Bx; rw [blk_alloc, if_pos rfl]
theorem Bx.set {k : Nat} {x y : Value} (h : Bx w k x y) (x' y' : Value) : Bx ((w.setCell ⟨k, 0, none⟩ x').setCell ⟨k, 1, none⟩ y') k x' y' := by
  unfold Bx at *
  rw [blk_set, if_pos rfl, blk_set, if_pos rfl, h]; rfl
theorem Fr.set2 {a' w : World} (h : Fr [] a' w) {k : Nat} (hk : a'.heap.size ≤ k) (x y : Value) : Fr [] a' ((w.setCell ⟨k, 0, none⟩ x).setCell ⟨k, 1, none⟩ y) := (h.setCell (.inr hk) _).setCell (.inr hk) _
theorem Bx.eq {w1 : World} {k k' : Nat} {x y : Value} (h : Bx w1 k x y) (e : k = k') : Bx w1 k' x y := e ▸ h
theorem signed_c (w : World) (s : Bool) (n : Nat) (h : In w a cap (lims n)) : Calls Tryz.prog 83 #[.bool s, .slice a (lims n).length cap] w (GivesI w (sg s n) n) := by
  have H := Lib.hid h
  clear h
  have D : Hid (∀ W s', sg s n = s' → Fr [] w W → GivesI w (sg s n) n (.returned (.agg #[.bool s', .slice a (lims n).length cap])) W) := Lib.hid (fun W s' e h => by rw [e]; exact ⟨a, cap, rfl, H.out.keep h, h⟩)
  by_cases h0 : n = 0
  · have e1 : sg s n = false := by rw [h0, sg_zero]
    have hl : (lims n).length = 0 := by rw [h0]; rfl
    have E1 := Lib.hid e1
    rw [hl] at D ⊢
    clear e1 hl h0 H
    cases s with
    | false =>
      go_enter Tryz.func83, Tryz.ntmps83
      go_wp2
      refine bodyPost_ret (ret_iv rfl _ _ _ _ _ rfl (by rw [blk_alloc, if_pos rfl])) rfl ?_
      exact D.out _ _ E1.out ((Fr.refl _ _).alloc _)
    | true =>
      go_enter Tryz.func83, Tryz.ntmps83
      go_wp2
      refine bodyPost_ret (ret_iv rfl _ _ _ _ _ rfl (by rw [blk_alloc, if_pos rfl])) rfl ?_
      exact D.out _ _ E1.out ((Fr.refl _ _).alloc _)
  · have hl : 0 < (lims n).length := lims_len_pos.2 h0
    have e1 := sg_pos s h0
    have E1 := Lib.hid e1
    clear e1 h0 H
    cases s with
    | false =>
      go_enter Tryz.func83, Tryz.ntmps83
      go_wp2
      refine bodyPost_ret (ret_iv rfl _ _ _ _ _ rfl (by rw [blk_alloc, if_pos rfl])) rfl ?_
      exact D.out _ _ E1.out ((Fr.refl _ _).alloc _)
    | true =>
      go_enter Tryz.func83, Tryz.ntmps83
      go_wp2
      refine bodyPost_ret (ret_iv rfl _ _ _ _ _ rfl (by rw [blk_alloc, if_pos rfl])) rfl ?_
      exact D.out _ _ E1.out ((Fr.refl _ _).alloc _)
theorem In.set2 {k : Nat} {s : Bool} {a' : Option Addr} {n' c' : Nat} (h : In w a cap L) (hb : Bx w k (.bool s) (.slice a' n' c')) (x y : Value) : In ((w.setCell ⟨k, 0, none⟩ x).setCell ⟨k, 1, none⟩ y) a cap L := by
  have hF : Fr [k] w ((w.setCell ⟨k, 0, none⟩ x).setCell ⟨k, 1, none⟩ y) := ((Fr.refl _ _).setCell (by simp) _).setCell (by simp) _
  refine ⟨?_, h.lim, h.le, h.cm, h.sm⟩
  rcases h.rd with h1 | ⟨b, o, h1, h2, h3⟩
  · exact .inl h1
  · by_cases h0 : L = []
    · exact .inl h0
    · right
      have hl : 0 < L.length := List.length_pos_iff.2 h0
      have hne : b ≠ k := by
        rintro rfl
        have h4 := h3 0 hl
        unfold Bx blk at hb
        simp only [World.cell?, hb] at h4
        rcases o with _ | _ | o <;> simp at h4
      exact ⟨b, o, h1, Nat.lt_of_lt_of_le h2 hF.size, fun i hi => by rw [cell_fr hF h2 (by simpa using hne)]; exact h3 i hi⟩
theorem made_c (w : World) (s : Bool) (n : Nat) (h : In w a cap (lims n)) : Calls Tryz.prog 85 #[.bool s, .slice a (lims n).length cap] w (GivesI w (sg s n) n) := by
  have H := Lib.hid h
  clear h
  by_cases h0 : n = 0
  · have D : Hid (∀ W, Fr [] w W → GivesI w (sg s n) n (.returned (.agg #[.bool false, .slice none 0 0])) W) := Lib.hid (fun W h => by
      subst h0; rw [sg_zero]; exact ⟨none, 0, rfl, (Nw.nil W 0).in, h⟩)
    have hl : (lims n).length = 0 := by rw [h0]; rfl
    rw [hl]
    clear hl h0 H
    go_enter Tryz.func85, Tryz.ntmps85
    go_wp2
    refine bodyPost_ret (ret_iv rfl _ _ _ _ _ rfl (by rw [blk_alloc, if_pos rfl])) rfl ?_
    exact D.out _ ((Fr.refl _ _).alloc _)
  · have hl : 0 < (lims n).length := lims_len_pos.2 h0
    have hlz : (((lims n).length : Int) == 0) = false := by rw [beq_eq_false_iff_ne]; omega
    have D : Hid (∀ W, Fr [] w W → GivesI w (sg s n) n (.returned (.agg #[.bool s, .slice a (lims n).length cap])) W) := Lib.hid (fun W h => by rw [sg_pos s h0]; exact ⟨a, cap, rfl, H.out.keep h, h⟩)
    clear h0 H
    go_enter Tryz.func85, Tryz.ntmps85
    go_wp2
    refine bodyPost_ret (ret_iv rfl _ _ _ _ _ rfl (by rw [blk_alloc, if_pos rfl])) rfl ?_
    exact D.out _ ((Fr.refl _ _).alloc _)
end Go.Proofs.YtcjkgnafpkkjmaaGreatDoor
namespace Go.Proofs.YtcjkgnafpkkjmaaGreatDoor
open Go.ChangeShapes Go.WideShapes Go.RowKit
variable {w w' w2 wr : World} {a b : Option Addr} {cap cap2 : Nat} {L M : List Nat} {B : Nat}
end Go.Proofs.YtcjkgnafpkkjmaaGreatDoor
namespace Go.Proofs.YtcjkgnafpkkjmaaGreatDoor
open Go.ChangeShapes Go.WideShapes Go.RowKit
variable {w w' w2 wr : World} {a b : Option Addr} {cap cap2 : Nat} {L M : List Nat} {B : Nat}
theorem eof_c (w : World) (z : Int) (h1 : -9223372036854775808 ≤ z) (h2 : z ≤ 9223372036854775807) : Calls Tryz.prog 73 #[.int .i64 z] w (GivesI w (decide (z < 0)) z.natAbs) := by
  obtain ⟨m, hm⟩ : ∃ m, m = z.natAbs := ⟨_, rfl⟩
  rw [← hm]
  have hmb : m ≤ 9223372036854775808 := by omega
  have LO := Lib.hid (fun W => lof_c W m (by omega))
  have F0 : Hid (Fr [] w (w.alloc (.cells #[.bool false, .slice none 0 0] 36))) := Lib.hid ((Fr.refl [] w).alloc _)
  have R : Hid (Bx (w.alloc (.cells #[.bool false, .slice none 0 0] 36)) (w.heap.size) (.bool false) (.slice none 0 0)) := Lib.hid ((Bx.new _ _ _).fr (Fr.refl [] _))
  by_cases hz : z < 0
  · have hm0 : m ≠ 0 := by omega
    have SG : Hid (sg true m = true) := Lib.hid (by rw [sg_pos _ hm0])
    have hzm : z = -(m : Int) := by omega
    rw [decide_eq_true hz]
    have CS : Hid (∀ W a1 c1, In W a1 c1 (lims m) → Calls Tryz.prog 83 #[.bool true, .slice a1 (lims m).length c1] W (GivesI W true m)) := Lib.hid (fun W a1 c1 h => by have := signed_c W true m h; rwa [SG.out] at this)
    subst hzm
    have e1 : IntKind.i64.wrap (-(m : Int) + 1) = -(m : Int) + 1 := IntWalk.i64_in _ (by omega)
    clear hm hz
    go_enter Tryz.func73, Tryz.ntmps73
    go_wp2_with fail
    rw [show (-(-(m : Int) + 1) + 1) = (m : Int) by omega]
    refine (LO.out _).mono ?_
    rintro e w1 ⟨a1, c1, rfl, N1, F1⟩
    have N1 := Lib.hid N1
    replace R := Lib.hid (R.out.fr F1)
    replace rc0 := R.out.c0
    replace rc1 := R.out.c1
    replace rl := R.out.lt
    replace rf0 := R.out.f 0
    replace rf1 := R.out.f 1
    have F1 := Lib.hid (F0.out.same F1)
    go_wp2_with fail
    refine (CS.out _ _ _ N1.out.in).mono ?_
    rintro e w2 ⟨a2, c2, rfl, I2, F2⟩
    have I2 := Lib.hid I2
    replace R := Lib.hid (R.out.fr F2)
    replace rc0 := R.out.c0
    replace rc1 := R.out.c1
    replace rl := R.out.lt
    replace rf0 := R.out.f 0
    replace rf1 := R.out.f 1
    have F2 := Lib.hid (F1.out.same F2)
    go_wp2_with fail
    refine bodyPost_ret (ret_iv rfl _ _ _ _ _ rfl (R.out.set _ _)) rfl ?_
    exact ⟨a2, c2, rfl, I2.out.set2 R.out _ _, F2.out.set2 (by omega) _ _⟩
  · have hzm : z = (m : Int) := by omega
    rw [decide_eq_false hz]
    have CS : Hid (∀ W a1 c1, In W a1 c1 (lims m) → Calls Tryz.prog 83 #[.bool false, .slice a1 (lims m).length c1] W (GivesI W false m)) := Lib.hid (fun W a1 c1 h => by have := signed_c W false m h; rwa [sg_false] at this)
    subst hzm
    clear hm hz
    go_enter Tryz.func73, Tryz.ntmps73
    go_wp2_with fail
    refine (LO.out _).mono ?_
    rintro e w1 ⟨a1, c1, rfl, N1, F1⟩
    have N1 := Lib.hid N1
    replace R := Lib.hid (R.out.fr F1)
    replace rc0 := R.out.c0
    replace rc1 := R.out.c1
    replace rl := R.out.lt
    replace rf0 := R.out.f 0
    replace rf1 := R.out.f 1
    have F1 := Lib.hid (F0.out.same F1)
    go_wp2_with fail
    refine (CS.out _ _ _ N1.out.in).mono ?_
    rintro e w2 ⟨a2, c2, rfl, I2, F2⟩
    have I2 := Lib.hid I2
    replace R := Lib.hid (R.out.fr F2)
    replace rc0 := R.out.c0
    replace rc1 := R.out.c1
    replace rl := R.out.lt
    replace rf0 := R.out.f 0
    replace rf1 := R.out.f 1
    have F2 := Lib.hid (F1.out.same F2)
    go_wp2_with fail
    refine bodyPost_ret (ret_iv rfl _ _ _ _ _ rfl (R.out.set _ _)) rfl ?_
    exact ⟨a2, c2, rfl, I2.out.set2 R.out _ _, F2.out.set2 (by omega) _ _⟩
theorem lims_inj {n m : Nat} : lims n = lims m ↔ n = m := ⟨fun h => by rw [← val_lims n, h, val_lims], fun h => by rw [h]⟩
theorem r2same_c (w : World) (s s2 : Bool) (n m : Nat) (h : In w a cap (lims n)) (h2 : In w b cap2 (lims m)) : Calls Tryz.prog 47 #[.agg #[.bool s, .slice a (lims n).length cap], .agg #[.bool s2, .slice b (lims m).length cap2]] w fun e w' => e = .returned (.bool (decide (s = s2 ∧ n = m))) ∧ Fr [] w w' := by
  have H := Lib.hid h
  have H2 := Lib.hid h2
  clear h h2
  have CE : Hid (∀ W, Fr [] w W → Calls Tryz.prog 80 #[.slice a (lims n).length cap, .slice b (lims m).length cap2] W fun e w' => e = .returned (.bool (decide (n = m))) ∧ Fr [] W w') := Lib.hid (fun W hW => by
    have := r1same_c W (H.out.keep hW) (H2.out.keep hW)
    simpa only [lims_inj] using this)
  have F0 : Hid (Fr [] w ((w.alloc (.cells #[.bool s, .slice a (lims n).length cap] 36)).alloc (.cells #[.bool s2, .slice b (lims m).length cap2] 36))) := Lib.hid (((Fr.refl [] w).alloc _).alloc _)
  have P : Hid (Bx ((w.alloc (.cells #[.bool s, .slice a (lims n).length cap] 36)).alloc (.cells #[.bool s2, .slice b (lims m).length cap2] 36)) (w.heap.size) (.bool s) (.slice a (lims n).length cap)) := Lib.hid ((Bx.new _ _ _).fr ((Fr.refl [] _).alloc _))
  have Q : Hid (Bx ((w.alloc (.cells #[.bool s, .slice a (lims n).length cap] 36)).alloc (.cells #[.bool s2, .slice b (lims m).length cap2] 36)) (w.heap.size + 1) (.bool s2) (.slice b (lims m).length cap2)) := Lib.hid (((Bx.new _ _ _).eq (by simp)).fr (Fr.refl [] _))
  replace pc0 := P.out.c0
  replace pc1 := P.out.c1
  replace pl := P.out.lt
  replace qc0 := Q.out.c0
  replace qc1 := Q.out.c1
  replace ql := Q.out.lt
  by_cases hs : s = s2
  · subst hs
    have ES : (s == s) = true := beq_self_eq_true s
    have HR : Hid (decide (s = s ∧ n = m) = decide (n = m)) := Lib.hid (by simp)
    rw [HR.out]
    go_enter Tryz.func47, Tryz.ntmps47
    go_wp2_with fail
    refine (CE.out _ F0.out).mono ?_
    rintro e w1 ⟨rfl, F1⟩
    have F1 := Lib.hid (F0.out.same F1)
    go_wp2
    go_ret
    exact ⟨rfl, F1.out⟩
  · have ES : (s == s2) = false := by simpa using hs
    have HR : decide (s = s2 ∧ n = m) = false := by simp [hs]
    rw [HR]
    clear hs HR
    go_enter Tryz.func47, Tryz.ntmps47
    go_wp2
    go_ret
    exact ⟨rfl, F0.out⟩
end Go.Proofs.YtcjkgnafpkkjmaaGreatDoor
namespace Go.Proofs.YtcjkgnafpkkjmaaGreatDoor
open Go.ChangeShapes Go.WideShapes Go.RowKit
variable {w w' w2 wr : World} {a b : Option Addr} {cap cap2 : Nat} {L M : List Nat} {B : Nat}
theorem load_iv (w : World) (g : Nat) (x y : Value) (hb : blk w g = some (.cells #[x, y] 36 (0, 0))) : (loadVar 36 ⟨g, 0, none⟩).run Tryz.prog w = .ok (.agg #[x, y]) w := by
  have hu := und_int
  cases hd : (Tryz.prog).underlying 36 with
  | none => rw [hd] at hu; cases hu
  | some d =>
    refine run_loadVar_row (P := Tryz.prog) w g 36 36 #[x, y] (0, 0) d hb hd ?_ info_int
    rw [hd] at hu
    cases d <;> first | rfl | cases hu
theorem ret_iv2 {fn : Func} {p u : Tmp} (h : fn.results = #[.cell p 36, .tmp u]) (tmps : Array Value) (w : World) (g : Nat) (x y : Value) (hp : tmps.getD p undef = .pointer (some ⟨g, 0, none⟩)) (hb : blk w g = some (.cells #[x, y] 36 (0, 0))) :
    (results fn tmps).run Tryz.prog w = .ok (.tuple #[.agg #[x, y], tmps.getD u undef]) w := by
  rw [results_cell_tmp h, hp]
  have := load_iv w g x y hb
  simp [asAddr, this]
def cmpP (s : Bool) (n : Nat) (s2 : Bool) (m : Nat) : Int :=
  match s, s2 with
  | true, false => -1
  | false, true => 1
  | true, true => cmpN m n
  | false, false => cmpN n m
theorem ecmp_c (w : World) (s s2 : Bool) (n m : Nat) (h : In w a cap (lims n)) (h2 : In w b cap2 (lims m)) : Calls Tryz.prog 77 #[.agg #[.bool s, .slice a (lims n).length cap], .agg #[.bool s2, .slice b (lims m).length cap2]] w fun e w' => e = .returned (.int .i64 (cmpP s n s2 m)) ∧ Fr [] w w' := by
  have C1 : Hid (∀ W, Fr [] w W → Calls Tryz.prog 115 #[.slice a (lims n).length cap, .slice b (lims m).length cap2] W fun e w' => e = .returned (.int .i64 (cmpN n m)) ∧ Fr [] W w') := Lib.hid (fun W hW => by
    have := lcmp_c W (h.keep hW) (h2.keep hW)
    simpa only [val_lims] using this)
  have C2 : Hid (∀ W, Fr [] w W → Calls Tryz.prog 115 #[.slice b (lims m).length cap2, .slice a (lims n).length cap] W fun e w' => e = .returned (.int .i64 (cmpN m n)) ∧ Fr [] W w') := Lib.hid (fun W hW => by
    have := lcmp_c W (h2.keep hW) (h.keep hW)
    simpa only [val_lims] using this)
  clear h h2
  cases s <;> cases s2
  · have F0 : Hid (Fr [] w ((w.alloc (.cells #[.bool false, .slice a (lims n).length cap] 36)).alloc (.cells #[.bool false, .slice b (lims m).length cap2] 36))) := Lib.hid (((Fr.refl [] w).alloc _).alloc _)
    have P : Hid (Bx ((w.alloc (.cells #[.bool false, .slice a (lims n).length cap] 36)).alloc (.cells #[.bool false, .slice b (lims m).length cap2] 36)) (w.heap.size) (.bool false) (.slice a (lims n).length cap)) := Lib.hid ((Bx.new _ _ _).fr ((Fr.refl [] _).alloc _))
    have Q : Hid (Bx ((w.alloc (.cells #[.bool false, .slice a (lims n).length cap] 36)).alloc (.cells #[.bool false, .slice b (lims m).length cap2] 36)) (w.heap.size + 1) (.bool false) (.slice b (lims m).length cap2)) := Lib.hid (((Bx.new _ _ _).eq (by simp)).fr (Fr.refl [] _))
    go_enter Tryz.func77, Tryz.ntmps77
    go_wp2_with fail
    refine (C1.out _ F0.out).mono ?_
    rintro e w1 ⟨rfl, F1⟩
    have F1 := Lib.hid (F0.out.same F1)
    go_wp2
    go_ret
    exact ⟨rfl, F1.out⟩
  · have F0 : Hid (Fr [] w ((w.alloc (.cells #[.bool false, .slice a (lims n).length cap] 36)).alloc (.cells #[.bool true, .slice b (lims m).length cap2] 36))) := Lib.hid (((Fr.refl [] w).alloc _).alloc _)
    have P : Hid (Bx ((w.alloc (.cells #[.bool false, .slice a (lims n).length cap] 36)).alloc (.cells #[.bool true, .slice b (lims m).length cap2] 36)) (w.heap.size) (.bool false) (.slice a (lims n).length cap)) := Lib.hid ((Bx.new _ _ _).fr ((Fr.refl [] _).alloc _))
    have Q : Hid (Bx ((w.alloc (.cells #[.bool false, .slice a (lims n).length cap] 36)).alloc (.cells #[.bool true, .slice b (lims m).length cap2] 36)) (w.heap.size + 1) (.bool true) (.slice b (lims m).length cap2)) := Lib.hid (((Bx.new _ _ _).eq (by simp)).fr (Fr.refl [] _))
    go_enter Tryz.func77, Tryz.ntmps77
    go_wp2
    go_ret
    exact ⟨rfl, F0.out⟩
  · have F0 : Hid (Fr [] w ((w.alloc (.cells #[.bool true, .slice a (lims n).length cap] 36)).alloc (.cells #[.bool false, .slice b (lims m).length cap2] 36))) := Lib.hid (((Fr.refl [] w).alloc _).alloc _)
    have P : Hid (Bx ((w.alloc (.cells #[.bool true, .slice a (lims n).length cap] 36)).alloc (.cells #[.bool false, .slice b (lims m).length cap2] 36)) (w.heap.size) (.bool true) (.slice a (lims n).length cap)) := Lib.hid ((Bx.new _ _ _).fr ((Fr.refl [] _).alloc _))
    have Q : Hid (Bx ((w.alloc (.cells #[.bool true, .slice a (lims n).length cap] 36)).alloc (.cells #[.bool false, .slice b (lims m).length cap2] 36)) (w.heap.size + 1) (.bool false) (.slice b (lims m).length cap2)) := Lib.hid (((Bx.new _ _ _).eq (by simp)).fr (Fr.refl [] _))
    go_enter Tryz.func77, Tryz.ntmps77
    go_wp2
    go_ret
    exact ⟨rfl, F0.out⟩
  · have F0 : Hid (Fr [] w ((w.alloc (.cells #[.bool true, .slice a (lims n).length cap] 36)).alloc (.cells #[.bool true, .slice b (lims m).length cap2] 36))) := Lib.hid (((Fr.refl [] w).alloc _).alloc _)
    have P : Hid (Bx ((w.alloc (.cells #[.bool true, .slice a (lims n).length cap] 36)).alloc (.cells #[.bool true, .slice b (lims m).length cap2] 36)) (w.heap.size) (.bool true) (.slice a (lims n).length cap)) := Lib.hid ((Bx.new _ _ _).fr ((Fr.refl [] _).alloc _))
    have Q : Hid (Bx ((w.alloc (.cells #[.bool true, .slice a (lims n).length cap] 36)).alloc (.cells #[.bool true, .slice b (lims m).length cap2] 36)) (w.heap.size + 1) (.bool true) (.slice b (lims m).length cap2)) := Lib.hid (((Bx.new _ _ _).eq (by simp)).fr (Fr.refl [] _))
    go_enter Tryz.func77, Tryz.ntmps77
    go_wp2_with fail
    refine (C2.out _ F0.out).mono ?_
    rintro e w1 ⟨rfl, F1⟩
    have F1 := Lib.hid (F0.out.same F1)
    go_wp2
    go_ret
    exact ⟨rfl, F1.out⟩
end Go.Proofs.YtcjkgnafpkkjmaaGreatDoor
end
