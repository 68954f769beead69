/- The texts and numbers of numbers: a part of the walk. No condition. -/
import Derived.Test.YtcjkgnafpkkjmaaGreatDoorQk15
import Derived.Test.YtcjkgnafpkkjmaaGreatDoorQk06
import Derived.LoopN
import Derived.Lib.SlBytesRow
set_option linter.all false
section
namespace Go.Proofs.YtcjkgnafpkkjmaaGreatDoor
open Go.ChangeShapes Go.WideShapes Go.RowKit Go.Joins
structure NA where
  fl : Bool
  f : Nat
  i : IA
def InN (W : World) (z : NA) : Prop := z.f < 18446744073709551616 ∧ InI W z.i
def zeroN : Value := .agg #[.bool false, .float .f64 0, .bool false, .slice none 0 0]
theorem trod_float {H : Type} {enc : TypeId × Value → H} {P : Program} {w : World} {base fuel : Nat} {spare : Nat → Bool} {held : Bool} {t : TypeId} {cs : List Value} {x : DataW H × List MemPlace} {k : FloatKind} (ht : P.underlying t = some (.float k)) (h : DataW.trod enc P w base spare held fuel t cs = some x) : ∃ b, cs = [.float k b] ∧ x = (.lit (.float k b), []) ∧ (Lit.float k b).wf = true := by
  cases fuel with
  | zero => simp [DataW.trod] at h
  | succ n =>
    unfold DataW.trod at h
    rw [ht] at h
    split at h <;> simp_all
theorem cells_num : (Tryz.prog).cellsOf 38 = 4 := by kernel_rfl
set_option maxRecDepth 100000 in
theorem open_num {H : Type} {enc : TypeId × Value → H} {W : World} {d : DataW H} {p : List MemPlace} {base : Nat} {v : Value} (hv : Value.okWide Tryz.prog W .any base 38 v) (h : DataW.Trod enc Tryz.prog W 0 (fun _ => true) true 38 v d p) : ∃ z : NA, v = .agg #[.bool z.fl, .float .f64 z.f, .bool z.i.s, .slice z.i.a z.i.len z.i.cap] ∧ InN W z := by
  obtain ⟨cs, rfl, hsz⟩ := okWide_struct Tryz.underlying38 hv
  obtain ⟨c0, c1, c2, c3, rfl⟩ := array4 (hsz.trans cells_num)
  obtain ⟨fuel, hf⟩ := h
  obtain ⟨xs, n, _, _, _, hlen, hg⟩ := DataW.trod_struct Tryz.underlying38 hf
  have k0 : (Tryz.prog).cellsOf 4 = 1 := by kernel_rfl
  have k1 : (Tryz.prog).cellsOf 24 = 1 := by kernel_rfl
  have k2 : (Tryz.prog).cellsOf 34 = 1 := by kernel_rfl
  have g0 : DataW.trod enc Tryz.prog W 0 (fun _ => true) true n 4 ([c0, c1, c2, c3].take ((Tryz.prog).cellsOf 4)) = xs[0]? := hg 0 _ rfl
  have g1 : DataW.trod enc Tryz.prog W 0 (fun _ => true) true n 24 ([c1, c2, c3].take ((Tryz.prog).cellsOf 24)) = xs[1]? := hg 1 _ rfl
  have g2 : DataW.trod enc Tryz.prog W 0 (fun _ => true) true n 36 ([c2, c3].take ((Tryz.prog).cellsOf 36)) = xs[2]? := hg 2 _ rfl
  rw [k0] at g0
  rw [k1] at g1
  rw [cells_int] at g2
  obtain ⟨y0, hy0⟩ : ∃ y, xs[0]? = some y := ⟨xs[0]'(by rw [hlen]; decide), List.getElem?_eq_getElem _⟩
  obtain ⟨y1, hy1⟩ : ∃ y, xs[1]? = some y := ⟨xs[1]'(by rw [hlen]; decide), List.getElem?_eq_getElem _⟩
  obtain ⟨y2, hy2⟩ : ∃ y, xs[2]? = some y := ⟨xs[2]'(by rw [hlen]; decide), List.getElem?_eq_getElem _⟩
  rw [hy0] at g0
  rw [hy1] at g1
  rw [hy2] at g2
  obtain ⟨b, e0, _⟩ := DataW.trod_bool Tryz.underlying4 g0
  obtain ⟨f, e1, _, hwf⟩ := trod_float Tryz.underlying24 g1
  obtain ⟨z0, z1, m, _, _, hz0, hz1⟩ := trod_struct2 Tryz.underlying36 g2
  have hz0 : DataW.trod enc Tryz.prog W 0 (fun _ => true) true m 4 ([c2, c3].take ((Tryz.prog).cellsOf 4)) = some z0 := hz0
  have hz1 : DataW.trod enc Tryz.prog W 0 (fun _ => true) true m 34 ([c3].take ((Tryz.prog).cellsOf 34)) = some z1 := hz1
  rw [k0] at hz0
  rw [k2] at hz1
  obtain ⟨s, e2, _⟩ := DataW.trod_bool Tryz.underlying4 hz0
  obtain ⟨a, l, c, e3⟩ := slice_form Tryz.underlying34 hz1
  simp at e0 e1 e2 e3
  subst e0 e1 e2 e3
  obtain ⟨L, hL⟩ := open_u32s (a := a) (len := l) (cap := c) ⟨m, hz1⟩
  have hf64 : f < 18446744073709551616 := by simpa [Lit.wf] using hwf
  exact ⟨⟨b, f, s, a, l, c⟩, rfl, hf64, L, hL⟩
end Go.Proofs.YtcjkgnafpkkjmaaGreatDoor
namespace Go.Proofs.YtcjkgnafpkkjmaaGreatDoor
open Go.ChangeShapes Go.WideShapes Go.RowKit
theorem pow10_at {W : World} (h : Lib.VarReads Tryz.prog W "internal/strconv.pow10Tab" Pinned.pow10Tab) (i : Nat) (x : Nat × Nat) (hi : i < 696) (hx : Pinned.pow10Rows[i]? = some x) :
    W.cell? ⟨11, i * 2, none⟩ = some (.int .u64 (x.1 : Int)) ∧ W.cell? ⟨11, i * 2 + 1, none⟩ = some (.int .u64 (x.2 : Int)) := by
  obtain ⟨g, t, cs, fuel, p, hg, hty, hvar, hd⟩ := h
  obtain rfl := Option.some.inj ((show Tryz.prog.globalNamed "internal/strconv.pow10Tab" = some 11 by kernel_rfl).symm.trans hg)
  obtain rfl := Option.some.inj ((show (Tryz.prog.globals[11]?).map (·.type) = some 249 by kernel_rfl).symm.trans hty)
  have hu : Tryz.prog.underlying 249 = some (.array 696 248) := by kernel_rfl
  have hc : Tryz.prog.cellsOf 248 = 2 := by kernel_rfl
  obtain ⟨fuel', d, q, e1, e2⟩ := Lib.array_elem hu hd i hi
  rw [List.getElem?_map, hx, Option.map_some] at e1
  obtain rfl := (Option.some.inj e1).symm
  rw [hc] at e2
  obtain ⟨fs, hfs, hsz, hf⟩ : ∃ fs, Tryz.prog.underlying 248 = some (.struct fs) ∧ Tryz.prog.cellsOf 248 = fs.size ∧ ∀ (i : Nat) (f : Field), fs[i]? = some f → Tryz.prog.underlying f.type = some (.int .u64) ∧ f.offset = i ∧ Tryz.prog.cellsOf f.type = 1 := by
    refine ⟨_, Tryz.underlying248, by kernel_rfl, fun i f hi => ?_⟩
    match i, hi with
    | 0, hi => obtain rfl := (Option.some.inj hi).symm; exact ⟨Tryz.underlying22, rfl, by kernel_rfl⟩
    | 1, hi => obtain rfl := (Option.some.inj hi).symm; exact ⟨Tryz.underlying22, rfl, by kernel_rfl⟩
    | k + 2, hi => exact absurd hi (by simp)
  have e3 := Lib.ints_of_struct (zs := [(x.1 : Int), (x.2 : Int)]) hfs hf hsz e2
  have g0 : cs[i * 2]? = some (Value.int .u64 (x.1 : Int)) := by
    have := congrArg (·[0]?) e3
    simpa [List.getElem?_take, List.getElem?_drop] using this
  have g1 : cs[i * 2 + 1]? = some (Value.int .u64 (x.2 : Int)) := by
    have := congrArg (·[1]?) e3
    simpa [List.getElem?_take, List.getElem?_drop] using this
  exact ⟨by rw [World.var?_cell hg hvar]; exact g0, by rw [World.var?_cell hg hvar]; exact g1⟩
structure LdT (W : World) : Prop where
  tab : Tab W
  pow : ∀ (i : Nat) (x : Nat × Nat), i < 696 → Pinned.pow10Rows[i]? = some x → W.cell? ⟨11, i * 2, none⟩ = some (.int .u64 (x.1 : Int)) ∧ W.cell? ⟨11, i * 2 + 1, none⟩ = some (.int .u64 (x.2 : Int))
theorem cell_keep {w w' : World} (hF : Fr [] w w') {b o : Nat} {v : Value} (h : w.cell? ⟨b, o, none⟩ = some v) : w'.cell? ⟨b, o, none⟩ = some v := by
  rw [cell_fr hF (addr_none h).2 (by simp)]; exact h
theorem LdT.fr {w w' : World} (h : LdT w) (hF : Fr [] w w') : LdT w' := ⟨h.tab.fr hF, fun i x hi hx => ⟨cell_keep hF (h.pow i x hi hx).1, cell_keep hF (h.pow i x hi hx).2⟩⟩
theorem ldT_of_reads {W : World} (h1 : Lib.VarReads Tryz.prog W "internal/strconv.uint64pow10" Rows.laid_internal_strconv_uint64pow10) (h2 : Lib.VarReads Tryz.prog W "internal/strconv.pow10Tab" Pinned.pow10Tab) : LdT W := ⟨tab_of_reads h1, fun i x hi hx => pow10_at h2 i x hi hx⟩
structure LdF (W : World) : Prop where
  t : LdT W
  opt : W.cell? ⟨3, 0, none⟩ = some (.bool true)
  bits : W.cell? ⟨6, 0, none⟩ = some (.int .u64 52)
  tens : ∃ b o, W.cell? ⟨10, 0, none⟩ = some (.slice (some ⟨b, o, none⟩) 23 23) ∧ W.cell? ⟨b, o + 1, none⟩ = some (.float .f64 4621819117588971520)
theorem LdF.fr {w w' : World} (h : LdF w) (hF : Fr [] w w') : LdF w' := by
  refine ⟨h.t.fr hF, cell_keep hF h.opt, cell_keep hF h.bits, ?_⟩
  obtain ⟨b, o, h1, h2⟩ := h.tens
  exact ⟨b, o, cell_keep hF h1, cell_keep hF h2⟩
theorem opt_of {W : World} (h : Lib.VarReads Tryz.prog W "internal/strconv.optimize" Rows.laid_internal_strconv_optimize) : W.cell? ⟨3, 0, none⟩ = some (.bool true) := by
  obtain ⟨g, t, cs, fuel, p, hg, hty, hvar, hd⟩ := h
  obtain rfl := Option.some.inj ((show Tryz.prog.globalNamed "internal/strconv.optimize" = some 3 by kernel_rfl).symm.trans hg)
  obtain rfl := Option.some.inj ((show (Tryz.prog.globals[3]?).map (·.type) = some 4 by kernel_rfl).symm.trans hty)
  obtain ⟨b, e0, e1⟩ := DataW.trod_bool Tryz.underlying4 hd
  have hb : b = true := by have := congrArg Prod.fst e1; unfold Rows.laid_internal_strconv_optimize at this; simpa using this.symm
  rw [World.var?_cell hg hvar, ← Array.getElem?_toList, e0, hb]; rfl
theorem bits_of {W : World} (h : Lib.VarReads Tryz.prog W "internal/strconv.float64info" Rows.laid_internal_strconv_float64info) : W.cell? ⟨6, 0, none⟩ = some (.int .u64 52) := by
  obtain ⟨g, t, cs, fuel, p, hg, hty, hvar, hd⟩ := h
  obtain rfl := Option.some.inj ((show Tryz.prog.globalNamed "internal/strconv.float64info" = some 6 by kernel_rfl).symm.trans hg)
  obtain rfl := Option.some.inj ((show (Tryz.prog.globals[6]?).map (·.type) = some 200 by kernel_rfl).symm.trans hty)
  obtain ⟨xs, n, _, e1, _, hlen, hgf⟩ := DataW.trod_struct Tryz.underlying200 hd
  have g0 : DataW.trod (fun _ => ()) Tryz.prog W 0 (fun _ => true) false n 90 ((cs.toList.drop 0).take ((Tryz.prog).cellsOf 90)) = xs[0]? := hgf 0 _ rfl
  obtain ⟨y0, hy0⟩ : ∃ y, xs[0]? = some y := ⟨xs[0]'(by rw [hlen]; decide), List.getElem?_eq_getElem _⟩
  rw [hy0] at g0
  rw [show (Tryz.prog).cellsOf 90 = 1 by kernel_rfl] at g0
  obtain ⟨z, e2, e3, _⟩ := DataW.trod_int Tryz.underlying90 g0
  have e4 : (xs.map (·.1))[0]? = some (.lit (.int .u64 52)) := by
    have := congrArg Prod.fst e1
    unfold Rows.laid_internal_strconv_float64info at this
    simp only [DataW.agg.injEq] at this
    rw [← this]; rfl
  rw [List.getElem?_map, hy0, Option.map_some, e3] at e4
  have e5 : z = 52 := by simpa using e4
  rw [World.var?_cell hg hvar, ← Array.getElem?_toList]
  have := congrArg (·[0]?) e2
  simp [List.getElem?_take, List.getElem?_drop] at this
  rw [e5] at this
  simpa using this
theorem tens_of {W : World} (h : Lib.VarReads Tryz.prog W "internal/strconv.float64pow10" Rows.laid_internal_strconv_float64pow10) : ∃ b o, W.cell? ⟨10, 0, none⟩ = some (.slice (some ⟨b, o, none⟩) 23 23) ∧ W.cell? ⟨b, o + 1, none⟩ = some (.float .f64 4621819117588971520) := by
  obtain ⟨g, t, cs, fuel, p, hg, hty, hvar, hd⟩ := h
  obtain rfl := Option.some.inj ((show Tryz.prog.globalNamed "internal/strconv.float64pow10" = some 10 by kernel_rfl).symm.trans hg)
  obtain rfl := Option.some.inj ((show (Tryz.prog.globals[10]?).map (·.type) = some 245 by kernel_rfl).symm.trans hty)
  rcases Go.Deep.open_slice1 Tryz.underlying245 (by kernel_rfl) hd with ⟨_, hx⟩ | ⟨a, len, cap, m, n, V, D, Pl, hcs, _, hl, _, hm, hx, hi⟩
  · simp [Rows.laid_internal_strconv_float64pow10] at hx
  · rw [if_pos rfl] at hm
    subst hm
    have hx1 := congrArg Prod.fst hx
    unfold Rows.laid_internal_strconv_float64pow10 at hx1
    simp only [DataW.slice.injEq] at hx1
    obtain ⟨x1, x2⟩ := hx1
    have l1 : len = 23 := by have := congrArg List.length x1; simpa using this.symm
    have l2 : m - len = 0 := by have := congrArg List.length x2; simpa using this.symm
    have l3 : m = 23 := by omega
    have d1 : D 1 = .lit (.float .f64 4621819117588971520) := by
      have := congrArg (·[1]?) x1
      rw [l1] at this
      simpa using this.symm
    subst l1 l3
    obtain ⟨c1, t1⟩ := hi 1 (by omega)
    obtain ⟨b, e0, e1, _⟩ := trod_float Tryz.underlying24 t1
    have e2 : b = 4621819117588971520 := by
      have := congrArg Prod.fst e1
      rw [d1] at this
      simpa using this.symm
    simp only [List.cons.injEq, and_true] at e0
    have hs : a.spot = none := by
      have := (addr_none (hi 0 (by omega)).1).1
      simpa [Addr.add] using this
    have c2 := add_cell hs c1
    refine ⟨a.block, a.off, ?_, by rw [c2, e0, e2]⟩
    rw [World.var?_cell hg hvar, ← Array.getElem?_toList, hcs]
    exact congrArg (fun x => some (Value.slice (some x) 23 23)) (show a = ⟨a.block, a.off, none⟩ by obtain ⟨b1, o1, s1⟩ := a; cases hs; rfl)
theorem ldF_of {W : World} (h : laidMet Tryz.prog listedF W) : LdF W :=
  ⟨ldT_of_reads (Lib.laidMet.reads h (by simp [listedF])) (Lib.laidMet.reads h (show _ ∈ listedF from by simp [listedF, Rows.laid_internal_strconv_pow10Tab])), opt_of (Lib.laidMet.reads h (by simp [listedF])), bits_of (Lib.laidMet.reads h (by simp [listedF])), tens_of (Lib.laidMet.reads h (by simp [listedF]))⟩
end Go.Proofs.YtcjkgnafpkkjmaaGreatDoor
namespace Go.Proofs.YtcjkgnafpkkjmaaGreatDoor
open Go.ChangeShapes Go.WideShapes Go.RowKit Go.Shelf
theorem isbits_run (b : Nat) (w : World) : (callFunc 138 #[.float .f64 b]).run Tryz.prog w = .ok (.value (.int .u64 (b : Int))) w := by
  rw [run_callFunc_extern Tryz.func138 (by kernel_rfl) (by kernel_rfl) (by kernel_rfl) (e := Extern.MathFloatBits.float64bits) (by kernel_rfl)]
  rfl
theorem log2p_c (p q : Int) (w : World) (h : p * 108853 / 32768 = q) (h1 : -1000 ≤ p) (h2 : p ≤ 1000) : Calls Tryz.prog 191 #[.int .i64 p] w fun e w' => e = .returned (.int .i64 q) ∧ w = w' := by
  subst h
  go_enter Tryz.func191, Tryz.ntmps191
  go_wp2
  go_ret
  exact ⟨rfl, rfl⟩
theorem log10p_c (p q : Int) (w : World) (h : p * 78913 / 262144 = q) (h1 : -2000 ≤ p) (h2 : p ≤ 2000) : Calls Tryz.prog 146 #[.int .i64 p] w fun e w' => e = .returned (.int .i64 q) ∧ w = w' := by
  subst h
  go_enter Tryz.func146, Tryz.ntmps146
  go_wp2
  go_ret
  exact ⟨rfl, rfl⟩
theorem skewed_c (p q : Int) (w : World) (h : (p * 631305 - 261663) / 2097152 = q) (h1 : -2000 ≤ p) (h2 : p ≤ 2000) : Calls Tryz.prog 189 #[.int .i64 p] w fun e w' => e = .returned (.int .i64 q) ∧ w = w' := by
  subst h
  go_enter Tryz.func189, Tryz.ntmps189
  go_wp2
  go_ret
  exact ⟨rfl, rfl⟩
theorem ceil_c (u q : Nat) (w : World) (h : u < 4000000000000000000) (hq : (u + 3) / 4 = q) : Calls Tryz.prog 194 #[.int .u64 (u : Int)] w fun e w' => e = .returned (.int .u64 (q : Int)) ∧ w = w' := by
  have e1 : ((u : Int) + 3) / 4 = (q : Int) := by omega
  have e2 : IntKind.u64.wrap ((u : Int) + 3) = (u : Int) + 3 := fw_u64 _ (by omega) (by omega)
  clear h hq
  go_enter Tryz.func194, Tryz.ntmps194
  go_wp2
  go_ret
  exact ⟨rfl, rfl⟩
theorem ufloor_c (u q : Nat) (w : World) (h : u < 4000000000000000000) (hq : u / 4 = q) : Calls Tryz.prog 195 #[.int .u64 (u : Int)] w fun e w' => e = .returned (.int .u64 (q : Int)) ∧ w = w' := by
  have e1 : (u : Int) / 4 = (q : Int) := by omega
  have e2 : IntKind.u64.wrap (u : Int) = (u : Int) := fw_u64 _ (by omega) (by omega)
  clear h hq
  go_enter Tryz.func195, Tryz.ntmps195
  go_wp2
  go_ret
  exact ⟨rfl, rfl⟩
theorem nudge_c (u : Nat) (d : Int) (z : Nat) (w : World) (hz : (u : Int) + d = (z : Int)) (hd : -1 ≤ d) (hd2 : d ≤ 1) (h : u < 4000000000000000000) : Calls Tryz.prog 193 #[.int .u64 (u : Int), .int .i64 d] w fun e w' => e = .returned (.int .u64 (z : Int)) ∧ w = w' := by
  have e1 : IntKind.u64.wrap ((u : Int) + IntKind.u64.wrap d) = (z : Int) := by
    rw [IntKind.wrap_u64, IntKind.wrap_u64]; omega
  clear h hz hd hd2
  go_enter Tryz.func193, Tryz.ntmps193
  go_wp2
  go_ret
  exact ⟨rfl, rfl⟩
def ScAt (w : World) (k ph pl s : Nat) : Prop := blk w k = some (.cells #[.int .u64 (ph : Int), .int .u64 (pl : Int), .int .i64 (s : Int)] 220 (0, 0))
theorem ScAt.fr {w w' : World} {k ph pl s : Nat} (h : ScAt w k ph pl s) (hF : Fr [] w w') : ScAt w' k ph pl s := hF.at h (by simp)
theorem and63 (s : Nat) (h : s < 64) : bits BinOp.and IntKind.i64 (s : Int) 63 = (s : Int) := by
  have key : ∀ n : Nat, n < 64 → bits BinOp.and IntKind.i64 (n : Int) 63 = (n : Int) := by decide
  exact key s h
theorem or1_64' (y : Nat) (h : y < 4000000000000000000) : bits BinOp.or IntKind.u64 (y : Int) 1 = ((y / 2 * 2 + 1 : Nat) : Int) := by
  have hy : (y : Int) = ((y / 2 : Nat) : Int) * 2 + ((y % 2 : Nat) : Int) := by omega
  show IntKind.u64.wrap ((BitVec.ofInt 64 (y : Int) ||| BitVec.ofInt 64 1).toNat : Int) = _
  rw [BitVec.toNat_or]
  have h1 : (BitVec.ofInt 64 (y : Int)).toNat = y := by
    rw [BitVec.ofInt_natCast, BitVec.toNat_ofNat]; exact Nat.mod_eq_of_lt (by omega)
  have h2 : (BitVec.ofInt 64 (1 : Int)).toNat = 1 := by decide
  rw [h1, h2]
  have h3 : y ||| 1 = y / 2 * 2 + 1 := by
    have := Nat.div_add_mod (y ||| 1) 2
    have d : (y ||| 1) / 2 = y / 2 := by
      have := Nat.or_div_two_pow (a := y) (b := 1) (n := 1)
      simpa using this
    have m : (y ||| 1) % 2 = 1 := by
      have := Nat.or_mod_two_pow (a := y) (b := 1) (n := 1)
      simp at this
      rw [this]
      rcases Nat.mod_two_eq_zero_or_one y with h | h <;> rw [h] <;> decide
    omega
  rw [h3, IntKind.wrap_u64]
  omega
theorem uscale_c (w : World) (k x ph pl s hi q u : Nat) (H : ScAt w k ph pl s) (hs : s < 64) (hx : x < 18446744073709551616) (hp : ph < 18446744073709551616) (hhi : x * ph / 18446744073709551616 = hi) (hq : hi / 2 ^ s = q) (hne : q * 2 ^ s ≠ hi) (hu : q / 2 * 2 + 1 = u) (hqb : q < 4000000000000000000) :
    Calls Tryz.prog 192 #[.int .u64 (x : Int), .pointer (some ⟨k, 0, none⟩)] w fun e w' => e = .returned (.int .u64 (u : Int)) ∧ w = w' := by
  have c0 := cell_of H (i := 0) rfl
  have c1 := cell_of H (i := 1) rfl
  have c2 := cell_of H (i := 2) rfl
  have kl := lt_size H
  have CM := Lib.hid (fun w1 => by have := Tryz.bits_Mul64 x ph hx hp w1; rw [hhi] at this; exact this)
  obtain ⟨mid, hmid⟩ : ∃ mid, mid = x * ph % 18446744073709551616 := ⟨_, rfl⟩
  rw [← hmid] at CM
  have hand := and63 s hs
  have hsh : (hi : Int) / 2 ^ s = (q : Int) := by rw [← hq]; push_cast; rfl
  have hhb : hi < 18446744073709551616 := by
    rw [← hhi]
    exact (Nat.div_lt_iff_lt_mul (by decide)).2 (Nat.mul_lt_mul'' hx hp)
  have hle : q * 2 ^ s ≤ hi := by rw [← hq]; exact Nat.div_mul_le_self _ _
  have hw2 : IntKind.u64.wrap ((q : Int) * 2 ^ s) = ((q * 2 ^ s : Nat) : Int) := by
    rw [show (q : Int) * 2 ^ s = ((q * 2 ^ s : Nat) : Int) by push_cast; rfl]
    exact fw_u64 _ (by omega) (by omega)
  obtain ⟨y, hy⟩ : ∃ y, y = q * 2 ^ s := ⟨_, rfl⟩
  rw [← hy] at hw2 hne hle
  have hneI : ((y : Int) != (hi : Int)) = true := by simpa using fun hc => hne (by omega)
  have hor := or1_64' q hqb
  rw [hu] at hor
  clear hmid hhb hle hy hqb hu hhi hq hx hp hne
  go_enter Tryz.func192, Tryz.ntmps192
  go_wp2_with (go_at_call 213; refine (CM.out _).mono ?_; rintro e w' ⟨rfl, rfl⟩)
  go_ret
  exact ⟨rfl, rfl⟩
end Go.Proofs.YtcjkgnafpkkjmaaGreatDoor
namespace Go.Proofs.YtcjkgnafpkkjmaaGreatDoor
open Go.ChangeShapes Go.WideShapes Go.RowKit Go.Shelf
theorem prescale_c (w : World) (k i ph pl s : Nat) (e p lp : Int) (x0 x1 x2 : Value) (HL : LdT w) (hk : blk w k = some (.cells #[x0, x1, x2] 220 (0, 0))) (hkg : 11 < k) (hi : p + 348 = (i : Int)) (hi2 : i < 696) (hrow : Pinned.pow10Rows[i]? = some (ph, pl)) (hs : -(e + lp + 3) = (s : Int)) (he1 : -2000 ≤ e) (he2 : e ≤ 2000) (hl1 : -2000 ≤ lp) (hl2 : lp ≤ 2000) :
    Calls Tryz.prog 190 #[.pointer (some ⟨k, 0, none⟩), .int .i64 e, .int .i64 p, .int .i64 lp] w fun e w' => e = .returned (.tuple #[]) ∧ ScAt w' k ph pl s ∧ Fr [k] w w' := by
  have HB := Lib.hid hk
  obtain ⟨t0, t1⟩ := HL.pow i (ph, pl) hi2 hrow
  have c0 := cell_of hk (i := 0) rfl
  have c1 := cell_of hk (i := 1) rfl
  have c2 := cell_of hk (i := 2) rfl
  have f0 := free_of hk (i := 0)
  have f1 := free_of hk (i := 1)
  have f2 := free_of hk (i := 2)
  have kl := lt_size hk
  have hidx : p - -348 = (i : Int) := by omega
  clear hrow HL hi hk
  go_enter Tryz.func190, Tryz.ntmps190
  go_wp2
  go_end0
  refine ⟨rfl, ?_, (((Fr.refl [k] w).setCell (by simp) _).setCell (by simp) _).setCell (by simp) _⟩
  unfold ScAt
  rw [blk_set, if_pos rfl, blk_set, if_pos rfl, blk_set, if_pos rfl, HB.out]
  rfl
set_option maxRecDepth 100000 in
theorem short_15 (w : World) (HL : LdT w) (hg : 11 < w.heap.size) : Calls Tryz.prog 151 #[.int .u64 13835058055282163712, .int .i64 (-63)] w fun e w' => e = .returned (.tuple #[.int .u64 1500000000000000, .int .i64 (-15)]) ∧ Fr [] w w' := by
  obtain ⟨W1, hW1⟩ : ∃ W1, W1 = w.alloc (.cells #[.int .u64 0, .int .u64 0, .int .i64 0] 220) := ⟨_, rfl⟩
  obtain ⟨k, hk⟩ : ∃ k, k = w.heap.size := ⟨_, rfl⟩
  have F1 : Hid (Fr [] w W1) := Lib.hid (by rw [hW1]; exact (Fr.refl _ _).alloc _)
  have HB : Hid (blk W1 k = some (.cells #[.int .u64 0, .int .u64 0, .int .i64 0] 220 (0, 0))) := Lib.hid (by rw [hW1, hk, blk_alloc, if_pos rfl])
  have HP := Lib.hid (fun (e lp : Int) (s : Nat) (hs : -(e + lp + 3) = (s : Int)) (a1 : -2000 ≤ e) (a2 : e ≤ 2000) (a3 : -2000 ≤ lp) (a4 : lp ≤ 2000) => prescale_c W1 k 364 10240000000000000000 0 s e 16 lp _ _ _ (HL.fr F1.out) HB.out (by rw [hk]; exact hg) (by decide) (by decide) (by kernel_rfl) hs a1 a2 a3 a4)
  have HK : Hid (w.heap.size ≤ k) := Lib.hid (by rw [hk]; exact Nat.le_refl _)
  have ho : bits BinOp.and IntKind.i64 6755399441055744 1 = 0 := by decide
  clear HL HB hg
  go_enter Tryz.func151, Tryz.ntmps151
  go_wp2_with fail
  refine (log10p_c (-52) (-16) _ (by decide) (by decide) (by decide)).mono ?_
  rintro e w' ⟨rfl, rfl⟩
  go_upto_region 28 with fail
  rw [← hW1, ← hk]
  clear hW1 hk
  go_wp2_with fail
  refine (log2p_c 16 53 _ (by decide) (by decide) (by decide)).mono ?_
  rintro e w' ⟨rfl, rfl⟩
  go_wp2_with fail
  refine (HP.out (-63) 53 7 (by decide) (by decide) (by decide) (by decide) (by decide)).mono ?_
  rintro e w2 ⟨rfl, S2, F2⟩
  have S2 := Lib.hid S2
  have F2 := Lib.hid (F1.out.trans F2 (fun x hx => .inr (by rw [List.mem_singleton.1 hx]; exact HK.out)))
  clear HP F1 HK
  go_wp2_with fail
  refine (uscale_c w2 k 13835058055282162688 10240000000000000000 0 7 7679999999999999431 59999999999999995 59999999999999995 S2.out (by decide) (by decide) (by decide) (by decide) (by decide) (by decide) (by decide) (by decide)).mono ?_
  rintro e w' ⟨rfl, rfl⟩
  go_wp2_with fail
  refine (nudge_c 59999999999999995 0 59999999999999995 _ (by decide) (by decide) (by decide) (by decide)).mono ?_
  rintro e w' ⟨rfl, rfl⟩
  go_wp2_with fail
  refine (ceil_c 59999999999999995 14999999999999999 _ (by decide) (by decide)).mono ?_
  rintro e w' ⟨rfl, rfl⟩
  go_wp2_with fail
  refine (uscale_c w2 k 13835058055282164736 10240000000000000000 0 7 7680000000000000568 60000000000000004 60000000000000005 S2.out (by decide) (by decide) (by decide) (by decide) (by decide) (by decide) (by decide) (by decide)).mono ?_
  rintro e w' ⟨rfl, rfl⟩
  go_wp2_with fail
  refine (nudge_c 60000000000000005 0 60000000000000005 _ (by decide) (by decide) (by decide) (by decide)).mono ?_
  rintro e w' ⟨rfl, rfl⟩
  go_wp2_with fail
  refine (ufloor_c 60000000000000005 15000000000000001 _ (by decide) (by decide)).mono ?_
  rintro e w' ⟨rfl, rfl⟩
  go_wp2
  go_ret2
  exact ⟨rfl, F2.out⟩
set_option maxRecDepth 100000 in
theorem short_05 (w : World) (HL : LdT w) (hg : 11 < w.heap.size) : Calls Tryz.prog 151 #[.int .u64 9223372036854775808, .int .i64 (-64)] w fun e w' => e = .returned (.tuple #[.int .u64 5000000000000000, .int .i64 (-16)]) ∧ Fr [] w w' := by
  obtain ⟨W1, hW1⟩ : ∃ W1, W1 = w.alloc (.cells #[.int .u64 0, .int .u64 0, .int .i64 0] 220) := ⟨_, rfl⟩
  obtain ⟨k, hk⟩ : ∃ k, k = w.heap.size := ⟨_, rfl⟩
  have F1 : Hid (Fr [] w W1) := Lib.hid (by rw [hW1]; exact (Fr.refl _ _).alloc _)
  have HB : Hid (blk W1 k = some (.cells #[.int .u64 0, .int .u64 0, .int .i64 0] 220 (0, 0))) := Lib.hid (by rw [hW1, hk, blk_alloc, if_pos rfl])
  have HP := Lib.hid (fun (e lp : Int) (s : Nat) (hs : -(e + lp + 3) = (s : Int)) (a1 : -2000 ≤ e) (a2 : e ≤ 2000) (a3 : -2000 ≤ lp) (a4 : lp ≤ 2000) => prescale_c W1 k 365 12800000000000000000 0 s e 17 lp _ _ _ (HL.fr F1.out) HB.out (by rw [hk]; exact hg) (by decide) (by decide) (by kernel_rfl) hs a1 a2 a3 a4)
  have HK : Hid (w.heap.size ≤ k) := Lib.hid (by rw [hk]; exact Nat.le_refl _)
  have ho : bits BinOp.and IntKind.i64 4503599627370496 1 = 0 := by decide
  clear HL HB hg
  go_enter Tryz.func151, Tryz.ntmps151
  go_wp2_with fail
  refine (skewed_c (-53) (-17) _ (by decide) (by decide) (by decide)).mono ?_
  rintro e w' ⟨rfl, rfl⟩
  go_upto_region 28 with fail
  rw [← hW1, ← hk]
  clear hW1 hk
  go_wp2_with fail
  refine (log2p_c 17 56 _ (by decide) (by decide) (by decide)).mono ?_
  rintro e w' ⟨rfl, rfl⟩
  go_wp2_with fail
  refine (HP.out (-64) 56 5 (by decide) (by decide) (by decide) (by decide) (by decide)).mono ?_
  rintro e w2 ⟨rfl, S2, F2⟩
  have S2 := Lib.hid S2
  have F2 := Lib.hid (F1.out.trans F2 (fun x hx => .inr (by rw [List.mem_singleton.1 hx]; exact HK.out)))
  clear HP F1 HK
  go_wp2_with fail
  refine (uscale_c w2 k 9223372036854775296 12800000000000000000 0 5 6399999999999999644 199999999999999988 199999999999999989 S2.out (by decide) (by decide) (by decide) (by decide) (by decide) (by decide) (by decide) (by decide)).mono ?_
  rintro e w' ⟨rfl, rfl⟩
  go_wp2_with fail
  refine (nudge_c 199999999999999989 0 199999999999999989 _ (by decide) (by decide) (by decide) (by decide)).mono ?_
  rintro e w' ⟨rfl, rfl⟩
  go_wp2_with fail
  refine (ceil_c 199999999999999989 49999999999999998 _ (by decide) (by decide)).mono ?_
  rintro e w' ⟨rfl, rfl⟩
  go_wp2_with fail
  refine (uscale_c w2 k 9223372036854776832 12800000000000000000 0 5 6400000000000000710 200000000000000022 200000000000000023 S2.out (by decide) (by decide) (by decide) (by decide) (by decide) (by decide) (by decide) (by decide)).mono ?_
  rintro e w' ⟨rfl, rfl⟩
  go_wp2_with fail
  refine (nudge_c 200000000000000023 0 200000000000000023 _ (by decide) (by decide) (by decide) (by decide)).mono ?_
  rintro e w' ⟨rfl, rfl⟩
  go_wp2_with fail
  refine (ufloor_c 200000000000000023 50000000000000005 _ (by decide) (by decide)).mono ?_
  rintro e w' ⟨rfl, rfl⟩
  go_wp2
  go_ret2
  exact ⟨rfl, F2.out⟩
set_option maxRecDepth 100000 in
theorem short_100 (w : World) (HL : LdT w) (hg : 11 < w.heap.size) : Calls Tryz.prog 151 #[.int .u64 14411518807585587200, .int .i64 (-57)] w fun e w' => e = .returned (.tuple #[.int .u64 1000000000000000, .int .i64 (-13)]) ∧ Fr [] w w' := by
  obtain ⟨W1, hW1⟩ : ∃ W1, W1 = w.alloc (.cells #[.int .u64 0, .int .u64 0, .int .i64 0] 220) := ⟨_, rfl⟩
  obtain ⟨k, hk⟩ : ∃ k, k = w.heap.size := ⟨_, rfl⟩
  have F1 : Hid (Fr [] w W1) := Lib.hid (by rw [hW1]; exact (Fr.refl _ _).alloc _)
  have HB : Hid (blk W1 k = some (.cells #[.int .u64 0, .int .u64 0, .int .i64 0] 220 (0, 0))) := Lib.hid (by rw [hW1, hk, blk_alloc, if_pos rfl])
  have HP := Lib.hid (fun (e lp : Int) (s : Nat) (hs : -(e + lp + 3) = (s : Int)) (a1 : -2000 ≤ e) (a2 : e ≤ 2000) (a3 : -2000 ≤ lp) (a4 : lp ≤ 2000) => prescale_c W1 k 362 13107200000000000000 0 s e 14 lp _ _ _ (HL.fr F1.out) HB.out (by rw [hk]; exact hg) (by decide) (by decide) (by kernel_rfl) hs a1 a2 a3 a4)
  have HK : Hid (w.heap.size ≤ k) := Lib.hid (by rw [hk]; exact Nat.le_refl _)
  have ho : bits BinOp.and IntKind.i64 7036874417766400 1 = 0 := by decide
  clear HL HB hg
  go_enter Tryz.func151, Tryz.ntmps151
  go_wp2_with fail
  refine (log10p_c (-46) (-14) _ (by decide) (by decide) (by decide)).mono ?_
  rintro e w' ⟨rfl, rfl⟩
  go_upto_region 28 with fail
  rw [← hW1, ← hk]
  clear hW1 hk
  go_wp2_with fail
  refine (log2p_c 14 46 _ (by decide) (by decide) (by decide)).mono ?_
  rintro e w' ⟨rfl, rfl⟩
  go_wp2_with fail
  refine (HP.out (-57) 46 8 (by decide) (by decide) (by decide) (by decide) (by decide)).mono ?_
  rintro e w2 ⟨rfl, S2, F2⟩
  have S2 := Lib.hid S2
  have F2 := Lib.hid (F1.out.trans F2 (fun x hx => .inr (by rw [List.mem_singleton.1 hx]; exact HK.out)))
  clear HP F1 HK
  go_wp2_with fail
  refine (uscale_c w2 k 14411518807585586176 13107200000000000000 0 8 10239999999999999272 39999999999999997 39999999999999997 S2.out (by decide) (by decide) (by decide) (by decide) (by decide) (by decide) (by decide) (by decide)).mono ?_
  rintro e w' ⟨rfl, rfl⟩
  go_wp2_with fail
  refine (nudge_c 39999999999999997 0 39999999999999997 _ (by decide) (by decide) (by decide) (by decide)).mono ?_
  rintro e w' ⟨rfl, rfl⟩
  go_wp2_with fail
  refine (ceil_c 39999999999999997 10000000000000000 _ (by decide) (by decide)).mono ?_
  rintro e w' ⟨rfl, rfl⟩
  go_wp2_with fail
  refine (uscale_c w2 k 14411518807585588224 13107200000000000000 0 8 10240000000000000727 40000000000000002 40000000000000003 S2.out (by decide) (by decide) (by decide) (by decide) (by decide) (by decide) (by decide) (by decide)).mono ?_
  rintro e w' ⟨rfl, rfl⟩
  go_wp2_with fail
  refine (nudge_c 40000000000000003 0 40000000000000003 _ (by decide) (by decide) (by decide) (by decide)).mono ?_
  rintro e w' ⟨rfl, rfl⟩
  go_wp2_with fail
  refine (ufloor_c 40000000000000003 10000000000000000 _ (by decide) (by decide)).mono ?_
  rintro e w' ⟨rfl, rfl⟩
  go_wp2
  go_ret2
  exact ⟨rfl, F2.out⟩
set_option maxRecDepth 100000 in
theorem short_e21 (w : World) (HL : LdT w) (hg : 11 < w.heap.size) : Calls Tryz.prog 151 #[.int .u64 15625000000000000000, .int .i64 6] w fun e w' => e = .returned (.tuple #[.int .u64 1000000000000000, .int .i64 6]) ∧ Fr [] w w' := by
  obtain ⟨W1, hW1⟩ : ∃ W1, W1 = w.alloc (.cells #[.int .u64 0, .int .u64 0, .int .i64 0] 220) := ⟨_, rfl⟩
  obtain ⟨k, hk⟩ : ∃ k, k = w.heap.size := ⟨_, rfl⟩
  have F1 : Hid (Fr [] w W1) := Lib.hid (by rw [hW1]; exact (Fr.refl _ _).alloc _)
  have HB : Hid (blk W1 k = some (.cells #[.int .u64 0, .int .u64 0, .int .i64 0] 220 (0, 0))) := Lib.hid (by rw [hW1, hk, blk_alloc, if_pos rfl])
  have HP := Lib.hid (fun (e lp : Int) (s : Nat) (hs : -(e + lp + 3) = (s : Int)) (a1 : -2000 ≤ e) (a2 : e ≤ 2000) (a3 : -2000 ≤ lp) (a4 : lp ≤ 2000) => prescale_c W1 k 343 12089258196146291748 17307473159717249708 s e (-5) lp _ _ _ (HL.fr F1.out) HB.out (by rw [hk]; exact hg) (by decide) (by decide) (by kernel_rfl) hs a1 a2 a3 a4)
  have HK : Hid (w.heap.size ≤ k) := Lib.hid (by rw [hk]; exact Nat.le_refl _)
  have ho : bits BinOp.and IntKind.i64 7629394531250000 1 = 0 := by decide
  clear HL HB hg
  go_enter Tryz.func151, Tryz.ntmps151
  go_wp2_with fail
  refine (log10p_c 17 5 _ (by decide) (by decide) (by decide)).mono ?_
  rintro e w' ⟨rfl, rfl⟩
  go_upto_region 28 with fail
  rw [← hW1, ← hk]
  clear hW1 hk
  go_wp2_with fail
  refine (log2p_c (-5) (-17) _ (by decide) (by decide) (by decide)).mono ?_
  rintro e w' ⟨rfl, rfl⟩
  go_wp2_with fail
  refine (HP.out 6 (-17) 8 (by decide) (by decide) (by decide) (by decide) (by decide)).mono ?_
  rintro e w2 ⟨rfl, S2, F2⟩
  have S2 := Lib.hid S2
  have F2 := Lib.hid (F1.out.trans F2 (fun x hx => .inr (by rw [List.mem_singleton.1 hx]; exact HK.out)))
  clear HP F1 HK
  go_wp2_with fail
  refine (uscale_c w2 k 15624999999999998976 12089258196146291748 17307473159717249708 8 10239999999999999329 39999999999999997 39999999999999997 S2.out (by decide) (by decide) (by decide) (by decide) (by decide) (by decide) (by decide) (by decide)).mono ?_
  rintro e w' ⟨rfl, rfl⟩
  go_wp2_with fail
  refine (nudge_c 39999999999999997 0 39999999999999997 _ (by decide) (by decide) (by decide) (by decide)).mono ?_
  rintro e w' ⟨rfl, rfl⟩
  go_wp2_with fail
  refine (ceil_c 39999999999999997 10000000000000000 _ (by decide) (by decide)).mono ?_
  rintro e w' ⟨rfl, rfl⟩
  go_wp2_with fail
  refine (uscale_c w2 k 15625000000000001024 12089258196146291748 17307473159717249708 8 10240000000000000671 40000000000000002 40000000000000003 S2.out (by decide) (by decide) (by decide) (by decide) (by decide) (by decide) (by decide) (by decide)).mono ?_
  rintro e w' ⟨rfl, rfl⟩
  go_wp2_with fail
  refine (nudge_c 40000000000000003 0 40000000000000003 _ (by decide) (by decide) (by decide) (by decide)).mono ?_
  rintro e w' ⟨rfl, rfl⟩
  go_wp2_with fail
  refine (ufloor_c 40000000000000003 10000000000000000 _ (by decide) (by decide)).mono ?_
  rintro e w' ⟨rfl, rfl⟩
  go_wp2
  go_ret2
  exact ⟨rfl, F2.out⟩
set_option maxRecDepth 100000 in
theorem short_m4 (w : World) (HL : LdT w) (hg : 11 < w.heap.size) : Calls Tryz.prog 151 #[.int .u64 15111572745182865408, .int .i64 (-77)] w fun e w' => e = .returned (.tuple #[.int .u64 1000000000000000, .int .i64 (-19)]) ∧ Fr [] w w' := by
  obtain ⟨W1, hW1⟩ : ∃ W1, W1 = w.alloc (.cells #[.int .u64 0, .int .u64 0, .int .i64 0] 220) := ⟨_, rfl⟩
  obtain ⟨k, hk⟩ : ∃ k, k = w.heap.size := ⟨_, rfl⟩
  have F1 : Hid (Fr [] w W1) := Lib.hid (by rw [hW1]; exact (Fr.refl _ _).alloc _)
  have HB : Hid (blk W1 k = some (.cells #[.int .u64 0, .int .u64 0, .int .i64 0] 220 (0, 0))) := Lib.hid (by rw [hW1, hk, blk_alloc, if_pos rfl])
  have HP := Lib.hid (fun (e lp : Int) (s : Nat) (hs : -(e + lp + 3) = (s : Int)) (a1 : -2000 ≤ e) (a2 : e ≤ 2000) (a3 : -2000 ≤ lp) (a4 : lp ≤ 2000) => prescale_c W1 k 368 12500000000000000000 0 s e 20 lp _ _ _ (HL.fr F1.out) HB.out (by rw [hk]; exact hg) (by decide) (by decide) (by kernel_rfl) hs a1 a2 a3 a4)
  have HK : Hid (w.heap.size ≤ k) := Lib.hid (by rw [hk]; exact Nat.le_refl _)
  have ho : bits BinOp.and IntKind.i64 7378697629483821 1 = 1 := by decide
  clear HL HB hg
  go_enter Tryz.func151, Tryz.ntmps151
  go_wp2_with fail
  refine (log10p_c (-66) (-20) _ (by decide) (by decide) (by decide)).mono ?_
  rintro e w' ⟨rfl, rfl⟩
  go_upto_region 28 with fail
  rw [← hW1, ← hk]
  clear hW1 hk
  go_wp2_with fail
  refine (log2p_c 20 66 _ (by decide) (by decide) (by decide)).mono ?_
  rintro e w' ⟨rfl, rfl⟩
  go_wp2_with fail
  refine (HP.out (-77) 66 8 (by decide) (by decide) (by decide) (by decide) (by decide)).mono ?_
  rintro e w2 ⟨rfl, S2, F2⟩
  have S2 := Lib.hid S2
  have F2 := Lib.hid (F1.out.trans F2 (fun x hx => .inr (by rw [List.mem_singleton.1 hx]; exact HK.out)))
  clear HP F1 HK
  go_wp2_with fail
  refine (uscale_c w2 k 15111572745182864384 12500000000000000000 0 8 10239999999999999796 39999999999999999 39999999999999999 S2.out (by decide) (by decide) (by decide) (by decide) (by decide) (by decide) (by decide) (by decide)).mono ?_
  rintro e w' ⟨rfl, rfl⟩
  go_wp2_with fail
  refine (nudge_c 39999999999999999 1 40000000000000000 _ (by decide) (by decide) (by decide) (by decide)).mono ?_
  rintro e w' ⟨rfl, rfl⟩
  go_wp2_with fail
  refine (ceil_c 40000000000000000 10000000000000000 _ (by decide) (by decide)).mono ?_
  rintro e w' ⟨rfl, rfl⟩
  go_wp2_with fail
  refine (uscale_c w2 k 15111572745182866432 12500000000000000000 0 8 10240000000000001184 40000000000000004 40000000000000005 S2.out (by decide) (by decide) (by decide) (by decide) (by decide) (by decide) (by decide) (by decide)).mono ?_
  rintro e w' ⟨rfl, rfl⟩
  go_wp2_with fail
  refine (nudge_c 40000000000000005 (-1) 40000000000000004 _ (by decide) (by decide) (by decide) (by decide)).mono ?_
  rintro e w' ⟨rfl, rfl⟩
  go_wp2_with fail
  refine (ufloor_c 40000000000000004 10000000000000001 _ (by decide) (by decide)).mono ?_
  rintro e w' ⟨rfl, rfl⟩
  go_wp2
  go_ret2
  exact ⟨rfl, F2.out⟩
end Go.Proofs.YtcjkgnafpkkjmaaGreatDoor
namespace Go.Proofs.YtcjkgnafpkkjmaaGreatDoor
open Go.ChangeShapes Go.WideShapes Go.RowKit Go.Shelf Go.Sort Go.Lib
def encB (b : UInt8) : Value := .int .u8 (b.toNat : Int)
theorem blk_mapB (w : World) (g : Nat) (f : Array Value → Array Value) (k : Nat) : blk (mapBlock w g f) k = if k = g then (blk w k).map (onCells f) else blk w k := by
  unfold blk mapBlock
  simp only [Array.getElem?_modify]
  by_cases h : k = g
  · subst h; simp
  · rw [if_neg h, if_neg (fun hc => h hc.symm)]
theorem fr_putB (w : World) (g o : Nat) (d : Array UInt8) : Fr [g] w (putRow encB w g o d) := by
  refine ⟨rfl, rfl, rfl, by simp [putRow, mapBlock], fun k hk hn => ?_⟩
  unfold putRow
  rw [blk_mapB, if_neg (by simpa using hn)]
def dgN (u j : Nat) : Nat := 48 + u / 10 ^ j % 10
theorem dg_nat (u j : Nat) : (dg u j).toNat = dgN u j := by
  unfold dg dgN
  simp only [UInt8.toNat_ofNat']
  have : u / 10 ^ j % 10 < 10 := Nat.mod_lt _ (by decide)
  omega
def DigAt (w : World) (g nd d : Nat) : Prop := ∀ t, t < nd → w.cell? ⟨g, t, none⟩ = some (.int .u8 ((dgN d (nd - 1 - t) : Nat) : Int))
theorem format_c (w : World) (g nd d : Nat) (hd : d < 10 ^ nd) (h64 : d < 18446744073709551616) (hnd : nd ≤ 32) (hc : blk w g = some (.cells (Array.replicate 32 (.int .u8 0)) 162 (0, 0))) :
    Calls Tryz.prog 158 #[.slice (some ⟨g, 0, none⟩) nd 32, .int .u64 (d : Int)] w fun e w' => e = .returned (.tuple #[]) ∧ DigAt w' g nd d ∧ Fr [g] w w' := by
  have hH : Holds encB w g 0 (Array.replicate nd 0) := by
    intro j hj
    have hj' : j < nd := by simpa using hj
    rw [Nat.zero_add]
    refine ⟨?_, free_of hc⟩
    have : (Array.replicate 32 (Value.int .u8 0))[j]? = some (.int .u8 0) := by
      rw [Array.getElem?_replicate, if_pos (by omega)]
    rw [cell_of hc this]
    have : (Array.replicate nd (0 : UInt8))[j]! = 0 := by rw [getElem!_pos _ _ (by simpa using hj')]; simp
    rw [this]; rfl
  have := Tryz.internal_strconv_formatBase10 g 0 32 d (Array.replicate nd 0) w hH (by simpa using hd) h64 (by simp; omega)
  rw [Array.size_replicate] at this
  refine this.mono ?_
  rintro e w' ⟨rfl, n, v', dk, rfl, hF⟩
  refine ⟨rfl, fun t ht => ?_, (fr_putB w g 0 dk).drewN n⟩
  have h1 := cell?_putRow encB w g 0 (Array.replicate nd 0) dk hH (by rw [hF.size]; simp) t (by rw [hF.size]; exact ht)
  rw [Nat.zero_add, hF.done t (Nat.zero_le _) ht] at h1
  show (putRow encB w g 0 dk).cell? _ = _
  rw [h1, ← dg_nat]
  rfl
set_option maxRecDepth 20000 in
theorem setdig_c (w : World) (g nd z d : Nat) (p : Int) (hd : d < 10 ^ nd) (h64 : d < 18446744073709551616) (hnd : nd ≤ 32) (hp1 : -100 ≤ p) (hp2 : p ≤ 100) (hzn : z ≤ nd) (hz : ∀ t, z ≤ t → t < nd → dgN d (nd - 1 - t) = 48) (hz1 : 1 ≤ z) (hz2 : dgN d (nd - z) ≠ 48) (hc : blk w g = some (.cells (Array.replicate 32 (.int .u8 0)) 162 (0, 0))) :
    Calls Tryz.prog 144 #[.slice (some ⟨g, 0, none⟩) 32 32, .int .u64 (d : Int), .int .i64 p, .int .i64 (nd : Int)] w fun e w' => e = .returned (.tuple #[.int .i64 (nd + p), .int .i64 (z : Int)]) ∧ DigAt w' g nd d ∧ Fr [g] w w' := by
  have CF := Lib.hid (format_c w g nd d hd h64 hnd hc)
  have kl := lt_size hc
  have HZ := Lib.hid hz
  have HZ2 := Lib.hid hz2
  clear hz hz2 h64 hd hc
  go_enter Tryz.func144, Tryz.ntmps144
  go_wp2_with fail
  refine CF.out.mono ?_
  rintro e w1 ⟨rfl, D1, F1⟩
  have D1 := Lib.hid D1
  have F1 := Lib.hid F1
  clear CF kl
  go_wp2_with fail
  go_loopw [3] (fun u wr => ∃ t : Nat, z ≤ t ∧ t ≤ nd ∧ u = .int .i64 (t : Int) ∧ w1 = wr) (fun u _ => (RowKit.intOf u).toNat)
  case atStart => exact ⟨nd, hzn, Nat.le_refl _, rfl, rfl⟩
  case round =>
    obtain ⟨t, ht1, ht2, rfl, rfl⟩ := hrel
    have hc := D1.out (t - 1) (by omega)
    obtain ⟨q, hq⟩ : ∃ q, t = q + 1 := ⟨t - 1, by omega⟩
    subst hq
    rw [Nat.add_sub_cancel] at hc
    obtain ⟨y, hy⟩ : ∃ y, y = dgN d (nd - 1 - q) := ⟨_, rfl⟩
    rw [← hy] at hc
    have hlt := addr_none hc
    by_cases hzt : z ≤ q
    · have hy0 : y = 48 := by rw [hy]; exact HZ.out q hzt (by omega)
      subst hy0
      clear hy
      go_wp2_with fail
      go_roundw
      case rel => exact ⟨q, hzt, by omega, by go_num, trivial⟩
      case measure => simp [RowKit.intOf]
    · have hyz : y ≠ 48 := by
        have : nd - 1 - q = nd - z := by omega
        rw [hy, this]; exact HZ2.out
      have hyb : ((y : Int) == 48) = false := by simpa using fun hc => hyz (by omega)
      have hqz : q + 1 = z := by omega
      have HQ := Lib.hid hqz
      clear hy hyz hqz
      go_wp2_with fail
      go_ret2
      rw [← HQ.out]
      exact ⟨rfl, D1.out, F1.out⟩
end Go.Proofs.YtcjkgnafpkkjmaaGreatDoor
namespace Go.Proofs.YtcjkgnafpkkjmaaGreatDoor
open Go.ChangeShapes Go.WideShapes Go.RowKit Go.Shelf Go.Lib
theorem info_u8 : (Tryz.prog.info? 5).map (fun i => (i.zero, i.size, i.bytes)) = some (some (.int .u8 0), 1, 1) := by kernel_rfl
structure RowB (w0 : World) (g : Nat) (ds : List Int) (wr : World) (x cap n : Nat) (L : List Value) : Prop where
  own : wr.ownsRow w0.heap.size 5 1 (.slice (some ⟨x, 0, none⟩) n cap) n L
  ne : x ≠ g
  dig : ∀ t v, ds[t]? = some v → wr.cell? ⟨g, t, none⟩ = some (.int .u8 v)
  lt : g < wr.heap.size
  fr : Fr [] w0 wr
theorem wpB_app {ops : Array Oper} {rest : List Oper} {o : Oper} {a : Act} {Q : Exit → Act → World → Prop} (hgd : o.guard = none) (s x : Operand) (ho : o.op = .call { callee := .builtin .append, args := #[s, x], argTypes := #[123, 123] })
    {w0 wr : World} {g x0 cap n : Nat} {ds : List Int} {L : List Value} (R : RowB w0 g ds wr x0 cap n L) (m n' : Nat) (news : List Value) (hs : a.eval s = .slice (some ⟨x0, 0, none⟩) n cap) (hx : a.eval x = .slice (some ⟨wr.heap.size, 0, none⟩) m m) (hl : news.length = m) (h1 : ∀ u ∈ news, u.oneCell' = true) (hm : 0 < m) (hn : n + m = n') (hb : n' ≤ 1000)
    (h : ∀ x5 cap5 w5, RowB w0 g ds w5 x5 cap5 n' (L ++ news) → wpList Tryz.prog ops Q rest (a.put o.dst (.slice (some ⟨x5, 0, none⟩) n' cap5)) w5) : wpList Tryz.prog ops Q (o :: rest) a (wr.alloc (.cells news.toArray 5)) := by
  obtain ⟨i0, hi, hz0, hz1, hz2⟩ := info_parts info_u8
  have hF1 : Fr [] wr (wr.alloc (.cells news.toArray 5)) := (Fr.refl [] wr).alloc _
  have hown : (wr.alloc (.cells news.toArray 5)).ownsRow w0.heap.size 5 1 (.slice (some ⟨x0, 0, none⟩) n cap) n L := own_fr R.own hF1 (by simp)
  have hB : w0.heap.size ≤ (wr.alloc (.cells news.toArray 5)).heap.size := by have := R.fr.size; rw [size_alloc]; omega
  refine wpList_append_lies _ hgd s x 123 ho w0.heap.size 5 i0 (.int .u8 0) 1 1 Tryz.underlying123 hi hz0 hz1 hz2 rfl (by omega) (.slice (some ⟨x0, 0, none⟩) n cap) n L hs hown ⟨wr.heap.size, 0, none⟩ m m news hx (by omega) (World.news_of_block (heap_alloc_new wr _)) h1 hm (by unfold maxLen; omega) (by omega) hB _ rfl ?_
  intro g5 cap5 w5 own5 gr5 at5 lt5
  subst hn
  have hg := grown_fr gr5
  have hx5 : g5 ≠ g := by
    rcases at5 with h5 | h5
    · have : x0 = g5 := by simpa [Value.ownBlock] using h5
      rw [← this]; exact R.ne
    · have := R.lt; rw [h5, size_alloc]; omega
  have hgn : g < (wr.alloc (.cells news.toArray 5)).heap.size := by rw [size_alloc]; have := R.lt; omega
  refine h g5 cap5 w5 ⟨own5, hx5, fun t v hv => ?_, Nat.lt_of_lt_of_le hgn hg.size, ?_⟩
  · have hc := R.dig t v hv
    rw [cell_fr hg hgn (fun hm => R.ne (by simpa [Value.ownBlock, eq_comm] using hm)), cell_fr hF1 R.lt (by simp)]
    exact hc
  · refine (R.fr.alloc _).trans hg ?_
    intro y hy
    right
    exact own_base (by have : y = x0 := by simpa [Value.ownBlock] using hy
                       rw [this]; exact R.own)
end Go.Proofs.YtcjkgnafpkkjmaaGreatDoor
namespace Go.Proofs.YtcjkgnafpkkjmaaGreatDoor
open Go.ChangeShapes Go.WideShapes Go.RowKit Go.Shelf Go.Lib
set_option maxRecDepth 100000 in
set_option maxHeartbeats 1000000 in
theorem efg_15 (w0 w : World) (g x cap : Nat) (R : RowB w0 g [49, 53] w x cap 0 []) : Calls Tryz.prog 141 #[.slice (some ⟨x, 0, none⟩) 0 cap, .bool false, .slice (some ⟨g, 0, none⟩) 32 32, .int .i64 1, .int .i64 2, .int .i64 1, .int .u8 102, .bool true] w fun e w' => ∃ x5 c5, e = .returned (.slice (some ⟨x5, 0, none⟩) 3 c5) ∧ RowB w0 g [49, 53] w' x5 c5 3 [.int .u8 49, .int .u8 46, .int .u8 53] := by
  have R0 := Lib.hid R
  clear R
  have d0_0 := R0.out.dig 0 49 rfl; have d0_1 := R0.out.dig 1 53 rfl; have l0 := R0.out.lt
  have m0 : min (2 : Int) 1 = 1 := by decide
  have m1 : max (0 : Int) (-1) = 0 := by decide
  have m2 : min (1 : Int) 0 = 0 := by decide
  have m3 : max (0 : Int) 1 = 1 := by decide
  go_enter Tryz.func141, Tryz.ntmps141
  go_wp2_with fail
  refine wp_loop_rounds 2 ?_
  rw [rounds_succ]
  go_wp2_with (first | (at_builtin; refine wpB_app rfl _ _ rfl R0.out 1 1 [.int .u8 49] rfl rfl rfl (by intro u hu; simp only [List.mem_cons, List.not_mem_nil, or_false] at hu; rcases hu with rfl <;> rfl) (by decide) rfl (by decide) ?_; intro x1 c1 w1 R1; have R1 : Hid (RowB w0 g [49, 53] w1 x1 c1 1 [.int .u8 49]) := Lib.hid R1; clear d0_0 d0_1 l0 R0; have d1_0 := R1.out.dig 0 49 rfl; have d1_1 := R1.out.dig 1 53 rfl; have l1 := R1.out.lt))
  rw [rounds_succ]
  go_wp2_with fail
  refine wp_loop_rounds 1 ?_
  rw [rounds_succ]
  go_wp2_with (first | (at_builtin; refine wpB_app rfl _ _ rfl R1.out 1 2 [.int .u8 46] rfl rfl rfl (by intro u hu; simp only [List.mem_cons, List.not_mem_nil, or_false] at hu; rcases hu with rfl <;> rfl) (by decide) rfl (by decide) ?_; intro x2 c2 w2 R2; have R2 : Hid (RowB w0 g [49, 53] w2 x2 c2 2 [.int .u8 49, .int .u8 46]) := Lib.hid R2; clear d1_0 d1_1 l1 R1; have d2_0 := R2.out.dig 0 49 rfl; have d2_1 := R2.out.dig 1 53 rfl; have l2 := R2.out.lt))
  refine wp_loop_rounds 1 ?_
  rw [rounds_succ]
  go_wp2_with fail
  refine wp_loop_rounds 2 ?_
  rw [rounds_succ]
  go_wp2_with (first | (at_builtin; refine wpB_app rfl _ _ rfl R2.out 1 3 [.int .u8 53] rfl rfl rfl (by intro u hu; simp only [List.mem_cons, List.not_mem_nil, or_false] at hu; rcases hu with rfl <;> rfl) (by decide) rfl (by decide) ?_; intro x3 c3 w3 R3; have R3 : Hid (RowB w0 g [49, 53] w3 x3 c3 3 [.int .u8 49, .int .u8 46, .int .u8 53]) := Lib.hid R3; clear d2_0 d2_1 l2 R2; have d3_0 := R3.out.dig 0 49 rfl; have d3_1 := R3.out.dig 1 53 rfl; have l3 := R3.out.lt))
  rw [rounds_succ]
  go_wp2_with fail
  refine wp_loop_rounds 1 ?_
  rw [rounds_succ]
  go_wp2_with fail
  go_ret
  exact ⟨x3, c3, rfl, R3.out⟩
set_option maxRecDepth 100000 in
set_option maxHeartbeats 1000000 in
theorem efg_05 (w0 w : World) (g x cap : Nat) (R : RowB w0 g [53] w x cap 0 []) : Calls Tryz.prog 141 #[.slice (some ⟨x, 0, none⟩) 0 cap, .bool false, .slice (some ⟨g, 0, none⟩) 32 32, .int .i64 0, .int .i64 1, .int .i64 1, .int .u8 102, .bool true] w fun e w' => ∃ x5 c5, e = .returned (.slice (some ⟨x5, 0, none⟩) 3 c5) ∧ RowB w0 g [53] w' x5 c5 3 [.int .u8 48, .int .u8 46, .int .u8 53] := by
  have R0 := Lib.hid R
  clear R
  have d0_0 := R0.out.dig 0 53 rfl; have l0 := R0.out.lt
  have m0 : min (1 : Int) 0 = 0 := by decide
  have m1 : max (0 : Int) 1 = 1 := by decide
  go_enter Tryz.func141, Tryz.ntmps141
  go_wp2_with (first | (at_builtin; refine wpB_app rfl _ _ rfl R0.out 1 1 [.int .u8 48] rfl rfl rfl (by intro u hu; simp only [List.mem_cons, List.not_mem_nil, or_false] at hu; rcases hu with rfl <;> rfl) (by decide) rfl (by decide) ?_; intro x1 c1 w1 R1; have R1 : Hid (RowB w0 g [53] w1 x1 c1 1 [.int .u8 48]) := Lib.hid R1; clear d0_0 l0 R0; have d1_0 := R1.out.dig 0 53 rfl; have l1 := R1.out.lt) | (at_builtin; refine wpB_app rfl _ _ rfl R1.out 1 2 [.int .u8 46] rfl rfl rfl (by intro u hu; simp only [List.mem_cons, List.not_mem_nil, or_false] at hu; rcases hu with rfl <;> rfl) (by decide) rfl (by decide) ?_; intro x2 c2 w2 R2; have R2 : Hid (RowB w0 g [53] w2 x2 c2 2 [.int .u8 48, .int .u8 46]) := Lib.hid R2; clear d1_0 l1 R1; have d2_0 := R2.out.dig 0 53 rfl; have l2 := R2.out.lt))
  refine wp_loop_rounds 1 ?_
  rw [rounds_succ]
  go_wp2_with fail
  refine wp_loop_rounds 2 ?_
  rw [rounds_succ]
  go_wp2_with (first | (at_builtin; refine wpB_app rfl _ _ rfl R2.out 1 3 [.int .u8 53] rfl rfl rfl (by intro u hu; simp only [List.mem_cons, List.not_mem_nil, or_false] at hu; rcases hu with rfl <;> rfl) (by decide) rfl (by decide) ?_; intro x3 c3 w3 R3; have R3 : Hid (RowB w0 g [53] w3 x3 c3 3 [.int .u8 48, .int .u8 46, .int .u8 53]) := Lib.hid R3; clear d2_0 l2 R2; have d3_0 := R3.out.dig 0 53 rfl; have l3 := R3.out.lt))
  rw [rounds_succ]
  go_wp2_with fail
  refine wp_loop_rounds 1 ?_
  rw [rounds_succ]
  go_wp2_with fail
  go_ret
  exact ⟨x3, c3, rfl, R3.out⟩
set_option maxRecDepth 100000 in
set_option maxHeartbeats 1000000 in
theorem efg_100 (w0 w : World) (g x cap : Nat) (R : RowB w0 g [49] w x cap 0 []) : Calls Tryz.prog 141 #[.slice (some ⟨x, 0, none⟩) 0 cap, .bool false, .slice (some ⟨g, 0, none⟩) 32 32, .int .i64 3, .int .i64 1, .int .i64 0, .int .u8 102, .bool true] w fun e w' => ∃ x5 c5, e = .returned (.slice (some ⟨x5, 0, none⟩) 3 c5) ∧ RowB w0 g [49] w' x5 c5 3 [.int .u8 49, .int .u8 48, .int .u8 48] := by
  have R0 := Lib.hid R
  clear R
  have d0_0 := R0.out.dig 0 49 rfl; have l0 := R0.out.lt
  have m0 : min (1 : Int) 3 = 1 := by decide
  go_enter Tryz.func141, Tryz.ntmps141
  go_wp2_with fail
  refine wp_loop_rounds 2 ?_
  rw [rounds_succ]
  go_wp2_with (first | (at_builtin; refine wpB_app rfl _ _ rfl R0.out 1 1 [.int .u8 49] rfl rfl rfl (by intro u hu; simp only [List.mem_cons, List.not_mem_nil, or_false] at hu; rcases hu with rfl <;> rfl) (by decide) rfl (by decide) ?_; intro x1 c1 w1 R1; have R1 : Hid (RowB w0 g [49] w1 x1 c1 1 [.int .u8 49]) := Lib.hid R1; clear d0_0 l0 R0; have d1_0 := R1.out.dig 0 49 rfl; have l1 := R1.out.lt))
  rw [rounds_succ]
  go_wp2_with fail
  refine wp_loop_rounds 3 ?_
  rw [rounds_succ]
  go_wp2_with (first | (at_builtin; refine wpB_app rfl _ _ rfl R1.out 1 2 [.int .u8 48] rfl rfl rfl (by intro u hu; simp only [List.mem_cons, List.not_mem_nil, or_false] at hu; rcases hu with rfl <;> rfl) (by decide) rfl (by decide) ?_; intro x2 c2 w2 R2; have R2 : Hid (RowB w0 g [49] w2 x2 c2 2 [.int .u8 49, .int .u8 48]) := Lib.hid R2; clear d1_0 l1 R1; have d2_0 := R2.out.dig 0 49 rfl; have l2 := R2.out.lt))
  rw [rounds_succ]
  go_wp2_with (first | (at_builtin; refine wpB_app rfl _ _ rfl R2.out 1 3 [.int .u8 48] rfl rfl rfl (by intro u hu; simp only [List.mem_cons, List.not_mem_nil, or_false] at hu; rcases hu with rfl <;> rfl) (by decide) rfl (by decide) ?_; intro x3 c3 w3 R3; have R3 : Hid (RowB w0 g [49] w3 x3 c3 3 [.int .u8 49, .int .u8 48, .int .u8 48]) := Lib.hid R3; clear d2_0 l2 R2; have d3_0 := R3.out.dig 0 49 rfl; have l3 := R3.out.lt))
  rw [rounds_succ]
  go_wp2_with fail
  go_ret
  exact ⟨x3, c3, rfl, R3.out⟩
set_option maxRecDepth 100000 in
set_option maxHeartbeats 1000000 in
theorem efg_e21 (w0 w : World) (g x cap : Nat) (R : RowB w0 g [49] w x cap 0 []) : Calls Tryz.prog 141 #[.slice (some ⟨x, 0, none⟩) 0 cap, .bool false, .slice (some ⟨g, 0, none⟩) 32 32, .int .i64 22, .int .i64 1, .int .i64 0, .int .u8 101, .bool true] w fun e w' => ∃ x5 c5, e = .returned (.slice (some ⟨x5, 0, none⟩) 5 c5) ∧ RowB w0 g [49] w' x5 c5 5 [.int .u8 49, .int .u8 101, .int .u8 43, .int .u8 50, .int .u8 49] := by
  have R0 := Lib.hid R
  clear R
  have d0_0 := R0.out.dig 0 49 rfl; have l0 := R0.out.lt
  go_enter Tryz.func141, Tryz.ntmps141
  go_wp2_with (first | (at_builtin; refine wpB_app rfl _ _ rfl R0.out 1 1 [.int .u8 49] rfl rfl rfl (by intro u hu; simp only [List.mem_cons, List.not_mem_nil, or_false] at hu; rcases hu with rfl <;> rfl) (by decide) rfl (by decide) ?_; intro x1 c1 w1 R1; have R1 : Hid (RowB w0 g [49] w1 x1 c1 1 [.int .u8 49]) := Lib.hid R1; clear d0_0 l0 R0; have d1_0 := R1.out.dig 0 49 rfl; have l1 := R1.out.lt) | (at_builtin; refine wpB_app rfl _ _ rfl R1.out 1 2 [.int .u8 101] rfl rfl rfl (by intro u hu; simp only [List.mem_cons, List.not_mem_nil, or_false] at hu; rcases hu with rfl <;> rfl) (by decide) rfl (by decide) ?_; intro x2 c2 w2 R2; have R2 : Hid (RowB w0 g [49] w2 x2 c2 2 [.int .u8 49, .int .u8 101]) := Lib.hid R2; clear d1_0 l1 R1; have d2_0 := R2.out.dig 0 49 rfl; have l2 := R2.out.lt) | (at_builtin; refine wpB_app rfl _ _ rfl R2.out 1 3 [.int .u8 43] rfl rfl rfl (by intro u hu; simp only [List.mem_cons, List.not_mem_nil, or_false] at hu; rcases hu with rfl <;> rfl) (by decide) rfl (by decide) ?_; intro x3 c3 w3 R3; have R3 : Hid (RowB w0 g [49] w3 x3 c3 3 [.int .u8 49, .int .u8 101, .int .u8 43]) := Lib.hid R3; clear d2_0 l2 R2; have d3_0 := R3.out.dig 0 49 rfl; have l3 := R3.out.lt) | (at_builtin; refine wpB_app rfl _ _ rfl R3.out 2 5 [.int .u8 50, .int .u8 49] rfl rfl rfl (by intro u hu; simp only [List.mem_cons, List.not_mem_nil, or_false] at hu; rcases hu with rfl | rfl <;> rfl) (by decide) rfl (by decide) ?_; intro x4 c4 w4 R4; have R4 : Hid (RowB w0 g [49] w4 x4 c4 5 [.int .u8 49, .int .u8 101, .int .u8 43, .int .u8 50, .int .u8 49]) := Lib.hid R4; clear d3_0 l3 R3; have d4_0 := R4.out.dig 0 49 rfl; have l4 := R4.out.lt))
  go_ret
  exact ⟨x4, c4, rfl, R4.out⟩
set_option maxRecDepth 100000 in
set_option maxHeartbeats 1000000 in
theorem efg_m4 (w0 w : World) (g x cap : Nat) (R : RowB w0 g [49] w x cap 0 []) : Calls Tryz.prog 141 #[.slice (some ⟨x, 0, none⟩) 0 cap, .bool false, .slice (some ⟨g, 0, none⟩) 32 32, .int .i64 (-3), .int .i64 1, .int .i64 0, .int .u8 101, .bool true] w fun e w' => ∃ x5 c5, e = .returned (.slice (some ⟨x5, 0, none⟩) 5 c5) ∧ RowB w0 g [49] w' x5 c5 5 [.int .u8 49, .int .u8 101, .int .u8 45, .int .u8 48, .int .u8 52] := by
  have R0 := Lib.hid R
  clear R
  have d0_0 := R0.out.dig 0 49 rfl; have l0 := R0.out.lt
  go_enter Tryz.func141, Tryz.ntmps141
  go_wp2_with (first | (at_builtin; refine wpB_app rfl _ _ rfl R0.out 1 1 [.int .u8 49] rfl rfl rfl (by intro u hu; simp only [List.mem_cons, List.not_mem_nil, or_false] at hu; rcases hu with rfl <;> rfl) (by decide) rfl (by decide) ?_; intro x1 c1 w1 R1; have R1 : Hid (RowB w0 g [49] w1 x1 c1 1 [.int .u8 49]) := Lib.hid R1; clear d0_0 l0 R0; have d1_0 := R1.out.dig 0 49 rfl; have l1 := R1.out.lt) | (at_builtin; refine wpB_app rfl _ _ rfl R1.out 1 2 [.int .u8 101] rfl rfl rfl (by intro u hu; simp only [List.mem_cons, List.not_mem_nil, or_false] at hu; rcases hu with rfl <;> rfl) (by decide) rfl (by decide) ?_; intro x2 c2 w2 R2; have R2 : Hid (RowB w0 g [49] w2 x2 c2 2 [.int .u8 49, .int .u8 101]) := Lib.hid R2; clear d1_0 l1 R1; have d2_0 := R2.out.dig 0 49 rfl; have l2 := R2.out.lt) | (at_builtin; refine wpB_app rfl _ _ rfl R2.out 1 3 [.int .u8 45] rfl rfl rfl (by intro u hu; simp only [List.mem_cons, List.not_mem_nil, or_false] at hu; rcases hu with rfl <;> rfl) (by decide) rfl (by decide) ?_; intro x3 c3 w3 R3; have R3 : Hid (RowB w0 g [49] w3 x3 c3 3 [.int .u8 49, .int .u8 101, .int .u8 45]) := Lib.hid R3; clear d2_0 l2 R2; have d3_0 := R3.out.dig 0 49 rfl; have l3 := R3.out.lt) | (at_builtin; refine wpB_app rfl _ _ rfl R3.out 2 5 [.int .u8 48, .int .u8 52] rfl rfl rfl (by intro u hu; simp only [List.mem_cons, List.not_mem_nil, or_false] at hu; rcases hu with rfl | rfl <;> rfl) (by decide) rfl (by decide) ?_; intro x4 c4 w4 R4; have R4 : Hid (RowB w0 g [49] w4 x4 c4 5 [.int .u8 49, .int .u8 101, .int .u8 45, .int .u8 48, .int .u8 52]) := Lib.hid R4; clear d3_0 l3 R3; have d4_0 := R4.out.dig 0 49 rfl; have l4 := R4.out.lt))
  go_ret
  exact ⟨x4, c4, rfl, R4.out⟩
end Go.Proofs.YtcjkgnafpkkjmaaGreatDoor
namespace Go.Proofs.YtcjkgnafpkkjmaaGreatDoor
open Go.ChangeShapes Go.WideShapes Go.RowKit Go.Shelf Go.Lib
set_option maxRecDepth 100000 in
set_option maxHeartbeats 1000000 in
theorem ftoa_15 (w0 w : World) (x : Nat) (hown : w.ownsRow w0.heap.size 5 1 (.slice (some ⟨x, 0, none⟩) 0 24) 0 []) (hF : Fr [] w0 w) (HL : LdT w) (hg : 11 < w.heap.size) : Calls Tryz.prog 110 #[.slice (some ⟨x, 0, none⟩) 0 24, .float .f64 4609434218613702656, .int .u8 102, .int .i64 (-1)] w fun e w' => ∃ x5 c5, e = .returned (.slice (some ⟨x5, 0, none⟩) 3 c5) ∧ w'.ownsRow w0.heap.size 5 1 (.slice (some ⟨x5, 0, none⟩) 3 c5) 3 [.int .u8 49, .int .u8 46, .int .u8 53] ∧ Fr [] w0 w' := by
  have hr := isbits_run 4609434218613702656
  have h1 : bits BinOp.and IntKind.i64 1023 2047 = 1023 := by decide
  have h2 : bits BinOp.and IntKind.u64 4609434218613702656 4503599627370495 = 2251799813685248 := by decide
  have h3 : bits BinOp.or IntKind.u64 2251799813685248 4503599627370496 = 6755399441055744 := by decide
  have CL := Lib.hid (fun w1 => by have := Tryz.bits_Len64 6755399441055744 w1 (by decide) (by decide); rw [show Lib.bitLen (6755399441055744 : Int).toNat = 53 by decide] at this; exact this)
  obtain ⟨W1, hW1⟩ : ∃ W1, W1 = (w.alloc (.cells #[.int .u8 0, .int .u8 0, .int .u8 0, .int .u8 0, .int .u8 0, .int .u8 0, .int .u8 0, .int .u8 0, .int .u8 0, .int .u8 0, .int .u8 0, .int .u8 0, .int .u8 0, .int .u8 0, .int .u8 0, .int .u8 0, .int .u8 0, .int .u8 0, .int .u8 0, .int .u8 0, .int .u8 0, .int .u8 0, .int .u8 0, .int .u8 0, .int .u8 0, .int .u8 0, .int .u8 0, .int .u8 0, .int .u8 0, .int .u8 0, .int .u8 0, .int .u8 0] 162)).drew := ⟨_, rfl⟩
  obtain ⟨g, hgk⟩ : ∃ g, g = w.heap.size := ⟨_, rfl⟩
  have F1 : Hid (Fr [] w W1) := Lib.hid (by rw [hW1]; exact ((Fr.refl _ _).alloc _).drew)
  have HB : Hid (blk W1 g = some (.cells (Array.replicate 32 (.int .u8 0)) 162 (0, 0))) := Lib.hid (by rw [hW1, hgk, blk_drew, blk_alloc, if_pos rfl]; rfl)
  have HX : Hid (x < g) := Lib.hid (by rw [hgk]; exact own_lt hown)
  have HO := Lib.hid hown
  have HF := Lib.hid hF
  have HLL := Lib.hid HL
  have HG := Lib.hid hg
  have HGK := Lib.hid hgk
  clear hown hF HL hg
  go_enter Tryz.func110, Tryz.ntmps110
  go_wp2_with fail
  go_region
  go_upto_region 34 with fail
  rw [← hW1, ← hgk]
  clear hW1 hgk
  go_wp2_with fail
  refine (CL.out _).mono ?_
  rintro e w' ⟨rfl, rfl⟩
  have CS := Lib.hid (short_15 w' (HLL.out.fr F1.out) (Nat.lt_of_lt_of_le HG.out F1.out.size))
  go_wp2_with fail
  refine CS.out.mono ?_
  rintro e w2 ⟨rfl, F2⟩
  have HB2 := Lib.hid (F2.at HB.out (by simp))
  have F2 := Lib.hid (F1.out.same F2)
  clear CS CL HB F1 hr h1 h2 h3
  have CN := Lib.hid (fun (w1 : World) (h : Fr [] w2 w1) => by have := Tryz.internal_strconv_numDigits 1500000000000000 (by decide) (by decide) w1 ((HLL.out.fr F2.out).fr h).tab; rw [show Lib.nDigits 1500000000000000 = 16 from Lib.nDigits_unique 15 _ (by decide) (by decide)] at this; exact this)
  have CD := Lib.hid (fun (w1 : World) (h : Fr [] w2 w1) => setdig_c w1 g 16 2 1500000000000000 (-15) (by decide) (by decide) (by decide) (by decide) (by decide) (by decide) (fun t a1 a2 => (show ∀ k, k < 16 → 2 ≤ k → dgN 1500000000000000 (16 - 1 - k) = 48 by decide) t a2 a1) (by decide) (by decide) (h.at HB2.out (by simp)))
  go_wp2_with fail
  have HGL : Hid (g < w2.heap.size) := Lib.hid (lt_size HB2.out)
  clear HB2
  go_region_with (first | (go_at_call 145; refine Calls.mono (CN.out _ ?_) ?_; (· (repeat (first | exact Fr.refl _ _ | apply Fr.drew))); rintro e w3 ⟨rfl, rfl⟩) | (go_at_call 144; refine Calls.mono (CD.out _ ?_) ?_; (· (repeat (first | exact Fr.refl _ _ | apply Fr.drew))); rintro e w3 ⟨rfl, D3, F3⟩; have D3 := Lib.hid D3; have F3 := Lib.hid F3))
  have F2g : Fr [g] w w2 := F2.out.mono (fun _ h => by cases h)
  have FW := Lib.hid ((F2g.same (Fr.refl [g] w2).drew).same F3.out)
  have RB : Hid (RowB w0 g [49, 53] w3 x 24 0 []) := Lib.hid ⟨own_fr HO.out FW.out (fun y hy hm => by
      have e1 : y = x := by simpa [Value.ownBlock, eq_comm] using hy
      have e2 := List.mem_singleton.1 hm
      have := HX.out
      omega), Nat.ne_of_lt HX.out, fun t v hv => by
      have hd := D3.out t (by have := List.getElem?_eq_some_iff.1 hv; obtain ⟨h1, _⟩ := this; simp at h1; omega)
      match t, hv with
      | 0, hv => obtain rfl := (Option.some.inj hv).symm; exact hd
      | 1, hv => obtain rfl := (Option.some.inj hv).symm; exact hd
      | k + 2, hv => exact absurd hv (by simp), by have := F3.out.size; have h5 := F2.out.size; have h6 := HGK.out; have h7 : g < w2.heap.size := HGL.out; exact Nat.lt_of_lt_of_le h7 this, HF.out.trans FW.out (fun y hy => .inr (by rw [List.mem_singleton.1 hy, HGK.out]; exact HF.out.size))⟩
  clear D3 F3 FW F2g HO HX HF HG HGK CN CD
  have hmx : max (1 : Int) 0 = 1 := by decide
  have CE := Lib.hid (efg_15 w0 w3 g x 24 RB.out)
  clear RB
  go_wp2_with fail
  refine CE.out.mono ?_
  rintro e w7 ⟨x5, c5, rfl, R5⟩
  have R5 := Lib.hid R5
  clear CE
  go_wp2_with fail
  go_ret
  exact ⟨x5, c5, rfl, R5.out.own, R5.out.fr⟩
set_option maxRecDepth 100000 in
set_option maxHeartbeats 1000000 in
theorem ftoa_05 (w0 w : World) (x : Nat) (hown : w.ownsRow w0.heap.size 5 1 (.slice (some ⟨x, 0, none⟩) 0 24) 0 []) (hF : Fr [] w0 w) (HL : LdT w) (hg : 11 < w.heap.size) : Calls Tryz.prog 110 #[.slice (some ⟨x, 0, none⟩) 0 24, .float .f64 4602678819172646912, .int .u8 102, .int .i64 (-1)] w fun e w' => ∃ x5 c5, e = .returned (.slice (some ⟨x5, 0, none⟩) 3 c5) ∧ w'.ownsRow w0.heap.size 5 1 (.slice (some ⟨x5, 0, none⟩) 3 c5) 3 [.int .u8 48, .int .u8 46, .int .u8 53] ∧ Fr [] w0 w' := by
  have hr := isbits_run 4602678819172646912
  have h1 : bits BinOp.and IntKind.i64 1022 2047 = 1022 := by decide
  have h2 : bits BinOp.and IntKind.u64 4602678819172646912 4503599627370495 = 0 := by decide
  have h3 : bits BinOp.or IntKind.u64 0 4503599627370496 = 4503599627370496 := by decide
  have CL := Lib.hid (fun w1 => by have := Tryz.bits_Len64 4503599627370496 w1 (by decide) (by decide); rw [show Lib.bitLen (4503599627370496 : Int).toNat = 53 by decide] at this; exact this)
  obtain ⟨W1, hW1⟩ : ∃ W1, W1 = (w.alloc (.cells #[.int .u8 0, .int .u8 0, .int .u8 0, .int .u8 0, .int .u8 0, .int .u8 0, .int .u8 0, .int .u8 0, .int .u8 0, .int .u8 0, .int .u8 0, .int .u8 0, .int .u8 0, .int .u8 0, .int .u8 0, .int .u8 0, .int .u8 0, .int .u8 0, .int .u8 0, .int .u8 0, .int .u8 0, .int .u8 0, .int .u8 0, .int .u8 0, .int .u8 0, .int .u8 0, .int .u8 0, .int .u8 0, .int .u8 0, .int .u8 0, .int .u8 0, .int .u8 0] 162)).drew := ⟨_, rfl⟩
  obtain ⟨g, hgk⟩ : ∃ g, g = w.heap.size := ⟨_, rfl⟩
  have F1 : Hid (Fr [] w W1) := Lib.hid (by rw [hW1]; exact ((Fr.refl _ _).alloc _).drew)
  have HB : Hid (blk W1 g = some (.cells (Array.replicate 32 (.int .u8 0)) 162 (0, 0))) := Lib.hid (by rw [hW1, hgk, blk_drew, blk_alloc, if_pos rfl]; rfl)
  have HX : Hid (x < g) := Lib.hid (by rw [hgk]; exact own_lt hown)
  have HO := Lib.hid hown
  have HF := Lib.hid hF
  have HLL := Lib.hid HL
  have HG := Lib.hid hg
  have HGK := Lib.hid hgk
  clear hown hF HL hg
  go_enter Tryz.func110, Tryz.ntmps110
  go_wp2_with fail
  go_region
  go_upto_region 34 with fail
  rw [← hW1, ← hgk]
  clear hW1 hgk
  go_wp2_with fail
  refine (CL.out _).mono ?_
  rintro e w' ⟨rfl, rfl⟩
  have CS := Lib.hid (short_05 w' (HLL.out.fr F1.out) (Nat.lt_of_lt_of_le HG.out F1.out.size))
  go_wp2_with fail
  refine CS.out.mono ?_
  rintro e w2 ⟨rfl, F2⟩
  have HB2 := Lib.hid (F2.at HB.out (by simp))
  have F2 := Lib.hid (F1.out.same F2)
  clear CS CL HB F1 hr h1 h2 h3
  have CN := Lib.hid (fun (w1 : World) (h : Fr [] w2 w1) => by have := Tryz.internal_strconv_numDigits 5000000000000000 (by decide) (by decide) w1 ((HLL.out.fr F2.out).fr h).tab; rw [show Lib.nDigits 5000000000000000 = 16 from Lib.nDigits_unique 15 _ (by decide) (by decide)] at this; exact this)
  have CD := Lib.hid (fun (w1 : World) (h : Fr [] w2 w1) => setdig_c w1 g 16 1 5000000000000000 (-16) (by decide) (by decide) (by decide) (by decide) (by decide) (by decide) (fun t a1 a2 => (show ∀ k, k < 16 → 1 ≤ k → dgN 5000000000000000 (16 - 1 - k) = 48 by decide) t a2 a1) (by decide) (by decide) (h.at HB2.out (by simp)))
  go_wp2_with fail
  have HGL : Hid (g < w2.heap.size) := Lib.hid (lt_size HB2.out)
  clear HB2
  go_region_with (first | (go_at_call 145; refine Calls.mono (CN.out _ ?_) ?_; (· (repeat (first | exact Fr.refl _ _ | apply Fr.drew))); rintro e w3 ⟨rfl, rfl⟩) | (go_at_call 144; refine Calls.mono (CD.out _ ?_) ?_; (· (repeat (first | exact Fr.refl _ _ | apply Fr.drew))); rintro e w3 ⟨rfl, D3, F3⟩; have D3 := Lib.hid D3; have F3 := Lib.hid F3))
  have F2g : Fr [g] w w2 := F2.out.mono (fun _ h => by cases h)
  have FW := Lib.hid ((F2g.same (Fr.refl [g] w2).drew).same F3.out)
  have RB : Hid (RowB w0 g [53] w3 x 24 0 []) := Lib.hid ⟨own_fr HO.out FW.out (fun y hy hm => by
      have e1 : y = x := by simpa [Value.ownBlock, eq_comm] using hy
      have e2 := List.mem_singleton.1 hm
      have := HX.out
      omega), Nat.ne_of_lt HX.out, fun t v hv => by
      have hd := D3.out t (by have := List.getElem?_eq_some_iff.1 hv; obtain ⟨h1, _⟩ := this; simp at h1; omega)
      match t, hv with
      | 0, hv => obtain rfl := (Option.some.inj hv).symm; exact hd
      | k + 1, hv => exact absurd hv (by simp), by have := F3.out.size; have h5 := F2.out.size; have h6 := HGK.out; have h7 : g < w2.heap.size := HGL.out; exact Nat.lt_of_lt_of_le h7 this, HF.out.trans FW.out (fun y hy => .inr (by rw [List.mem_singleton.1 hy, HGK.out]; exact HF.out.size))⟩
  clear D3 F3 FW F2g HO HX HF HG HGK CN CD
  have hmx : max (1 : Int) 0 = 1 := by decide
  have CE := Lib.hid (efg_05 w0 w3 g x 24 RB.out)
  clear RB
  go_wp2_with fail
  refine CE.out.mono ?_
  rintro e w7 ⟨x5, c5, rfl, R5⟩
  have R5 := Lib.hid R5
  clear CE
  go_wp2_with fail
  go_ret
  exact ⟨x5, c5, rfl, R5.out.own, R5.out.fr⟩
set_option maxRecDepth 100000 in
set_option maxHeartbeats 1000000 in
theorem ftoa_100 (w0 w : World) (x : Nat) (hown : w.ownsRow w0.heap.size 5 1 (.slice (some ⟨x, 0, none⟩) 0 24) 0 []) (hF : Fr [] w0 w) (HL : LdT w) (hg : 11 < w.heap.size) : Calls Tryz.prog 110 #[.slice (some ⟨x, 0, none⟩) 0 24, .float .f64 4636737291354636288, .int .u8 102, .int .i64 (-1)] w fun e w' => ∃ x5 c5, e = .returned (.slice (some ⟨x5, 0, none⟩) 3 c5) ∧ w'.ownsRow w0.heap.size 5 1 (.slice (some ⟨x5, 0, none⟩) 3 c5) 3 [.int .u8 49, .int .u8 48, .int .u8 48] ∧ Fr [] w0 w' := by
  have hr := isbits_run 4636737291354636288
  have h1 : bits BinOp.and IntKind.i64 1029 2047 = 1029 := by decide
  have h2 : bits BinOp.and IntKind.u64 4636737291354636288 4503599627370495 = 2533274790395904 := by decide
  have h3 : bits BinOp.or IntKind.u64 2533274790395904 4503599627370496 = 7036874417766400 := by decide
  have CL := Lib.hid (fun w1 => by have := Tryz.bits_Len64 7036874417766400 w1 (by decide) (by decide); rw [show Lib.bitLen (7036874417766400 : Int).toNat = 53 by decide] at this; exact this)
  obtain ⟨W1, hW1⟩ : ∃ W1, W1 = (w.alloc (.cells #[.int .u8 0, .int .u8 0, .int .u8 0, .int .u8 0, .int .u8 0, .int .u8 0, .int .u8 0, .int .u8 0, .int .u8 0, .int .u8 0, .int .u8 0, .int .u8 0, .int .u8 0, .int .u8 0, .int .u8 0, .int .u8 0, .int .u8 0, .int .u8 0, .int .u8 0, .int .u8 0, .int .u8 0, .int .u8 0, .int .u8 0, .int .u8 0, .int .u8 0, .int .u8 0, .int .u8 0, .int .u8 0, .int .u8 0, .int .u8 0, .int .u8 0, .int .u8 0] 162)).drew := ⟨_, rfl⟩
  obtain ⟨g, hgk⟩ : ∃ g, g = w.heap.size := ⟨_, rfl⟩
  have F1 : Hid (Fr [] w W1) := Lib.hid (by rw [hW1]; exact ((Fr.refl _ _).alloc _).drew)
  have HB : Hid (blk W1 g = some (.cells (Array.replicate 32 (.int .u8 0)) 162 (0, 0))) := Lib.hid (by rw [hW1, hgk, blk_drew, blk_alloc, if_pos rfl]; rfl)
  have HX : Hid (x < g) := Lib.hid (by rw [hgk]; exact own_lt hown)
  have HO := Lib.hid hown
  have HF := Lib.hid hF
  have HLL := Lib.hid HL
  have HG := Lib.hid hg
  have HGK := Lib.hid hgk
  clear hown hF HL hg
  go_enter Tryz.func110, Tryz.ntmps110
  go_wp2_with fail
  go_region
  go_upto_region 34 with fail
  rw [← hW1, ← hgk]
  clear hW1 hgk
  go_wp2_with fail
  refine (CL.out _).mono ?_
  rintro e w' ⟨rfl, rfl⟩
  have CS := Lib.hid (short_100 w' (HLL.out.fr F1.out) (Nat.lt_of_lt_of_le HG.out F1.out.size))
  go_wp2_with fail
  refine CS.out.mono ?_
  rintro e w2 ⟨rfl, F2⟩
  have HB2 := Lib.hid (F2.at HB.out (by simp))
  have F2 := Lib.hid (F1.out.same F2)
  clear CS CL HB F1 hr h1 h2 h3
  have CN := Lib.hid (fun (w1 : World) (h : Fr [] w2 w1) => by have := Tryz.internal_strconv_numDigits 1000000000000000 (by decide) (by decide) w1 ((HLL.out.fr F2.out).fr h).tab; rw [show Lib.nDigits 1000000000000000 = 16 from Lib.nDigits_unique 15 _ (by decide) (by decide)] at this; exact this)
  have CD := Lib.hid (fun (w1 : World) (h : Fr [] w2 w1) => setdig_c w1 g 16 1 1000000000000000 (-13) (by decide) (by decide) (by decide) (by decide) (by decide) (by decide) (fun t a1 a2 => (show ∀ k, k < 16 → 1 ≤ k → dgN 1000000000000000 (16 - 1 - k) = 48 by decide) t a2 a1) (by decide) (by decide) (h.at HB2.out (by simp)))
  go_wp2_with fail
  have HGL : Hid (g < w2.heap.size) := Lib.hid (lt_size HB2.out)
  clear HB2
  go_region_with (first | (go_at_call 145; refine Calls.mono (CN.out _ ?_) ?_; (· (repeat (first | exact Fr.refl _ _ | apply Fr.drew))); rintro e w3 ⟨rfl, rfl⟩) | (go_at_call 144; refine Calls.mono (CD.out _ ?_) ?_; (· (repeat (first | exact Fr.refl _ _ | apply Fr.drew))); rintro e w3 ⟨rfl, D3, F3⟩; have D3 := Lib.hid D3; have F3 := Lib.hid F3))
  have F2g : Fr [g] w w2 := F2.out.mono (fun _ h => by cases h)
  have FW := Lib.hid ((F2g.same (Fr.refl [g] w2).drew).same F3.out)
  have RB : Hid (RowB w0 g [49] w3 x 24 0 []) := Lib.hid ⟨own_fr HO.out FW.out (fun y hy hm => by
      have e1 : y = x := by simpa [Value.ownBlock, eq_comm] using hy
      have e2 := List.mem_singleton.1 hm
      have := HX.out
      omega), Nat.ne_of_lt HX.out, fun t v hv => by
      have hd := D3.out t (by have := List.getElem?_eq_some_iff.1 hv; obtain ⟨h1, _⟩ := this; simp at h1; omega)
      match t, hv with
      | 0, hv => obtain rfl := (Option.some.inj hv).symm; exact hd
      | k + 1, hv => exact absurd hv (by simp), by have := F3.out.size; have h5 := F2.out.size; have h6 := HGK.out; have h7 : g < w2.heap.size := HGL.out; exact Nat.lt_of_lt_of_le h7 this, HF.out.trans FW.out (fun y hy => .inr (by rw [List.mem_singleton.1 hy, HGK.out]; exact HF.out.size))⟩
  clear D3 F3 FW F2g HO HX HF HG HGK CN CD
  have hmx : max ((-2) : Int) 0 = 0 := by decide
  have CE := Lib.hid (efg_100 w0 w3 g x 24 RB.out)
  clear RB
  go_wp2_with fail
  refine CE.out.mono ?_
  rintro e w7 ⟨x5, c5, rfl, R5⟩
  have R5 := Lib.hid R5
  clear CE
  go_wp2_with fail
  go_ret
  exact ⟨x5, c5, rfl, R5.out.own, R5.out.fr⟩
set_option maxRecDepth 100000 in
set_option maxHeartbeats 1000000 in
theorem ftoa_e21 (w0 w : World) (x : Nat) (hown : w.ownsRow w0.heap.size 5 1 (.slice (some ⟨x, 0, none⟩) 0 24) 0 []) (hF : Fr [] w0 w) (HL : LdT w) (hg : 11 < w.heap.size) : Calls Tryz.prog 110 #[.slice (some ⟨x, 0, none⟩) 0 24, .float .f64 4921056587992461136, .int .u8 101, .int .i64 (-1)] w fun e w' => ∃ x5 c5, e = .returned (.slice (some ⟨x5, 0, none⟩) 5 c5) ∧ w'.ownsRow w0.heap.size 5 1 (.slice (some ⟨x5, 0, none⟩) 5 c5) 5 [.int .u8 49, .int .u8 101, .int .u8 43, .int .u8 50, .int .u8 49] ∧ Fr [] w0 w' := by
  have hr := isbits_run 4921056587992461136
  have h1 : bits BinOp.and IntKind.i64 1092 2047 = 1092 := by decide
  have h2 : bits BinOp.and IntKind.u64 4921056587992461136 4503599627370495 = 3125794903879504 := by decide
  have h3 : bits BinOp.or IntKind.u64 3125794903879504 4503599627370496 = 7629394531250000 := by decide
  have CL := Lib.hid (fun w1 => by have := Tryz.bits_Len64 7629394531250000 w1 (by decide) (by decide); rw [show Lib.bitLen (7629394531250000 : Int).toNat = 53 by decide] at this; exact this)
  obtain ⟨W1, hW1⟩ : ∃ W1, W1 = (w.alloc (.cells #[.int .u8 0, .int .u8 0, .int .u8 0, .int .u8 0, .int .u8 0, .int .u8 0, .int .u8 0, .int .u8 0, .int .u8 0, .int .u8 0, .int .u8 0, .int .u8 0, .int .u8 0, .int .u8 0, .int .u8 0, .int .u8 0, .int .u8 0, .int .u8 0, .int .u8 0, .int .u8 0, .int .u8 0, .int .u8 0, .int .u8 0, .int .u8 0, .int .u8 0, .int .u8 0, .int .u8 0, .int .u8 0, .int .u8 0, .int .u8 0, .int .u8 0, .int .u8 0] 162)).drew := ⟨_, rfl⟩
  obtain ⟨g, hgk⟩ : ∃ g, g = w.heap.size := ⟨_, rfl⟩
  have F1 : Hid (Fr [] w W1) := Lib.hid (by rw [hW1]; exact ((Fr.refl _ _).alloc _).drew)
  have HB : Hid (blk W1 g = some (.cells (Array.replicate 32 (.int .u8 0)) 162 (0, 0))) := Lib.hid (by rw [hW1, hgk, blk_drew, blk_alloc, if_pos rfl]; rfl)
  have HX : Hid (x < g) := Lib.hid (by rw [hgk]; exact own_lt hown)
  have HO := Lib.hid hown
  have HF := Lib.hid hF
  have HLL := Lib.hid HL
  have HG := Lib.hid hg
  have HGK := Lib.hid hgk
  clear hown hF HL hg
  go_enter Tryz.func110, Tryz.ntmps110
  go_wp2_with fail
  go_region
  go_upto_region 34 with fail
  rw [← hW1, ← hgk]
  clear hW1 hgk
  go_wp2_with fail
  refine (CL.out _).mono ?_
  rintro e w' ⟨rfl, rfl⟩
  have CS := Lib.hid (short_e21 w' (HLL.out.fr F1.out) (Nat.lt_of_lt_of_le HG.out F1.out.size))
  go_wp2_with fail
  refine CS.out.mono ?_
  rintro e w2 ⟨rfl, F2⟩
  have HB2 := Lib.hid (F2.at HB.out (by simp))
  have F2 := Lib.hid (F1.out.same F2)
  clear CS CL HB F1 hr h1 h2 h3
  have CN := Lib.hid (fun (w1 : World) (h : Fr [] w2 w1) => by have := Tryz.internal_strconv_numDigits 1000000000000000 (by decide) (by decide) w1 ((HLL.out.fr F2.out).fr h).tab; rw [show Lib.nDigits 1000000000000000 = 16 from Lib.nDigits_unique 15 _ (by decide) (by decide)] at this; exact this)
  have CD := Lib.hid (fun (w1 : World) (h : Fr [] w2 w1) => setdig_c w1 g 16 1 1000000000000000 6 (by decide) (by decide) (by decide) (by decide) (by decide) (by decide) (fun t a1 a2 => (show ∀ k, k < 16 → 1 ≤ k → dgN 1000000000000000 (16 - 1 - k) = 48 by decide) t a2 a1) (by decide) (by decide) (h.at HB2.out (by simp)))
  go_wp2_with fail
  have HGL : Hid (g < w2.heap.size) := Lib.hid (lt_size HB2.out)
  clear HB2
  go_region_with (first | (go_at_call 145; refine Calls.mono (CN.out _ ?_) ?_; (· (repeat (first | exact Fr.refl _ _ | apply Fr.drew))); rintro e w3 ⟨rfl, rfl⟩) | (go_at_call 144; refine Calls.mono (CD.out _ ?_) ?_; (· (repeat (first | exact Fr.refl _ _ | apply Fr.drew))); rintro e w3 ⟨rfl, D3, F3⟩; have D3 := Lib.hid D3; have F3 := Lib.hid F3))
  have F2g : Fr [g] w w2 := F2.out.mono (fun _ h => by cases h)
  have FW := Lib.hid ((F2g.same (Fr.refl [g] w2).drew).same F3.out)
  have RB : Hid (RowB w0 g [49] w3 x 24 0 []) := Lib.hid ⟨own_fr HO.out FW.out (fun y hy hm => by
      have e1 : y = x := by simpa [Value.ownBlock, eq_comm] using hy
      have e2 := List.mem_singleton.1 hm
      have := HX.out
      omega), Nat.ne_of_lt HX.out, fun t v hv => by
      have hd := D3.out t (by have := List.getElem?_eq_some_iff.1 hv; obtain ⟨h1, _⟩ := this; simp at h1; omega)
      match t, hv with
      | 0, hv => obtain rfl := (Option.some.inj hv).symm; exact hd
      | k + 1, hv => exact absurd hv (by simp), by have := F3.out.size; have h5 := F2.out.size; have h6 := HGK.out; have h7 : g < w2.heap.size := HGL.out; exact Nat.lt_of_lt_of_le h7 this, HF.out.trans FW.out (fun y hy => .inr (by rw [List.mem_singleton.1 hy, HGK.out]; exact HF.out.size))⟩
  clear D3 F3 FW F2g HO HX HF HG HGK CN CD
  have CE := Lib.hid (efg_e21 w0 w3 g x 24 RB.out)
  clear RB
  go_wp2_with fail
  refine CE.out.mono ?_
  rintro e w7 ⟨x5, c5, rfl, R5⟩
  have R5 := Lib.hid R5
  clear CE
  go_wp2_with fail
  go_ret
  exact ⟨x5, c5, rfl, R5.out.own, R5.out.fr⟩
set_option maxRecDepth 100000 in
set_option maxHeartbeats 1000000 in
theorem ftoa_m4 (w0 w : World) (x : Nat) (hown : w.ownsRow w0.heap.size 5 1 (.slice (some ⟨x, 0, none⟩) 0 24) 0 []) (hF : Fr [] w0 w) (HL : LdT w) (hg : 11 < w.heap.size) : Calls Tryz.prog 110 #[.slice (some ⟨x, 0, none⟩) 0 24, .float .f64 4547007122018943789, .int .u8 101, .int .i64 (-1)] w fun e w' => ∃ x5 c5, e = .returned (.slice (some ⟨x5, 0, none⟩) 5 c5) ∧ w'.ownsRow w0.heap.size 5 1 (.slice (some ⟨x5, 0, none⟩) 5 c5) 5 [.int .u8 49, .int .u8 101, .int .u8 45, .int .u8 48, .int .u8 52] ∧ Fr [] w0 w' := by
  have hr := isbits_run 4547007122018943789
  have h1 : bits BinOp.and IntKind.i64 1009 2047 = 1009 := by decide
  have h2 : bits BinOp.and IntKind.u64 4547007122018943789 4503599627370495 = 2875098002113325 := by decide
  have h3 : bits BinOp.or IntKind.u64 2875098002113325 4503599627370496 = 7378697629483821 := by decide
  have CL := Lib.hid (fun w1 => by have := Tryz.bits_Len64 7378697629483821 w1 (by decide) (by decide); rw [show Lib.bitLen (7378697629483821 : Int).toNat = 53 by decide] at this; exact this)
  obtain ⟨W1, hW1⟩ : ∃ W1, W1 = (w.alloc (.cells #[.int .u8 0, .int .u8 0, .int .u8 0, .int .u8 0, .int .u8 0, .int .u8 0, .int .u8 0, .int .u8 0, .int .u8 0, .int .u8 0, .int .u8 0, .int .u8 0, .int .u8 0, .int .u8 0, .int .u8 0, .int .u8 0, .int .u8 0, .int .u8 0, .int .u8 0, .int .u8 0, .int .u8 0, .int .u8 0, .int .u8 0, .int .u8 0, .int .u8 0, .int .u8 0, .int .u8 0, .int .u8 0, .int .u8 0, .int .u8 0, .int .u8 0, .int .u8 0] 162)).drew := ⟨_, rfl⟩
  obtain ⟨g, hgk⟩ : ∃ g, g = w.heap.size := ⟨_, rfl⟩
  have F1 : Hid (Fr [] w W1) := Lib.hid (by rw [hW1]; exact ((Fr.refl _ _).alloc _).drew)
  have HB : Hid (blk W1 g = some (.cells (Array.replicate 32 (.int .u8 0)) 162 (0, 0))) := Lib.hid (by rw [hW1, hgk, blk_drew, blk_alloc, if_pos rfl]; rfl)
  have HX : Hid (x < g) := Lib.hid (by rw [hgk]; exact own_lt hown)
  have HO := Lib.hid hown
  have HF := Lib.hid hF
  have HLL := Lib.hid HL
  have HG := Lib.hid hg
  have HGK := Lib.hid hgk
  clear hown hF HL hg
  go_enter Tryz.func110, Tryz.ntmps110
  go_wp2_with fail
  go_region
  go_upto_region 34 with fail
  rw [← hW1, ← hgk]
  clear hW1 hgk
  go_wp2_with fail
  refine (CL.out _).mono ?_
  rintro e w' ⟨rfl, rfl⟩
  have CS := Lib.hid (short_m4 w' (HLL.out.fr F1.out) (Nat.lt_of_lt_of_le HG.out F1.out.size))
  go_wp2_with fail
  refine CS.out.mono ?_
  rintro e w2 ⟨rfl, F2⟩
  have HB2 := Lib.hid (F2.at HB.out (by simp))
  have F2 := Lib.hid (F1.out.same F2)
  clear CS CL HB F1 hr h1 h2 h3
  have CN := Lib.hid (fun (w1 : World) (h : Fr [] w2 w1) => by have := Tryz.internal_strconv_numDigits 1000000000000000 (by decide) (by decide) w1 ((HLL.out.fr F2.out).fr h).tab; rw [show Lib.nDigits 1000000000000000 = 16 from Lib.nDigits_unique 15 _ (by decide) (by decide)] at this; exact this)
  have CD := Lib.hid (fun (w1 : World) (h : Fr [] w2 w1) => setdig_c w1 g 16 1 1000000000000000 (-19) (by decide) (by decide) (by decide) (by decide) (by decide) (by decide) (fun t a1 a2 => (show ∀ k, k < 16 → 1 ≤ k → dgN 1000000000000000 (16 - 1 - k) = 48 by decide) t a2 a1) (by decide) (by decide) (h.at HB2.out (by simp)))
  go_wp2_with fail
  have HGL : Hid (g < w2.heap.size) := Lib.hid (lt_size HB2.out)
  clear HB2
  go_region_with (first | (go_at_call 145; refine Calls.mono (CN.out _ ?_) ?_; (· (repeat (first | exact Fr.refl _ _ | apply Fr.drew))); rintro e w3 ⟨rfl, rfl⟩) | (go_at_call 144; refine Calls.mono (CD.out _ ?_) ?_; (· (repeat (first | exact Fr.refl _ _ | apply Fr.drew))); rintro e w3 ⟨rfl, D3, F3⟩; have D3 := Lib.hid D3; have F3 := Lib.hid F3))
  have F2g : Fr [g] w w2 := F2.out.mono (fun _ h => by cases h)
  have FW := Lib.hid ((F2g.same (Fr.refl [g] w2).drew).same F3.out)
  have RB : Hid (RowB w0 g [49] w3 x 24 0 []) := Lib.hid ⟨own_fr HO.out FW.out (fun y hy hm => by
      have e1 : y = x := by simpa [Value.ownBlock, eq_comm] using hy
      have e2 := List.mem_singleton.1 hm
      have := HX.out
      omega), Nat.ne_of_lt HX.out, fun t v hv => by
      have hd := D3.out t (by have := List.getElem?_eq_some_iff.1 hv; obtain ⟨h1, _⟩ := this; simp at h1; omega)
      match t, hv with
      | 0, hv => obtain rfl := (Option.some.inj hv).symm; exact hd
      | k + 1, hv => exact absurd hv (by simp), by have := F3.out.size; have h5 := F2.out.size; have h6 := HGK.out; have h7 : g < w2.heap.size := HGL.out; exact Nat.lt_of_lt_of_le h7 this, HF.out.trans FW.out (fun y hy => .inr (by rw [List.mem_singleton.1 hy, HGK.out]; exact HF.out.size))⟩
  clear D3 F3 FW F2g HO HX HF HG HGK CN CD
  have CE := Lib.hid (efg_m4 w0 w3 g x 24 RB.out)
  clear RB
  go_wp2_with fail
  refine CE.out.mono ?_
  rintro e w7 ⟨x5, c5, rfl, R5⟩
  have R5 := Lib.hid R5
  clear CE
  go_wp2_with fail
  go_ret
  exact ⟨x5, c5, rfl, R5.out.own, R5.out.fr⟩
end Go.Proofs.YtcjkgnafpkkjmaaGreatDoor
namespace Go.Proofs.YtcjkgnafpkkjmaaGreatDoor
open Go.ChangeShapes Go.WideShapes Go.RowKit Go.Shelf Go.Lib
theorem LdT.big {w : World} (h : LdT w) : 11 < w.heap.size := (addr_none (h.pow 0 (18054884314459144841, 16775125305258875820) (by decide) (by kernel_rfl)).1).2
theorem max24 : max (3 : Int) 24 = 24 := by decide
theorem made_u8 (n : Nat) : madeCells #[.int .u8 0] n = Array.replicate n (.int .u8 0) := by
  apply Array.ext_getElem?
  intro i
  by_cases hi : i < n <;> simp [madeCells, hi, Nat.mod_one]
theorem run_u8s (w : World) (n c : Nat) (hnc : n ≤ c) (h : c ≤ 1000000) :
    (Instr.makeSlice 123 (.int .i64 (n : Int)) (.int .i64 (c : Int))).run Tryz.prog w = .ok (.slice (some ⟨w.heap.size, 0, none⟩) n c) (w.alloc (.cells (Array.replicate c (.int .u8 0)) 5)) := by
  obtain ⟨i0, hi, hz0, hz1, hz2⟩ := info_parts info_u8
  have := run_make (P := Tryz.prog) w 123 5 i0 (.int .u8 0) Tryz.underlying123 hi hz0 .i64 .i64 (n : Int) c (by omega) (by omega) (by rw [hz2]; omega) (by omega)
  rw [this, hz1]
  simp only [Int.toNat_natCast, Nat.mul_one]
  rw [show (Value.int IntKind.u8 0).cells = #[.int .u8 0] from rfl, made_u8]
theorem mk24 (W : World) : (Instr.makeSlice 123 (.int .i64 0) (.int .i64 24)).run Tryz.prog W = .ok (.slice (some ⟨W.heap.size, 0, none⟩) 0 24) (W.alloc (.cells (Array.replicate 24 (.int .u8 0)) 5)) := run_u8s W 0 24 (by decide) (by decide)
theorem own_u8s (w : World) : (w.alloc (.cells (Array.replicate 24 (.int .u8 0)) 5)).ownsRow w.heap.size 5 1 (.slice (some ⟨w.heap.size, 0, none⟩) 0 24) 0 [] :=
  own_mk (cur := Array.replicate 24 (.int .u8 0)) (by rw [blk_alloc, if_pos rfl]) (Nat.le_refl _) (by decide) (by decide) (by decide) (by decide)
theorem conv_own {w : World} {B x c n : Nat} {L : List UInt8} (hown : w.ownsRow B 5 1 (.slice (some ⟨x, 0, none⟩) n c) n (L.map encB)) : (convert 123 9 (.slice (some ⟨x, 0, none⟩) L.length c)).run Tryz.prog w = .ok (.string ⟨L.toArray⟩) w := by
  have hb : Bytes w x 0 ⟨L.toArray⟩ := by
    intro i hi
    have hi' : i < L.length := hi
    have : (L.map encB)[i]? = some (encB L[i]) := by rw [List.getElem?_map, List.getElem?_eq_getElem hi']; rfl
    rw [Nat.zero_add]
    exact own_cell hown this
  exact run_convert_whole w 123 5 9 Tryz.underlying123 Tryz.underlying5 Tryz.underlying9 x 0 ⟨L.toArray⟩ hb c
set_option maxRecDepth 100000 in
theorem isfmt_15 (w : World) (HL : LdT w) : Calls Tryz.prog 66 #[.float .f64 4609434218613702656, .int .u8 102, .int .i64 (-1), .int .i64 64] w fun e w' => e = .returned (.string ⟨#[49, 46, 53]⟩) ∧ Fr [] w w' := by
  have hm := max24
  have MK := mk24
  obtain ⟨W1, hW1⟩ : ∃ W1, W1 = w.alloc (.cells (Array.replicate 24 (.int .u8 0)) 5) := ⟨_, rfl⟩
  have F1 : Hid (Fr [] w W1) := Lib.hid (by rw [hW1]; exact (Fr.refl _ _).alloc _)
  obtain ⟨k, hk⟩ : ∃ k, k = w.heap.size := ⟨_, rfl⟩
  have CF := Lib.hid (ftoa_15 w W1 k (by rw [hW1, hk]; exact own_u8s w) F1.out (HL.fr F1.out) (by rw [hW1]; have := HL.big; rw [size_alloc]; omega))
  clear HL
  go_enter Tryz.func66, Tryz.ntmps66
  go_wp2_with fail
  rw [← hW1, ← hk]
  clear hW1 hk MK
  refine CF.out.mono ?_
  rintro e w3 ⟨x5, c5, rfl, own5, F5⟩
  have F5 := Lib.hid F5
  have hcv : (convert 123 9 (.slice (some ⟨x5, 0, none⟩) 3 c5)).run Tryz.prog w3 = .ok (.string ⟨#[49, 46, 53]⟩) w3 := conv_own (L := [49, 46, 53]) own5
  clear own5 CF
  go_wp2_with fail
  go_ret
  exact ⟨rfl, F5.out⟩
theorem fmt_15 (w : World) (HL : LdT w) : Calls Tryz.prog 29 #[.float .f64 4609434218613702656, .int .u8 102, .int .i64 (-1), .int .i64 64] w fun e w' => e = .returned (.string ⟨#[49, 46, 53]⟩) ∧ Fr [] w w' := by
  have CF := Lib.hid (isfmt_15 w HL)
  clear HL
  go_enter Tryz.func29, Tryz.ntmps29
  go_wp2_with fail
  refine CF.out.mono ?_
  rintro e w3 ⟨rfl, F3⟩
  go_wp2_with fail
  go_ret
  exact ⟨rfl, F3⟩
set_option maxRecDepth 100000 in
theorem isfmt_05 (w : World) (HL : LdT w) : Calls Tryz.prog 66 #[.float .f64 4602678819172646912, .int .u8 102, .int .i64 (-1), .int .i64 64] w fun e w' => e = .returned (.string ⟨#[48, 46, 53]⟩) ∧ Fr [] w w' := by
  have hm := max24
  have MK := mk24
  obtain ⟨W1, hW1⟩ : ∃ W1, W1 = w.alloc (.cells (Array.replicate 24 (.int .u8 0)) 5) := ⟨_, rfl⟩
  have F1 : Hid (Fr [] w W1) := Lib.hid (by rw [hW1]; exact (Fr.refl _ _).alloc _)
  obtain ⟨k, hk⟩ : ∃ k, k = w.heap.size := ⟨_, rfl⟩
  have CF := Lib.hid (ftoa_05 w W1 k (by rw [hW1, hk]; exact own_u8s w) F1.out (HL.fr F1.out) (by rw [hW1]; have := HL.big; rw [size_alloc]; omega))
  clear HL
  go_enter Tryz.func66, Tryz.ntmps66
  go_wp2_with fail
  rw [← hW1, ← hk]
  clear hW1 hk MK
  refine CF.out.mono ?_
  rintro e w3 ⟨x5, c5, rfl, own5, F5⟩
  have F5 := Lib.hid F5
  have hcv : (convert 123 9 (.slice (some ⟨x5, 0, none⟩) 3 c5)).run Tryz.prog w3 = .ok (.string ⟨#[48, 46, 53]⟩) w3 := conv_own (L := [48, 46, 53]) own5
  clear own5 CF
  go_wp2_with fail
  go_ret
  exact ⟨rfl, F5.out⟩
theorem fmt_05 (w : World) (HL : LdT w) : Calls Tryz.prog 29 #[.float .f64 4602678819172646912, .int .u8 102, .int .i64 (-1), .int .i64 64] w fun e w' => e = .returned (.string ⟨#[48, 46, 53]⟩) ∧ Fr [] w w' := by
  have CF := Lib.hid (isfmt_05 w HL)
  clear HL
  go_enter Tryz.func29, Tryz.ntmps29
  go_wp2_with fail
  refine CF.out.mono ?_
  rintro e w3 ⟨rfl, F3⟩
  go_wp2_with fail
  go_ret
  exact ⟨rfl, F3⟩
set_option maxRecDepth 100000 in
theorem isfmt_100 (w : World) (HL : LdT w) : Calls Tryz.prog 66 #[.float .f64 4636737291354636288, .int .u8 102, .int .i64 (-1), .int .i64 64] w fun e w' => e = .returned (.string ⟨#[49, 48, 48]⟩) ∧ Fr [] w w' := by
  have hm := max24
  have MK := mk24
  obtain ⟨W1, hW1⟩ : ∃ W1, W1 = w.alloc (.cells (Array.replicate 24 (.int .u8 0)) 5) := ⟨_, rfl⟩
  have F1 : Hid (Fr [] w W1) := Lib.hid (by rw [hW1]; exact (Fr.refl _ _).alloc _)
  obtain ⟨k, hk⟩ : ∃ k, k = w.heap.size := ⟨_, rfl⟩
  have CF := Lib.hid (ftoa_100 w W1 k (by rw [hW1, hk]; exact own_u8s w) F1.out (HL.fr F1.out) (by rw [hW1]; have := HL.big; rw [size_alloc]; omega))
  clear HL
  go_enter Tryz.func66, Tryz.ntmps66
  go_wp2_with fail
  rw [← hW1, ← hk]
  clear hW1 hk MK
  refine CF.out.mono ?_
  rintro e w3 ⟨x5, c5, rfl, own5, F5⟩
  have F5 := Lib.hid F5
  have hcv : (convert 123 9 (.slice (some ⟨x5, 0, none⟩) 3 c5)).run Tryz.prog w3 = .ok (.string ⟨#[49, 48, 48]⟩) w3 := conv_own (L := [49, 48, 48]) own5
  clear own5 CF
  go_wp2_with fail
  go_ret
  exact ⟨rfl, F5.out⟩
theorem fmt_100 (w : World) (HL : LdT w) : Calls Tryz.prog 29 #[.float .f64 4636737291354636288, .int .u8 102, .int .i64 (-1), .int .i64 64] w fun e w' => e = .returned (.string ⟨#[49, 48, 48]⟩) ∧ Fr [] w w' := by
  have CF := Lib.hid (isfmt_100 w HL)
  clear HL
  go_enter Tryz.func29, Tryz.ntmps29
  go_wp2_with fail
  refine CF.out.mono ?_
  rintro e w3 ⟨rfl, F3⟩
  go_wp2_with fail
  go_ret
  exact ⟨rfl, F3⟩
set_option maxRecDepth 100000 in
theorem isfmt_e21 (w : World) (HL : LdT w) : Calls Tryz.prog 66 #[.float .f64 4921056587992461136, .int .u8 101, .int .i64 (-1), .int .i64 64] w fun e w' => e = .returned (.string ⟨#[49, 101, 43, 50, 49]⟩) ∧ Fr [] w w' := by
  have hm := max24
  have MK := mk24
  obtain ⟨W1, hW1⟩ : ∃ W1, W1 = w.alloc (.cells (Array.replicate 24 (.int .u8 0)) 5) := ⟨_, rfl⟩
  have F1 : Hid (Fr [] w W1) := Lib.hid (by rw [hW1]; exact (Fr.refl _ _).alloc _)
  obtain ⟨k, hk⟩ : ∃ k, k = w.heap.size := ⟨_, rfl⟩
  have CF := Lib.hid (ftoa_e21 w W1 k (by rw [hW1, hk]; exact own_u8s w) F1.out (HL.fr F1.out) (by rw [hW1]; have := HL.big; rw [size_alloc]; omega))
  clear HL
  go_enter Tryz.func66, Tryz.ntmps66
  go_wp2_with fail
  rw [← hW1, ← hk]
  clear hW1 hk MK
  refine CF.out.mono ?_
  rintro e w3 ⟨x5, c5, rfl, own5, F5⟩
  have F5 := Lib.hid F5
  have hcv : (convert 123 9 (.slice (some ⟨x5, 0, none⟩) 5 c5)).run Tryz.prog w3 = .ok (.string ⟨#[49, 101, 43, 50, 49]⟩) w3 := conv_own (L := [49, 101, 43, 50, 49]) own5
  clear own5 CF
  go_wp2_with fail
  go_ret
  exact ⟨rfl, F5.out⟩
theorem fmt_e21 (w : World) (HL : LdT w) : Calls Tryz.prog 29 #[.float .f64 4921056587992461136, .int .u8 101, .int .i64 (-1), .int .i64 64] w fun e w' => e = .returned (.string ⟨#[49, 101, 43, 50, 49]⟩) ∧ Fr [] w w' := by
  have CF := Lib.hid (isfmt_e21 w HL)
  clear HL
  go_enter Tryz.func29, Tryz.ntmps29
  go_wp2_with fail
  refine CF.out.mono ?_
  rintro e w3 ⟨rfl, F3⟩
  go_wp2_with fail
  go_ret
  exact ⟨rfl, F3⟩
set_option maxRecDepth 100000 in
theorem isfmt_m4 (w : World) (HL : LdT w) : Calls Tryz.prog 66 #[.float .f64 4547007122018943789, .int .u8 101, .int .i64 (-1), .int .i64 64] w fun e w' => e = .returned (.string ⟨#[49, 101, 45, 48, 52]⟩) ∧ Fr [] w w' := by
  have hm := max24
  have MK := mk24
  obtain ⟨W1, hW1⟩ : ∃ W1, W1 = w.alloc (.cells (Array.replicate 24 (.int .u8 0)) 5) := ⟨_, rfl⟩
  have F1 : Hid (Fr [] w W1) := Lib.hid (by rw [hW1]; exact (Fr.refl _ _).alloc _)
  obtain ⟨k, hk⟩ : ∃ k, k = w.heap.size := ⟨_, rfl⟩
  have CF := Lib.hid (ftoa_m4 w W1 k (by rw [hW1, hk]; exact own_u8s w) F1.out (HL.fr F1.out) (by rw [hW1]; have := HL.big; rw [size_alloc]; omega))
  clear HL
  go_enter Tryz.func66, Tryz.ntmps66
  go_wp2_with fail
  rw [← hW1, ← hk]
  clear hW1 hk MK
  refine CF.out.mono ?_
  rintro e w3 ⟨x5, c5, rfl, own5, F5⟩
  have F5 := Lib.hid F5
  have hcv : (convert 123 9 (.slice (some ⟨x5, 0, none⟩) 5 c5)).run Tryz.prog w3 = .ok (.string ⟨#[49, 101, 45, 48, 52]⟩) w3 := conv_own (L := [49, 101, 45, 48, 52]) own5
  clear own5 CF
  go_wp2_with fail
  go_ret
  exact ⟨rfl, F5.out⟩
theorem fmt_m4 (w : World) (HL : LdT w) : Calls Tryz.prog 29 #[.float .f64 4547007122018943789, .int .u8 101, .int .i64 (-1), .int .i64 64] w fun e w' => e = .returned (.string ⟨#[49, 101, 45, 48, 52]⟩) ∧ Fr [] w w' := by
  have CF := Lib.hid (isfmt_m4 w HL)
  clear HL
  go_enter Tryz.func29, Tryz.ntmps29
  go_wp2_with fail
  refine CF.out.mono ?_
  rintro e w3 ⟨rfl, F3⟩
  go_wp2_with fail
  go_ret
  exact ⟨rfl, F3⟩
end Go.Proofs.YtcjkgnafpkkjmaaGreatDoor
namespace Go.Proofs.YtcjkgnafpkkjmaaGreatDoor
open Go.ChangeShapes Go.WideShapes Go.RowKit Go.Shelf
theorem name_fin (b : Nat) (hb : b < 18446744073709551616) (h1 : isNan b = false) (h2 : isInf b = false) (w : World) : Calls Tryz.prog 26 #[.float .f64 b] w fun e w' => e = .returned (.string ⟨#[]⟩) ∧ w = w' := by
  have hb1 := neq_nan b
  rw [h1] at hb1
  have C1 := Lib.hid (by have := isinf1_c b w; rw [h2] at this; exact this)
  have C2 := Lib.hid (by have := isinfm_c b hb w; rw [h2] at this; exact this)
  clear hb
  go_enter Tryz.func26, Tryz.ntmps26
  go_wp2_with fail
  refine C1.out.mono ?_
  rintro e w' ⟨rfl, rfl⟩
  go_wp2_with fail
  refine C2.out.mono ?_
  rintro e w' ⟨rfl, rfl⟩
  go_wp2
  go_ret
  exact ⟨rfl, rfl⟩
theorem point_dot (s : ByteArray) (w : World) (h : decide (0 ≤ Lib.indexByte s.data.toList 46) = true) : Calls Tryz.prog 28 #[.string s] w fun e w' => e = .returned (.string s) ∧ w = w' := by
  have CC := Lib.hid (by have := Tryz.strings_Contains_one s 46 w; rw [h] at this; exact this)
  go_enter Tryz.func28, Tryz.ntmps28
  go_wp2_with fail
  refine CC.out.mono ?_
  rintro e w' ⟨rfl, rfl⟩
  go_wp2
  go_ret
  exact ⟨rfl, rfl⟩
theorem point_no (s : ByteArray) (w : World) (hs : s.size ≤ 617) (h : decide (0 ≤ Lib.indexByte s.data.toList 46) = false) : Calls Tryz.prog 28 #[.string s] w fun e w' => e = .returned (.string (s ++ ⟨#[46, 48]⟩)) ∧ w = w' := by
  have CC := Lib.hid (by have := Tryz.strings_Contains_one s 46 w; rw [h] at this; exact this)
  go_enter Tryz.func28, Tryz.ntmps28
  go_wp2_with fail
  refine CC.out.mono ?_
  rintro e w' ⟨rfl, rfl⟩
  go_wp2
  go_ret
  exact ⟨rfl, rfl⟩
theorem name_15 (w : World) : Calls Tryz.prog 26 #[.float .f64 4609434218613702656] w fun e w' => e = .returned (.string ⟨#[]⟩) ∧ w = w' := name_fin 4609434218613702656 (by decide) (by decide) (by decide) w
set_option maxRecDepth 100000 in
theorem txt_15 (w : World) (HL : LdT w) : Calls Tryz.prog 9 #[.float .f64 4609434218613702656] w fun e w' => e = .returned (.string ⟨#[49, 46, 53]⟩) ∧ Fr [] w w' := by
  have CN := Lib.hid (name_15 w)
  have CA : Hid (Calls Tryz.prog 27 #[.float .f64 4609434218613702656] w fun e w' => e = .returned (.float .f64 4609434218613702656) ∧ w = w') := Lib.hid (abs_c 4609434218613702656 (by decide) w)
  have o1 : FloatKind.f64.format.order 4609434218613702656 0 = some .gt := by decide
  have o2 : FloatKind.f64.format.order 4609434218613702656 4562254508917369340 = some .gt := by decide
  have o3 : FloatKind.f64.format.order 4609434218613702656 4921056587992461136 = some .lt := by decide
  have CF := Lib.hid (fmt_15 w HL)
  have CP := Lib.hid (fun w1 => point_dot ⟨#[49, 46, 53]⟩ w1 (by decide))
  clear HL
  go_enter Tryz.func9, Tryz.ntmps9
  go_wp2_with fail
  refine CN.out.mono ?_
  rintro e w' ⟨rfl, rfl⟩
  go_wp2_with fail
  refine CA.out.mono ?_
  rintro e w' ⟨rfl, rfl⟩
  go_wp2_with fail
  refine CF.out.mono ?_
  rintro e w2 ⟨rfl, F2⟩
  have F2 := Lib.hid F2
  go_wp2_with fail
  refine (CP.out _).mono ?_
  rintro e w' ⟨rfl, rfl⟩
  go_wp2_with fail
  go_ret
  exact ⟨rfl, F2.out⟩
theorem name_05 (w : World) : Calls Tryz.prog 26 #[.float .f64 4602678819172646912] w fun e w' => e = .returned (.string ⟨#[]⟩) ∧ w = w' := name_fin 4602678819172646912 (by decide) (by decide) (by decide) w
set_option maxRecDepth 100000 in
theorem txt_05 (w : World) (HL : LdT w) : Calls Tryz.prog 9 #[.float .f64 4602678819172646912] w fun e w' => e = .returned (.string ⟨#[48, 46, 53]⟩) ∧ Fr [] w w' := by
  have CN := Lib.hid (name_05 w)
  have CA : Hid (Calls Tryz.prog 27 #[.float .f64 4602678819172646912] w fun e w' => e = .returned (.float .f64 4602678819172646912) ∧ w = w') := Lib.hid (abs_c 4602678819172646912 (by decide) w)
  have o1 : FloatKind.f64.format.order 4602678819172646912 0 = some .gt := by decide
  have o2 : FloatKind.f64.format.order 4602678819172646912 4562254508917369340 = some .gt := by decide
  have o3 : FloatKind.f64.format.order 4602678819172646912 4921056587992461136 = some .lt := by decide
  have CF := Lib.hid (fmt_05 w HL)
  have CP := Lib.hid (fun w1 => point_dot ⟨#[48, 46, 53]⟩ w1 (by decide))
  clear HL
  go_enter Tryz.func9, Tryz.ntmps9
  go_wp2_with fail
  refine CN.out.mono ?_
  rintro e w' ⟨rfl, rfl⟩
  go_wp2_with fail
  refine CA.out.mono ?_
  rintro e w' ⟨rfl, rfl⟩
  go_wp2_with fail
  refine CF.out.mono ?_
  rintro e w2 ⟨rfl, F2⟩
  have F2 := Lib.hid F2
  go_wp2_with fail
  refine (CP.out _).mono ?_
  rintro e w' ⟨rfl, rfl⟩
  go_wp2_with fail
  go_ret
  exact ⟨rfl, F2.out⟩
theorem name_100 (w : World) : Calls Tryz.prog 26 #[.float .f64 4636737291354636288] w fun e w' => e = .returned (.string ⟨#[]⟩) ∧ w = w' := name_fin 4636737291354636288 (by decide) (by decide) (by decide) w
set_option maxRecDepth 100000 in
theorem txt_100 (w : World) (HL : LdT w) : Calls Tryz.prog 9 #[.float .f64 4636737291354636288] w fun e w' => e = .returned (.string ⟨#[49, 48, 48, 46, 48]⟩) ∧ Fr [] w w' := by
  have CN := Lib.hid (name_100 w)
  have CA : Hid (Calls Tryz.prog 27 #[.float .f64 4636737291354636288] w fun e w' => e = .returned (.float .f64 4636737291354636288) ∧ w = w') := Lib.hid (abs_c 4636737291354636288 (by decide) w)
  have o1 : FloatKind.f64.format.order 4636737291354636288 0 = some .gt := by decide
  have o2 : FloatKind.f64.format.order 4636737291354636288 4562254508917369340 = some .gt := by decide
  have o3 : FloatKind.f64.format.order 4636737291354636288 4921056587992461136 = some .lt := by decide
  have CF := Lib.hid (fmt_100 w HL)
  have CP := Lib.hid (fun w1 => point_no ⟨#[49, 48, 48]⟩ w1 (by decide) (by decide))
  clear HL
  go_enter Tryz.func9, Tryz.ntmps9
  go_wp2_with fail
  refine CN.out.mono ?_
  rintro e w' ⟨rfl, rfl⟩
  go_wp2_with fail
  refine CA.out.mono ?_
  rintro e w' ⟨rfl, rfl⟩
  go_wp2_with fail
  refine CF.out.mono ?_
  rintro e w2 ⟨rfl, F2⟩
  have F2 := Lib.hid F2
  go_wp2_with fail
  refine (CP.out _).mono ?_
  rintro e w' ⟨rfl, rfl⟩
  go_wp2_with fail
  go_ret
  exact ⟨rfl, F2.out⟩
end Go.Proofs.YtcjkgnafpkkjmaaGreatDoor
end
