/- Collecting: what follows words, in memory and on paper; which objects may be moved, and moving one. -/
import Derived.Test.YtjgndfhfiekomaaColF
import Derived.Test.YtjgndfhfiekomaaHeapL
import Derived.Deep.RegionHeld3
set_option linter.all false
namespace Go.Proofs.Ytjgndfhfiekomaa
open Go.ChangeShapes Go.WideShapes Go.RowKit Go.Maps
/-- What follows words, on paper: the arena, which words were met, what is to be scanned, the numbers. -/
structure Tr where
  A : Ar
  seen : List Bool
  work : List Int
  least : Int
  left : Int
  live : Int
  moved : Int
/-- Where its blocks are. -/
structure Tk where
  tb : Nat
  mb : Nat
  sb : Nat
  hb : Nat
  b : Nat
  wb : Nat
  lb : Nat
  B : Nat
def Tk.own (c : Tk) : List Nat := [c.tb, c.sb, c.b, c.wb, c.lb]
structure TrAt (w : World) (c : Tk) (m n : Nat) (cl : Int → Int) (wv : Value) (T : Tr) : Prop where
  t : blk w c.tb = some (.cells #[.pointer (some ⟨c.hb, 0, none⟩), .map (some c.mb), .int .i64 T.least, .int .i64 T.left, .slice (some ⟨c.sb, 0, none⟩) T.seen.length T.seen.length, wv, .int .i64 T.live, .int .i64 T.moved, .int .i64 0] 135 (0, 0))
  s : blk w c.sb = some (.cells (T.seen.map Value.bool).toArray 4 (0, 0))
  h : HeAt w c.hb c.b c.wb c.lb T.A
  cl : ClAt w c.mb n cl
  wk : w.ownsRow c.B 37 1 wv T.work.length (T.work.map (Value.int .u64))
  ok : T.A.Ok m
  wd : T.A.Wd
  lo : c.b < c.B ∧ c.wb < c.B ∧ c.lb < c.B ∧ c.hb < c.B ∧ c.tb < c.B ∧ c.sb < c.B ∧ c.mb < c.B
  ap : [c.tb, c.sb, c.hb, c.b, c.wb, c.lb, c.mb].Nodup
  sl : T.seen.length = m * 256
  w0 : ∀ x, x ∈ T.work → 0 ≤ x ∧ x < 18446744073709551616
  ls : -1000000 ≤ T.least ∧ T.least ≤ 1000000
  lf : -1000000 ≤ T.left ∧ T.left ≤ 1000000
def pinB (A : Ar) (m : Nat) (x : Int) : Bool := ((hAt A m x).map fun h => decide (0 < h.pins)).getD false
def mvB (cl : Int → Int) (A : Ar) (m : Nat) (x : Int) : Bool := decide (0 < cl (wVal x / 256)) && !pinB A m x
variable {w w' : World} {c : Tk} {m n : Nat} {cl : Int → Int} {wv : Value} {T : Tr}
theorem TrAt.keep (h : TrAt w c m n cl wv T) (hF : Fr [] w w') : TrAt w' c m n cl wv T :=
  ⟨hF.at h.t (by simp), hF.at h.s (by simp), h.h.keep hF, h.cl.fr hF (by simp), own_fr h.wk hF (by simp), h.ok, h.wd, h.lo, h.ap, h.sl, h.w0, h.ls, h.lf⟩
theorem TrAt.c0 (h : TrAt w c m n cl wv T) : w.cell? ⟨c.tb, 0, none⟩ = some (.pointer (some ⟨c.hb, 0, none⟩)) := cell_of h.t rfl
theorem TrAt.c1 (h : TrAt w c m n cl wv T) : w.cell? ⟨c.tb, 1, none⟩ = some (.map (some c.mb)) := cell_of h.t rfl
set_option maxRecDepth 10000 in
set_option maxHeartbeats 2000000 in
theorem movable_c (h : TrAt w c m n cl wv T) (x : Int) (hx : x % 8 = 1) (x0 : 0 ≤ x) (x1 : x < 18446744073709551616) :
    Calls Try.prog 149 #[.pointer (some ⟨c.tb, 0, none⟩), .int .u64 x] w fun e w' => e = .returned (.bool (mvB cl T.A m x)) ∧ Fr [] w w' := by
  have CP := Lib.hid (fun wa (hF : Fr [] w wa) => opinned_c wa (h.h.keep hF) h.ok h.wd x x0 x1)
  obtain ⟨a, ha⟩ : ∃ a : Nat, wVal x = a := ⟨(x / 8).toNat, by rw [val1 x hx]; omega⟩
  have CV := Lib.hid (fun wa => value_c x wa x0 x1)
  rw [ha] at CV
  have KC := Lib.hid (fun wa (hF : Fr [] w wa) => show wa.cell? ⟨c.tb, 0, none⟩ = some (.pointer (some ⟨c.hb, 0, none⟩)) ∧ wa.cell? ⟨c.tb, 1, none⟩ = some (.map (some c.mb)) ∧ (Instr.lookup 133 (.map (some c.mb)) (.int .i64 ((a : Int) / 256)) false).run Try.prog wa = .ok (.int .i64 (cl ((a : Int) / 256))) wa from ⟨(h.keep hF).c0, (h.keep hF).c1, (h.keep hF).cl.look _ (by
    have : a ≤ 2305843009213693952 := by have := val1 x hx; omega
    simp [Lit.wf, IntKind.min, IntKind.max, IntKind.bits, IntKind.signed]; omega)⟩)
  unfold mvB
  rw [ha]
  obtain ⟨k0, k1, k2⟩ := KC.out w (Fr.refl _ _)
  obtain ⟨z, hz⟩ : ∃ z, z = cl ((a : Int) / 256) := ⟨_, rfl⟩
  rw [← hz] at k2 ⊢
  have KC2 : Hid (∀ wa, Fr [] w wa → wa.cell? ⟨c.tb, 0, none⟩ = some (.pointer (some ⟨c.hb, 0, none⟩)) ∧ wa.cell? ⟨c.tb, 1, none⟩ = some (.map (some c.mb)) ∧ (Instr.lookup 133 (.map (some c.mb)) (.int .i64 ((a : Int) / 256)) false).run Try.prog wa = .ok (.int .i64 z) wa) := Lib.hid (fun wa hF => by rw [hz]; exact KC.out wa hF)
  have hwr : IntKind.i64.wrap ((a : Int) / 256) = (a : Int) / 256 := wraps_i64 _ (by omega) (by have := val1 x hx; omega)
  clear hz KC h
  by_cases h0 : 0 < z
  · have h0b : decide (0 < z) = true := by simpa using h0
    go_enter Try.func149, Try.ntmps149
    go_wp2_with fail
    go_region_held3 (fun W => W.cell? ⟨c.tb, 0, none⟩ = some (.pointer (some ⟨c.hb, 0, none⟩)) ∧ W.cell? ⟨c.tb, 1, none⟩ = some (.map (some c.mb)) ∧ (Instr.lookup 133 (.map (some c.mb)) (.int .i64 ((a : Int) / 256)) false).run Try.prog W = .ok (.int .i64 z) W) (first | assumption | exact KC2.out _ (by assumption) | exact KC2.out _ (Fr.refl _ _) | exact KC2.out _ (Fr.refl _ _).drew) (first | (go_at_call 82; refine (CV.out _).mono ?_; rintro e w1 ⟨rfl, rfl⟩; have F1 : Fr [] w w := Fr.refl _ _) | (go_at_call 31; refine (CP.out _ (by repeat (first | exact Fr.refl _ _ | apply Fr.drew | apply Fr.alloc))).mono ?_; rintro e w2 ⟨rfl, F2⟩; have F3 : Fr [] w w2 := Fr.same (by repeat (first | exact Fr.refl _ _ | apply Fr.drew | apply Fr.drewN)) F2))
    go_wp2
    go_ret
    exact ⟨by rw [h0b]; rfl, F3⟩
  · have h0b : decide (0 < z) = false := by simpa using h0
    go_enter Try.func149, Try.ntmps149
    go_wp2_with fail
    have kq := fun q => (KC2.out _ ((Fr.refl [] w).drewN q)).2.2
    go_quiet (exact Calls.quiet_of_same ((CV.out _).mono fun e w' h => ⟨h.1, h.2.symm⟩))
    go_wp2
    go_ret
    exact ⟨by rw [h0b]; rfl, by repeat (first | exact Fr.refl _ _ | apply Fr.drew | apply Fr.drewN)⟩
end Go.Proofs.Ytjgndfhfiekomaa
