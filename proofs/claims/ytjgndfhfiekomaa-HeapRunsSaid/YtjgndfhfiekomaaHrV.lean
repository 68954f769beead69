/- The law HeapRuns: what it holds in memory: the program's heap, the document's in a box, the words that were told. -/
import Derived.Test.YtjgndfhfiekomaaHrU
set_option linter.all false
namespace Go.Proofs.Ytjgndfhfiekomaa
open Go.ChangeShapes Go.WideShapes Go.RowKit
/-- What New gives. -/
def NewR15 (m : Nat) (w : World) (e : Ending) (w' : World) : Prop :=
  ∃ (wa : Option Addr) (wn wk : Nat) (ma : Option Addr) (mn mc tb tc : Nat), e = .returned (.agg #[.slice wa wn wk, .slice (some ⟨tb, 0, none⟩) (m * 16) tc, .slice ma mn mc, .int .i64 (((Ar.new m).sf : Int)), .int .i64 (((Ar.new m).st : Int)), .int .i64 (((Ar.new m).gf : Int)), .int .i64 (((Ar.new m).gt : Int)), .int .i64 (((Ar.new m).cf : Int)), .int .i64 (((Ar.new m).ct : Int)), .int .i64 (((Ar.new m).next : Int) * 16), .slice none 0 0]) ∧ BsAt w.heap.size w' tb tc (tks (Ar.new m).lines) ∧ Fr [] w w'
theorem BsAt.low {B0 B : Nat} {w : World} {tb tc : Nat} {l : List Bool} (h : BsAt B w tb tc l) (hb : B0 ≤ B) : BsAt B0 w tb tc l := ⟨h.lt, h.cp, h.at_, Nat.le_trans hb h.lo⟩
set_option maxRecDepth 100000 in
set_option maxHeartbeats 4000000 in
theorem rnew15_c (w : World) (n : Int) (hn : n ≤ 6) (hn0 : -9223372036854775808 ≤ n) (m : Nat) (hm : m = blocksOf n) : Calls Try.prog 13 #[.int .i64 n] w (NewR15 m w) := by
  have CN := Lib.hid (fun w1 => rnew14_c w1 n hn hn0 m hm)
  have F1 : Hid (Fr [] w (w.alloc (.cells #[.slice none 0 0, .slice none 0 0, .slice none 0 0, .int .i64 0, .int .i64 0, .int .i64 0, .int .i64 0, .int .i64 0, .int .i64 0, .int .i64 0, .slice none 0 0] 34))) := Lib.hid ((Fr.refl _ _).alloc _)
  have R1 : Hid (blk (w.alloc (.cells #[.slice none 0 0, .slice none 0 0, .slice none 0 0, .int .i64 0, .int .i64 0, .int .i64 0, .int .i64 0, .int .i64 0, .int .i64 0, .int .i64 0, .slice none 0 0] 34)) w.heap.size = some (.cells #[.slice none 0 0, .slice none 0 0, .slice none 0 0, .int .i64 0, .int .i64 0, .int .i64 0, .int .i64 0, .int .i64 0, .int .i64 0, .int .i64 0, .slice none 0 0] 34 (0, 0))) := Lib.hid (by rw [blk_alloc, if_pos rfl])
  obtain ⟨W1, hW1⟩ : ∃ W1, W1 = w.alloc (.cells #[.slice none 0 0, .slice none 0 0, .slice none 0 0, .int .i64 0, .int .i64 0, .int .i64 0, .int .i64 0, .int .i64 0, .int .i64 0, .int .i64 0, .slice none 0 0] 34) := ⟨_, rfl⟩
  obtain ⟨pb, hpb⟩ : ∃ pb, pb = w.heap.size := ⟨_, rfl⟩
  have HPB := Lib.hid hpb
  rw [← hW1, ← hpb] at R1
  rw [← hW1] at F1
  clear hm hn hn0
  go_enter Try.func13, Try.ntmps13
  go_upto_region 1 with fail
  rw [← hW1, ← hpb]
  clear hW1 hpb
  go_wp2_with fail
  refine (CN.out _).mono ?_
  rintro e w2 ⟨wa, wn, wk, ma, mn, mc, tb, tc, rfl, B2, F2⟩
  have R2 := Lib.hid (F2.at R1.out (by simp))
  have F2 := Lib.hid (F1.out.same F2)
  have B2 := Lib.hid B2
  have h1 := lt_size R1.out
  have h2 := lt_size R2.out
  have q0 := cell_of R2.out (i := 0) rfl
  have q1 := cell_of R2.out (i := 1) rfl
  have q2 := cell_of R2.out (i := 2) rfl
  have q3 := cell_of R2.out (i := 3) rfl
  have q4 := cell_of R2.out (i := 4) rfl
  have q5 := cell_of R2.out (i := 5) rfl
  have q6 := cell_of R2.out (i := 6) rfl
  have q7 := cell_of R2.out (i := 7) rfl
  have q8 := cell_of R2.out (i := 8) rfl
  have q9 := cell_of R2.out (i := 9) rfl
  have q10 := cell_of R2.out (i := 10) rfl
  have qf0 := free_of R2.out (i := 0)
  have qf1 := free_of R2.out (i := 1)
  have qf2 := free_of R2.out (i := 2)
  have qf3 := free_of R2.out (i := 3)
  have qf4 := free_of R2.out (i := 4)
  have qf5 := free_of R2.out (i := 5)
  have qf6 := free_of R2.out (i := 6)
  have qf7 := free_of R2.out (i := 7)
  have qf8 := free_of R2.out (i := 8)
  have qf9 := free_of R2.out (i := 9)
  have qf10 := free_of R2.out (i := 10)
  go_wp2
  refine bodyPost_ret (ret_st rfl _ _ _ _ rfl (blk11 R2.out) rfl size_heap15 und_heap15) rfl ?_
  refine ⟨wa, wn, wk, ma, mn, mc, tb, tc, rfl, ?_, fr11 F2.out (.inr (by rw [HPB.out]; exact Nat.le_refl _))⟩
  exact (B2.out.low (by rw [← HPB.out]; omega)).fr (fr11 (Fr.refl [pb] w2) (.inl (by simp))) (by have := B2.out.lo; simp; omega)
/-- The word that is meant. -/
def toldF (T : List Int) (k : Int) : Int := if k < 0 ∨ (T.length : Int) ≤ k then mkW 5 2 else T[k.toNat]?.getD 0
theorem told_c (w : World) {B g c n : Nat} {T : List Int} (h : w.ownsRow B 37 1 (.slice (some ⟨g, 0, none⟩) n c) n (T.map (Value.int .u64))) (hn : n = T.length) (hl : n ≤ 1000) (k : Int) :
    Calls Try.prog 14 #[.slice (some ⟨g, 0, none⟩) n c, .int .i64 k] w fun e w' => e = .returned (.int .u64 (toldF T k)) ∧ w = w' := by
  have hc := own_cap h
  have hc1 := hc.1
  have hc2 : c ≤ 9223372036854775807 := by have := hc.2; unfold maxLen at this; exact this
  have CM := Lib.hid (fun w1 => wmade_r 5 2 w1 (by omega) (by omega))
  clear hc
  by_cases h1 : k < 0
  · have HE : Hid (toldF T k = mkW 5 2) := Lib.hid (by unfold toldF; rw [if_pos (.inl h1)])
    clear h
    go_enter Try.func14, Try.ntmps14
    go_wp2_with fail
    refine (CM.out _).mono ?_
    rintro e w' ⟨rfl, rfl⟩
    go_wp2
    go_ret
    rw [HE.out]; exact ⟨rfl, rfl⟩
  by_cases h2 : (n : Int) ≤ k
  · have HE : Hid (toldF T k = mkW 5 2) := Lib.hid (by unfold toldF; rw [if_pos (.inr (by rw [← hn]; exact h2))])
    clear h hn
    go_enter Try.func14, Try.ntmps14
    go_wp2_with fail
    refine (CM.out _).mono ?_
    rintro e w' ⟨rfl, rfl⟩
    go_wp2
    go_ret
    rw [HE.out]; exact ⟨rfl, rfl⟩
  obtain ⟨q, rfl⟩ : ∃ q : Nat, k = (q : Int) := ⟨k.toNat, by omega⟩
  have hq : q < n := by omega
  obtain ⟨y, hy⟩ : ∃ y, T[q]? = some y := ⟨_, List.getElem?_eq_getElem (by omega)⟩
  have HE : Hid (toldF T q = y) := Lib.hid (by unfold toldF; rw [if_neg (by omega), Int.toNat_natCast, hy]; rfl)
  have d := own_cell h (i := q) (u := .int .u64 y) (by rw [List.getElem?_map, hy]; rfl)
  clear h hn hy
  go_enter Try.func14, Try.ntmps14
  go_wp2
  go_ret
  rw [HE.out]; exact ⟨rfl, rfl⟩
/-- No object's words lie there. -/
def Far (O : List RO) (g : Nat) : Prop := ∀ r : RO, r ∈ O → r.fs = [] ∨ ∀ b, r.fa = some ⟨b, 0, none⟩ → b ≠ g
section
variable {w wr w2 w3 w4 w5 wx : World} {B m hb b wb lb qb g c g' c' : Nat} {A A' Ad : Ar} {O O' : List RO} {T : List Int} {x : Int} {wa ma oa oa' : Option Addr} {wn wk mn mc tb tc oc tb' tc' oc' : Nat}
theorem Far.set {L : Nat} {k v c : Int} (h : Far O g) (hs : SetSpec L O x k v O' c) (hg : g < L) : Far O' g := by
  rcases hs with ⟨_, rfl, _⟩ | ⟨_, i, r, fa, fc, _, hr, _, _, rfl, hl⟩
  · exact h
  · intro q hq
    rcases List.mem_or_eq_of_mem_set hq with hq | rfl
    · exact h q hq
    · exact .inr (fun b hb => by have := hl b hb; omega)
theorem Far.pin {d : Int} {y : Bool} (h : Far O g) (hs : PinSpec O x d O' y) : Far O' g := by
  rcases hs with ⟨_, rfl, _⟩ | ⟨_, i, r, _, hr, _, _, rfl⟩
  · exact h
  · intro q hq
    rcases List.mem_or_eq_of_mem_set hq with hq | rfl
    · exact h q hq
    · exact h r (List.mem_of_getElem? hr)
theorem Far.make {L : Nat} {kd sz y : Int} {z : Bool} (h : Far O g) (hs : MakeSpec L A m O kd sz A' O' y z) (hg : g < L) : Far O' g := by
  rcases hs with ⟨_, _, rfl, _⟩ | ⟨_, _, ⟨_, _, rfl, _⟩ | ⟨k, fa, fc, _, _, _, rfl, hl⟩⟩
  · exact h
  · exact h
  · intro q hq
    rcases List.mem_append.1 hq with hq | hq
    · exact h q hq
    · rw [List.mem_singleton] at hq
      subst hq
      exact .inr (fun b hb => by have := hl b hb; omega)
theorem Far.move {y : Int} {z : Bool} (h : Far O g) (hs : MoveSpec A m O x A' O' y z) : Far O' g := by
  rcases hs with ⟨_, _, rfl, _⟩ | ⟨i, r, _, hr, _, _, ⟨_, _, rfl, _⟩ | ⟨k, _, _, _, rfl⟩⟩
  · exact h
  · exact h
  · intro q hq
    rcases List.mem_append.1 hq with hq | hq
    · rcases List.mem_or_eq_of_mem_set hq with hq | rfl
      · exact h q hq
      · exact h r (List.mem_of_getElem? hr)
    · rw [List.mem_singleton] at hq
      subst hq
      exact h r (List.mem_of_getElem? hr)
theorem OsAt.fr {S : List Nat} (h : OsAt B w oa oc O) (hF : Fr S w w2) (ho : O = [] ∨ ∀ b, oa = some ⟨b, 0, none⟩ → b ∉ S) (hf : ∀ r : RO, r ∈ O → r.fs = [] ∨ ∀ b, r.fa = some ⟨b, 0, none⟩ → b ∉ S) : OsAt B w2 oa oc O := by
  refine ⟨h.cp, ?_, ?_, h.lo⟩
  · rcases h.rd with h0 | ⟨b, h1, h2, h3⟩
    · exact .inl h0
    · rcases ho with ho | ho
      · exact .inl ho
      · have key : ∀ j u, w.cell? ⟨b, j, none⟩ = some u → w2.cell? ⟨b, j, none⟩ = some u := fun j u hu => by rw [← hu]; exact World.cell?_of_block (w := w) (hF.block b h2 (ho b h1))
        refine .inr ⟨b, h1, Nat.lt_of_lt_of_le h2 hF.size, fun i r hr => ?_⟩
        obtain ⟨q0, q1, q2, q3, q4⟩ := h3 i r hr
        exact ⟨key _ _ q0, key _ _ q1, key _ _ q2, key _ _ q3, key _ _ q4⟩
  · intro r hr
    obtain ⟨h1, h2, h3⟩ := h.fs r hr
    refine ⟨h1, h2, ?_⟩
    rcases hf r hr with hf | hf
    · exact .inl hf
    · rcases h3 with h3 | ⟨b, q1, q2, q3, q4⟩
      · exact .inl h3
      · exact .inr ⟨b, q1, Nat.lt_of_lt_of_le q2 hF.size, q3, fun i y hy => by rw [← q4 i y hy]; exact World.cell?_of_block (w := w) (hF.block b q2 (hf b q1))⟩
/-- The document's heap in its box. -/
def BxAt (w : World) (B m qb : Nat) (A : Ar) (O : List RO) (wa : Option Addr) (wn wk tb tc : Nat) (ma : Option Addr) (mn mc : Nat) (oa : Option Addr) (oc : Nat) : Prop :=
  blk w qb = some (.cells #[.slice wa wn wk, .slice (some ⟨tb, 0, none⟩) (m * 16) tc, .slice ma mn mc, .int .i64 ((A.sf : Int)), .int .i64 ((A.st : Int)), .int .i64 ((A.gf : Int)), .int .i64 ((A.gt : Int)), .int .i64 ((A.cf : Int)), .int .i64 ((A.ct : Int)), .int .i64 ((A.next : Int) * 16), .slice oa O.length oc] 34 (0, 0)) ∧ BsAt B w tb tc (tks A.lines) ∧ OsAt B w oa oc O
/-- All that the law holds. -/
structure LAt (w wr : World) (B m hb b wb lb qb : Nat) (A : Ar) (O : List RO) (g c : Nat) (T : List Int) : Prop where
  he : HeAt wr hb b wb lb A
  lo : w.heap.size ≤ b ∧ w.heap.size ≤ wb ∧ w.heap.size ≤ lb ∧ hb < B ∧ b < B ∧ wb < B ∧ lb < B ∧ w.heap.size ≤ B ∧ B ≤ qb
  bx : ∃ wa wn wk tb tc ma mn mc oa oc, BxAt wr B m qb A O wa wn wk tb tc ma mn mc oa oc
  gq : qb ≠ g
  tr : wr.ownsRow B 37 1 (.slice (some ⟨g, 0, none⟩) T.length c) T.length (T.map (Value.int .u64))
  e0 : T = [] → blk wr g = some (.cells #[] 37 (0, 0))
  far : Far O g
  rel : Rel A m O
  ts : ∀ y, y ∈ T → Tl O y
  fr : Fr [] w wr
theorem LAt.ne (h : LAt w wr B m hb b wb lb qb A O g c T) {x : Nat} {v : Value} (hv : wr.cell? ⟨x, 0, none⟩ = some v) (hn : ∀ y, v ≠ .int .u64 y) : x ≠ g := by
  intro he
  subst he
  cases T with
  | nil =>
    have := h.e0 rfl
    unfold blk at this
    simp [World.cell?, this] at hv
  | cons y T =>
    have := own_cell h.tr (i := 0) (u := .int .u64 y) rfl
    rw [hv] at this
    simp only [Option.some.injEq] at this
    exact hn y this
theorem LAt.gB (h : LAt w wr B m hb b wb lb qb A O g c T) : B ≤ g ∧ g < wr.heap.size := ⟨own_base h.tr, own_lt h.tr⟩
theorem LAt.keep (h : LAt w wr B m hb b wb lb qb A O g c T) (hF : Fr [] wr w2) : LAt w w2 B m hb b wb lb qb A O g c T := by
  obtain ⟨wa, wn, wk, tb, tc, ma, mn, mc, oa, oc, h1, h2, h3⟩ := h.bx
  exact ⟨h.he.keep hF, h.lo, ⟨wa, wn, wk, tb, tc, ma, mn, mc, oa, oc, hF.at h1 (by simp), h2.keep hF, h3.keep hF⟩, h.gq, own_fr h.tr hF (by simp), fun ht => hF.at (h.e0 ht) (by simp), h.far, h.rel, h.ts, h.fr.same hF⟩
theorem LAt.objs (h : LAt w wr B m hb b wb lb qb A O g c T) (i : Nat) (r : RO) (hr : O[i]? = some r) : r.a ≤ 1000000 ∧ 0 ≤ r.pins ∧ r.pins ≤ 7 ∧ r.fs.length ≤ 240 := by
  have h1 := h.rel.lt hr
  have h2 := h.rel.nm r (List.mem_of_getElem? hr)
  omega
/-- What lies from B on is none of the program's. -/
theorem LAt.after (h : LAt w wr B m hb b wb lb qb A O g c T) (hF : Fr [b, wb, lb] wr w2) (bx : BxAt wr B m qb A O wa wn wk tb tc ma mn mc oa oc) : BxAt w2 B m qb A O wa wn wk tb tc ma mn mc oa oc := by
  have hl := h.lo
  refine ⟨hF.at bx.1 (by simp; omega), bx.2.1.fr hF (by have := bx.2.1.lo; simp; omega), bx.2.2.fr hF ?_ (fun r hr => ?_)⟩
  · rcases bx.2.2.lo with h0 | ⟨b', h1, h2⟩
    · exact .inl h0
    · refine .inr (fun b'' hb'' => ?_)
      rw [h1] at hb''
      simp only [Option.some.injEq, Addr.mk.injEq, and_true] at hb''
      simp; omega
  · obtain ⟨_, _, h3⟩ := bx.2.2.fs r hr
    rcases h3 with h3 | ⟨b', h1, h2, h4, _⟩
    · exact .inl h3
    · refine .inr (fun b'' hb'' => ?_)
      rw [h1] at hb''
      simp only [Option.some.injEq, Addr.mk.injEq, and_true] at hb''
      simp; omega
/-- Both did something. -/
theorem LAt.next (h : LAt w wr B m hb b wb lb qb A O g c T) (H2 : HeAt w2 hb b wb lb A') (F2 : Fr [b, wb, lb] wr w2) (F3 : Fr [] w2 w3) (BS : BsAt B w3 tb' tc' (tks Ad.lines)) (OS : OsAt B w3 oa' oc' O') (sh : Sh Ad A') (stp : Stp A A' m O O') (hfar : Far O' g)
    (PB : blk wx qb = some (.cells #[.slice wa wn wk, .slice (some ⟨tb', 0, none⟩) (m * 16) tc', .slice ma mn mc, .int .i64 ((Ad.sf : Int)), .int .i64 ((Ad.st : Int)), .int .i64 ((Ad.gf : Int)), .int .i64 ((Ad.gt : Int)), .int .i64 ((Ad.cf : Int)), .int .i64 ((Ad.ct : Int)), .int .i64 ((Ad.next : Int) * 16), .slice oa' O'.length oc'] 34 (0, 0))) (FX : Fr [qb] w3 wx) : LAt w wx B m hb b wb lb qb A' O' g c T := by
  have hl := h.lo
  have hg := h.gB
  have hgq := h.gq
  obtain ⟨wa1, wn1, wk1, tb1, tc1, ma1, mn1, mc1, oa1, oc1, hbx⟩ := h.bx
  have P3 := F3.at (h.after F2 hbx).1 (by simp)
  have p0 := cell_of P3 (i := 0) rfl
  have hm1 := stp.1.ok.m1
  have hll := stp.1.ok.ll
  have htb : tb' ≠ qb := bs_far BS (by rw [len_tks, ← sh.l, hll]; omega) p0
  have FW : Fr [b, wb, lb] wr w3 := F2.trans F3 (by simp)
  have FZ : Fr [b, wb, lb, qb] wr wx := (FW.mono (fun x hx => .inl (by simp at hx ⊢; omega))).trans FX (by simp)
  refine ⟨(H2.keep F3).fr FX (by simp; omega) (by simp; omega) (by simp; omega) (by simp; omega), hl, ⟨wa, wn, wk, tb', tc', ma, mn, mc, oa', oc', ?_, ?_, OS.box FX p0⟩, h.gq, own_fr h.tr FZ (by intro y hy; simp [Value.ownBlock] at hy; subst hy; simp; omega), fun ht => FZ.at (h.e0 ht) (by simp; omega), hfar, stp.1, fun y hy => stp.2.1 y (h.ts y hy), h.fr.trans FZ (by intro y hy; simp at hy; right; omega)⟩
  · rw [PB, sh.sf, sh.st, sh.gf, sh.gt, sh.cf, sh.ct, sh.nx]
  · rw [sh.l]; exact BS.fr FX (by simpa using htb)
/-- A word more. -/
theorem LAt.app (h : LAt w wr B m hb b wb lb qb A O g c T) (hx : Tl O x) (hown : w5.ownsRow B 37 1 (.slice (some ⟨g', 0, none⟩) (T.length + 1) c') (T.length + 1) (T.map (Value.int .u64) ++ [.int .u64 x])) (hF : Fr [g] wr w5) (hg : g' = g ∨ wr.heap.size ≤ g') : LAt w w5 B m hb b wb lb qb A O g' c' (T ++ [x]) := by
  have hl := h.lo
  have hgB := h.gB
  have hgq := h.gq
  obtain ⟨wa, wn, wk, tb, tc, ma, mn, mc, oa, oc, h1, h2, h3⟩ := h.bx
  have hm1 := h.rel.ok.m1
  have hll := h.rel.ok.ll
  have htb : tb ≠ g := by
    obtain ⟨y, hy⟩ : ∃ y, (tks A.lines)[0]? = some y := ⟨_, List.getElem?_eq_getElem (by rw [len_tks, hll]; omega)⟩
    exact h.ne (h2.at_ 0 y hy) (by simp)
  refine ⟨h.he.fr hF (by simp; omega) (by simp; omega) (by simp; omega) (by simp; omega), hl, ⟨wa, wn, wk, tb, tc, ma, mn, mc, oa, oc, hF.at h1 (by simpa using hgq), h2.fr hF (by simpa using htb), h3.fr hF ?_ (fun r hr => ?_)⟩, ?_, ?_, fun ht => by simp at ht, ?_, h.rel, ?_, ?_⟩
  · cases O with
    | nil => exact .inl rfl
    | cons r O =>
      refine .inr (fun b' hb' => ?_)
      obtain ⟨b2, q1, q2, q3, _⟩ := h3.at (i := 0) (r := r) rfl
      rw [q1] at hb'
      simp only [Option.some.injEq, Addr.mk.injEq, and_true] at hb'
      subst hb'
      rw [Nat.zero_mul] at q3
      simpa using h.ne q3 (by simp)
  · rcases h.far r hr with h0 | h0
    · exact .inl h0
    · exact .inr (fun b' hb' => by simpa using h0 b' hb')
  · rcases hg with rfl | hg
    · exact hgq
    · have := lt_size h1; omega
  · simpa using hown
  · intro r hr
    obtain ⟨_, _, q3⟩ := h3.fs r hr
    rcases q3 with q3 | ⟨b', q1, q2, _⟩
    · exact .inl q3
    · rcases h.far r hr with h0 | h0
      · exact .inl h0
      · refine .inr (fun b2 hb2 => ?_)
        rcases hg with rfl | hg
        · exact h0 b2 hb2
        · rw [q1] at hb2
          simp only [Option.some.injEq, Addr.mk.injEq, and_true] at hb2
          omega
  · intro y hy
    rcases List.mem_append.1 hy with hy | hy
    · exact h.ts y hy
    · rw [List.mem_singleton] at hy; subst hy; exact hx
  · exact h.fr.trans hF (by intro y hy; simp at hy; right; omega)
/-- At the start. -/
theorem LAt.start {m : Nat} (h1 : 1 ≤ m) (h2 : m ≤ 6) {w1 : World} (F1 : Fr [] w w1) (H1 : HeAt w1 hb b wb lb (Ar.new m)) (hlo : w.heap.size ≤ b ∧ w.heap.size ≤ wb ∧ w.heap.size ≤ lb) (BS : BsAt w1.heap.size w2 tb tc (tks (Ar.new m).lines)) (F2 : Fr [] w1 w2) :
    LAt w ((w2.alloc (.cells #[.slice wa wn wk, .slice (some ⟨tb, 0, none⟩) (m * 16) tc, .slice ma mn mc, .int .i64 (((Ar.new m).sf : Int)), .int .i64 (((Ar.new m).st : Int)), .int .i64 (((Ar.new m).gf : Int)), .int .i64 (((Ar.new m).gt : Int)), .int .i64 (((Ar.new m).cf : Int)), .int .i64 (((Ar.new m).ct : Int)), .int .i64 (((Ar.new m).next : Int) * 16), .slice none 0 0] 34)).alloc (.cells #[] 37)) w1.heap.size m hb b wb lb w2.heap.size (Ar.new m) [] (w2.heap.size + 1) 0 [] := by
  have F3 : Fr [] w2 ((w2.alloc (.cells #[.slice wa wn wk, .slice (some ⟨tb, 0, none⟩) (m * 16) tc, .slice ma mn mc, .int .i64 (((Ar.new m).sf : Int)), .int .i64 (((Ar.new m).st : Int)), .int .i64 (((Ar.new m).gf : Int)), .int .i64 (((Ar.new m).gt : Int)), .int .i64 (((Ar.new m).cf : Int)), .int .i64 (((Ar.new m).ct : Int)), .int .i64 (((Ar.new m).next : Int) * 16), .slice none 0 0] 34)).alloc (.cells #[] 37)) := ((Fr.refl _ _).alloc _).alloc _
  have l1 := lt_size H1.p
  have l2 := lt_size H1.ar.hb
  have l3 := lt_size H1.ar.hw
  have l4 := lt_size H1.ar.hl
  have s1 := F1.size
  have s2 := F2.size
  refine ⟨H1.keep (F2.same F3), ⟨hlo.1, hlo.2.1, hlo.2.2, l1, l2, l3, l4, s1, s2⟩, ⟨wa, wn, wk, tb, tc, ma, mn, mc, none, 0, ?_, BS.keep F3, ⟨⟨Nat.le_refl _, by unfold maxLen; simp⟩, .inl rfl, by simp, .inl rfl⟩⟩, by omega, ?_, fun _ => ?_, by intro r hr; simp at hr, Rel.start h1 h2, by simp, (F1.same F2).same F3⟩
  · rw [blk_alloc, if_neg (by rw [size_alloc]; omega), blk_alloc, if_pos rfl]; rfl
  · exact own_mk (cur := #[]) (by rw [blk_alloc, if_pos (by rw [size_alloc])]) (by omega) (Nat.le_refl _) (Nat.zero_le _) rfl rfl
  · rw [blk_alloc, if_pos (by rw [size_alloc])]
end
theorem wordVal_form (r : Option Int) : ∃ y z, wordVal r = .tuple #[.int .u64 y, .bool z] := by
  cases r with
  | none => exact ⟨_, _, rfl⟩
  | some x => exact ⟨_, _, rfl⟩
theorem tl_told {O : List RO} {T : List Int} (h : ∀ y, y ∈ T → Tl O y) (k : Int) : Tl O (toldF T k) := by
  unfold toldF
  by_cases hk : k < 0 ∨ (T.length : Int) ≤ k
  · rw [if_pos hk]; left; unfold mkW; omega
  · rw [if_neg hk, List.getElem?_eq_getElem (by omega)]
    exact h _ (List.getElem_mem _)
section
variable {w wr : World} {B m hb b wb lb qb g c : Nat} {A : Ar} {O : List RO} {T : List Int}
theorem LAt.oa (h : LAt w wr B m hb b wb lb qb A O g c T) : ∀ r : RO, r ∈ O → r.a ≤ 1000000 := by
  intro r hr
  obtain ⟨i, hi, he⟩ := List.mem_iff_getElem.1 hr
  have := h.rel.lt (i := i) (r := r) (by rw [List.getElem?_eq_getElem hi, he])
  omega
theorem LAt.op (h : LAt w wr B m hb b wb lb qb A O g c T) : ∀ r : RO, r ∈ O → 0 ≤ r.pins ∧ r.pins ≤ 7 := by
  intro r hr
  have := h.rel.nm r hr
  omega
theorem LAt.of (h : LAt w wr B m hb b wb lb qb A O g c T) : ∀ r : RO, r ∈ O → r.fs.length ≤ 240 := by
  intro r hr
  have := h.rel.nm r hr
  omega
theorem LAt.sz (h : LAt w wr B m hb b wb lb qb A O g c T) : B ≤ wr.heap.size := by
  have := h.gB
  omega
end
end Go.Proofs.Ytjgndfhfiekomaa
