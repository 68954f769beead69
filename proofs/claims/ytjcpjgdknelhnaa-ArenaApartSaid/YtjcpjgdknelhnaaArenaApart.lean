/- The law ArenaApart holds for every input: the Go function returns true and leaves its arguments as they were. No condition. -/
import Derived.Test.YtjcpjgdknelhnaaBools
import Derived.Test.YtjcpjgdknelhnaaArgs
import Derived.ProofKit
import Derived.ChangeOld
namespace Go.Proofs.Ytjcpjgdknelhnaa.arenaApart
open Go.ChangeShapes Go.WideShapes Go.ChangeAt Go.RowKit
set_option linter.unusedVariables false
/-- The kinds of an act's fields. -/
def ks : List IntKind := [.i64, .i64, .i64, .u64]
def IsActs (w : World) (a : Option Addr) (len cap : Nat) (N : Nat → Nat → Int) : Prop :=
  RowsAt w a len 4 (fun i j => .int (ks.getD j .i64) (N i j)) ∧ (∀ i j, i < len → j < 4 → (Lit.int (ks.getD j .i64) (N i j)).wf = true) ∧ len ≤ cap ∧ cap ≤ maxLen
theorem opener {H : Type} {enc : TypeId × Value → H} {w : World} {spare : Nat → Bool} {held : Bool} {a : Option Addr} {len cap : Nat} {d : DataW H} {p : List MemPlace}
    (h : DataW.Trod enc Try.prog w 0 spare held 32 (.slice a len cap) d p) : ∃ N, IsActs w a len cap N := by
  obtain ⟨N, h1, h2, h3, h4⟩ := open_int_structs (ks := ks) Try.underlying32 Try.underlying34 (by kernel_rfl) rfl
    (fun j hj => by
      match j, hj with
      | 0, _ => exact ⟨_, _, rfl, rfl, rfl, by kernel_rfl, Try.underlying3⟩
      | 1, _ => exact ⟨_, _, rfl, rfl, rfl, by kernel_rfl, Try.underlying3⟩
      | 2, _ => exact ⟨_, _, rfl, rfl, rfl, by kernel_rfl, Try.underlying3⟩
      | 3, _ => exact ⟨_, _, rfl, rfl, rfl, by kernel_rfl, Try.underlying25⟩
      | n + 4, hj => exact absurd hj (by simp)) h (by decide)
  exact ⟨N, h1, h2, h3, h4⟩
/-- The cells of act k in a world that kept them. -/
theorem act_cells {w w' : World} {ab ao len : Nat} {N : Nat → Nat → Int} {S : List Nat} (h : RowsAt w (some ⟨ab, ao, none⟩) len 4 (fun i j => .int (ks.getD j .i64) (N i j))) (hF : Fr S w w') (hS : ∀ x, x ∈ S → w.heap.size ≤ x) (k : Nat) (hk : k < len) :
    w'.cell? ⟨ab, ao + k * 4, none⟩ = some (.int .i64 (N k 0)) ∧ w'.cell? ⟨ab, ao + k * 4 + 1, none⟩ = some (.int .i64 (N k 1)) ∧ w'.cell? ⟨ab, ao + k * 4 + 2, none⟩ = some (.int .i64 (N k 2)) ∧ w'.cell? ⟨ab, ao + k * 4 + 3, none⟩ = some (.int .u64 (N k 3)) ∧ ab < w'.heap.size := by
  rcases h.fr hF hS with h | ⟨b, o, h1, h2, h3⟩
  · omega
  · simp only [Option.some.injEq, Addr.mk.injEq] at h1
    obtain ⟨rfl, rfl, _⟩ := h1
    exact ⟨h3 k 0 hk (by omega), by rw [Nat.add_assoc]; exact h3 k 1 hk (by omega), by rw [Nat.add_assoc]; exact h3 k 2 hk (by omega), by rw [Nat.add_assoc]; exact h3 k 3 hk (by omega), h2⟩
set_option maxRecDepth 100000 in
theorem early (n : Int) (a : Option Addr) (len cap : Nat) (w : World) (bn : -9223372036854775808 ≤ n ∧ n ≤ 9223372036854775807) (hl : len ≤ maxLen) (h : n < 1 ∨ 8 < n ∨ 200 < len) :
    Calls Try.prog 5 #[.int .i64 n, .slice a len cap] w fun e w' => e = .returned (.bool true) ∧ Below w.heap.size w w' := by
  unfold maxLen at hl
  by_cases h1 : n < 1
  · clear h
    go_enter Try.func5, Try.ntmps5
    go_wp2_with (go_at_call 18; refine (alive_c _).mono ?_; rintro e w' ⟨rfl, F1⟩)
    go_ret
    exact ⟨rfl, F1.below⟩
  by_cases h2 : 8 < n
  · clear h
    go_enter Try.func5, Try.ntmps5
    go_wp2_with (go_at_call 18; refine (alive_c _).mono ?_; rintro e w' ⟨rfl, F1⟩)
    go_ret
    exact ⟨rfl, F1.below⟩
  · have h3 : 200 < len := by omega
    clear h
    go_enter Try.func5, Try.ntmps5
    go_wp2_with (go_at_call 18; refine (alive_c _).mono ?_; rintro e w' ⟨rfl, F1⟩)
    go_ret
    exact ⟨rfl, F1.below⟩
/-- What stands at the head of a round. -/
structure At (w wr : World) (m b wb lb gb kb mb : Nat) (A : Ar) (G K M : List Bool) : Prop where
  ar : ArAt wr b wb lb A
  inv : AInv A m G K M
  g : BoolsAt wr gb G
  k : BoolsAt wr kb K
  m : BoolsAt wr mb M
  ne : gb ≠ kb ∧ gb ≠ mb ∧ kb ≠ mb ∧ (∀ x, x = gb ∨ x = kb ∨ x = mb → x ≠ b ∧ x ≠ wb ∧ x ≠ lb) ∧ w.heap.size ≤ gb ∧ w.heap.size ≤ kb ∧ w.heap.size ≤ mb
  fr : Fr [] w wr
theorem cell_lt {w : World} {b i : Nat} {v : Value} (h : w.cell? ⟨b, i, none⟩ = some v) : b < w.heap.size := (addr_none h).2
theorem At.start {w w1 : World} {m b wb lb : Nat} (hA : ArAt w1 b wb lb (Ar.new m)) (h1 : 1 ≤ m) (h2 : m ≤ 8) (hF : Fr [] w w1) :
    At w (((w1.alloc (.cells (boolCells (falses (m * 256))) 4)).alloc (.cells (boolCells (falses (m * 16))) 4)).alloc (.cells (boolCells (falses (m * 16))) 4)) m b wb lb w1.heap.size (w1.heap.size + 1) (w1.heap.size + 1 + 1) (Ar.new m) (falses (m * 256)) (falses (m * 16)) (falses (m * 16)) := by
  have q1 := lt_size hA.hb
  have q2 := lt_size hA.hw
  have q3 := lt_size hA.hl
  have s1 := hF.size
  have n1 := size_alloc w1 (.cells (boolCells (falses (m * 256))) 4)
  have n2 := size_alloc (w1.alloc (.cells (boolCells (falses (m * 256))) 4)) (.cells (boolCells (falses (m * 16))) 4)
  refine ⟨hA.fr ((((Fr.refl [] _).alloc _).alloc _).alloc _) (by simp) (by simp) (by simp), AInv.start h1 (by omega), ?_, ?_, ?_, ⟨by omega, by omega, by omega, by rintro x (rfl | rfl | rfl) <;> omega, by omega, by omega, by omega⟩, ((hF.alloc _).alloc _).alloc _⟩
  · exact ((BoolsAt.new (w := w1) _).fr ((Fr.refl [] _).alloc _) (by simp)).fr ((Fr.refl [] _).alloc _) (by simp)
  · have := (BoolsAt.new (w := w1.alloc (.cells (boolCells (falses (m * 256))) 4)) (falses (m * 16))).fr ((Fr.refl [] _).alloc (.cells (boolCells (falses (m * 16))) 4)) (by simp)
    rwa [n1] at this
  · have := (BoolsAt.new (w := (w1.alloc (.cells (boolCells (falses (m * 256))) 4)).alloc (.cells (boolCells (falses (m * 16))) 4)) (falses (m * 16)))
    rwa [n2, n1] at this
/-- Behind a step that changed the arena alone. -/
theorem At.arena {w wr w2 : World} {m b wb lb gb kb mb : Nat} {A A' : Ar} {G K M : List Bool} (h : At w wr m b wb lb gb kb mb A G K M) (hg : w.heap.size ≤ b ∧ w.heap.size ≤ wb ∧ w.heap.size ≤ lb) (hA : ArAt w2 b wb lb A') (hF : Fr [b, lb] wr w2) (hi : AInv A' m G K M) :
    At w w2 m b wb lb gb kb mb A' G K M := by
  obtain ⟨_, _, g, k, m', ne, fr⟩ := h
  obtain ⟨x1, x2, x3, x4, x5, x6, x7⟩ := ne
  have y1 := x4 gb (.inl rfl)
  have y2 := x4 kb (.inr (.inl rfl))
  have y3 := x4 mb (.inr (.inr rfl))
  exact ⟨hA, hi, g.fr hF (by simp; omega), k.fr hF (by simp; omega), m'.fr hF (by simp; omega), ⟨x1, x2, x3, x4, x5, x6, x7⟩, fr.trans hF (by simp; omega)⟩
theorem At.giv {w wr w2 : World} {m b wb lb gb kb mb : Nat} {A : Ar} {G G' K M : List Bool} (h : At w wr m b wb lb gb kb mb A G K M) (hF : Fr [gb] wr w2) (hG : BoolsAt w2 gb G') (hi : AInv A m G' K M) :
    At w w2 m b wb lb gb kb mb A G' K M := by
  obtain ⟨ar, _, g, k, m', ne, fr⟩ := h
  obtain ⟨x1, x2, x3, x4, x5, x6, x7⟩ := ne
  have y1 := x4 gb (.inl rfl)
  exact ⟨ar.fr hF (by simp; omega) (by simp; omega) (by simp; omega), hi, hG, k.fr hF (by simp; omega), m'.fr hF (by simp; omega), ⟨x1, x2, x3, x4, x5, x6, x7⟩, fr.trans hF (by simp; omega)⟩
theorem At.mar {w wr w2 : World} {m b wb lb gb kb mb : Nat} {A : Ar} {G M' K M : List Bool} (h : At w wr m b wb lb gb kb mb A G K M) (hF : Fr [mb] wr w2) (hG : BoolsAt w2 mb M') (hi : AInv A m G K M') :
    At w w2 m b wb lb gb kb mb A G K M' := by
  obtain ⟨ar, _, g, k, m', ne, fr⟩ := h
  obtain ⟨x1, x2, x3, x4, x5, x6, x7⟩ := ne
  have y1 := x4 mb (.inr (.inr rfl))
  exact ⟨ar.fr hF (by simp; omega) (by simp; omega) (by simp; omega), hi, g.fr hF (by simp; omega), k.fr hF (by simp; omega), hG, ⟨x1, x2, x3, x4, x5, x6, x7⟩, fr.trans hF (by simp; omega)⟩
theorem At.keep {w wr w2 : World} {m b wb lb gb kb mb : Nat} {A : Ar} {G K M : List Bool} (h : At w wr m b wb lb gb kb mb A G K M) (hF : Fr [] wr w2) : At w w2 m b wb lb gb kb mb A G K M :=
  ⟨h.ar.fr hF (by simp) (by simp) (by simp), h.inv, h.g.fr hF (by simp), h.k.fr hF (by simp), h.m.fr hF (by simp), h.ne, h.fr.same hF⟩
theorem At.swept {w wr w2 : World} {m b wb lb gb kb mb : Nat} {A : Ar} {G K M : List Bool} (h : At w wr m b wb lb gb kb mb A G K M) (hg : w.heap.size ≤ b ∧ w.heap.size ≤ wb ∧ w.heap.size ≤ lb) (hA : ArAt w2 b wb lb A.sweep) (hF : Fr [b, lb] wr w2) :
    At w ((w2.alloc (.cells (boolCells (falses (m * 256))) 4)).alloc (.cells (boolCells (falses (m * 16))) 4)) m b wb lb w2.heap.size mb (w2.heap.size + 1) A.sweep (falses (m * 256)) M (falses (m * 16)) := by
  obtain ⟨ar, inv, g, k, m', ne, fr⟩ := h
  obtain ⟨x1, x2, x3, x4, x5, x6, x7⟩ := ne
  have y3 := x4 mb (.inr (.inr rfl))
  have q1 := lt_size hA.hb
  have q2 := lt_size hA.hw
  have q3 := lt_size hA.hl
  have hm2 := m'.fr hF (by simp; omega)
  have q4 := lt_size hm2
  have fr2 : Fr [] w w2 := fr.trans hF (by simp; omega)
  have s1 := fr2.size
  have n1 := size_alloc w2 (.cells (boolCells (falses (m * 256))) 4)
  refine ⟨hA.fr (((Fr.refl [] _).alloc _).alloc _) (by simp) (by simp) (by simp), inv.sweep, ?_, ?_, ?_, ⟨by omega, by omega, by omega, by rintro x (rfl | rfl | rfl) <;> omega, by omega, by omega, by omega⟩, (fr2.alloc _).alloc _⟩
  · exact (BoolsAt.new (w := w2) _).fr ((Fr.refl [] _).alloc _) (by simp)
  · exact hm2.fr (((Fr.refl [] _).alloc _).alloc _) (by simp)
  · have := (BoolsAt.new (w := w2.alloc (.cells (boolCells (falses (m * 256))) 4)) (falses (m * 16)))
    rwa [n1] at this
set_option maxHeartbeats 2000000 in
set_option maxRecDepth 100000 in
theorem main (m : Nat) (a : Option Addr) (len cap : Nat) (N : Nat → Nat → Int) (w : World) (hm1 : 1 ≤ m) (hm2 : m ≤ 8) (hl : len ≤ 200) (hN : IsActs w a len cap N) :
    Calls Try.prog 5 #[.int .i64 (m : Int), .slice a len cap] w fun e w' => e = .returned (.bool true) ∧ Below w.heap.size w w' := by
  have hb : Hid (blocksOf (m : Int) = m) := Lib.hid (by unfold blocksOf; split; omega; split; omega; omega)
  have HN := Lib.hid hN
  clear hN
  have e1 : ∀ w, (Instr.makeSlice 40 (.int .i64 (256 * (m : Int))) (.int .i64 (256 * (m : Int)))).run Try.prog w = .ok (.slice (some ⟨w.heap.size, 0, none⟩) (m * 256) (m * 256)) (w.alloc (.cells (boolCells (falses (m * 256))) 4)) :=
    fun w => by rw [show (256 * (m : Int)) = ((m * 256 : Nat) : Int) by omega]; exact run_bools w (m * 256) (by omega)
  have e2 : ∀ w, (Instr.makeSlice 40 (.int .i64 (16 * (m : Int))) (.int .i64 (16 * (m : Int)))).run Try.prog w = .ok (.slice (some ⟨w.heap.size, 0, none⟩) (m * 16) (m * 16)) (w.alloc (.cells (boolCells (falses (m * 16))) 4)) :=
    fun w => by rw [show (16 * (m : Int)) = ((m * 16 : Nat) : Int) by omega]; exact run_bools w (m * 16) (by omega)
  go_enter Try.func5, Try.ntmps5
  go_wp2_with fail
  refine (alive_c _).mono ?_
  rintro e w0 ⟨rfl, F0⟩
  go_wp2_with fail
  refine (new_c _ _).mono ?_
  rintro e w1 ⟨b, wb, lb, rfl, A0, F1, hb1, hb2, hb3⟩
  rw [hb.out] at A0
  have hs0 := F0.size
  have F1 := F0.same F1
  have g1 : w.heap.size ≤ b := by omega
  have g2 : w.heap.size ≤ wb := by omega
  have g3 : w.heap.size ≤ lb := by omega
  have q1 := lt_size A0.hb
  have q2 := lt_size A0.hw
  have q3 := lt_size A0.hl
  have s1 := F1.size
  have A0 := Lib.hid A0
  clear F0 hb1 hb2 hb3 hs0 hb
  go_wp2_with fail
  have AT0 : Hid _ := Lib.hid (At.start (w := w) A0.out hm1 hm2 F1)
  clear A0 F1
  have GG : Hid (w.heap.size ≤ b ∧ w.heap.size ≤ wb ∧ w.heap.size ≤ lb) := Lib.hid ⟨g1, g2, g3⟩
  go_loopw [6, 7, 8, 41] (fun s6 s7 s8 x wr => ∃ (k : Nat) (A : Ar) (G K M : List Bool) (gb kb mb : Nat), k ≤ len ∧ x = .int .i64 k ∧ s6 = .slice (some ⟨gb, 0, none⟩) (m * 256) (m * 256) ∧ s7 = .slice (some ⟨kb, 0, none⟩) (m * 16) (m * 16) ∧ s8 = .slice (some ⟨mb, 0, none⟩) (m * 16) (m * 16) ∧ Hid (At w wr m b wb lb gb kb mb A G K M)) (fun _ _ _ x _ => len - (intOf x).toNat)
  case atStart => exact ⟨0, _, _, _, _, _, _, _, by omega, rfl, rfl, rfl, rfl, AT0⟩
  case round =>
    obtain ⟨k, A, G, K, M, gb, kb, mb, hk, rfl, rfl, rfl, rfl, hAt⟩ := hrel
    clear AT0 q1 q2 q3 s1 g1 g2 g3
    by_cases hlt : k < len
    · obtain ⟨hr, hw, hl1, hl2⟩ := HN.out
      have hr' := hr
      rcases hr' with hr' | ⟨ab, ao, rfl, _, _⟩
      · omega
      obtain ⟨d0, d1, d2, d3, d4⟩ := act_cells hr hAt.out.fr (by simp) k hlt
      have b1 := bounds_i64 (hw k 1 hlt (by omega))
      have b2 := bounds_i64 (hw k 2 hlt (by omega))
      clear hr hw hl1 hl2
      obtain ⟨wo, rfl⟩ : ∃ wo : World, wo = wr := ⟨_, rfl⟩
      by_cases k0 : N k 0 = 0
      · rw [k0] at d0
        clear k0
        have qb := lt_size hAt.out.ar.hb
        have qw := lt_size hAt.out.ar.hw
        have ql := lt_size hAt.out.ar.hl
        have BX : blk (wo.alloc (Obj.cells #[Value.int IntKind.i64 0, Value.int IntKind.i64 (N k 1), Value.int IntKind.i64 (N k 2), Value.int IntKind.u64 (N k 3)] 34)) wo.heap.size = some (Obj.cells #[Value.int IntKind.i64 0, Value.int IntKind.i64 (N k 1), Value.int IntKind.i64 (N k 2), Value.int IntKind.u64 (N k 3)] 34) := by rw [blk_alloc, if_pos rfl]
        have BX := Lib.hid BX
        go_wp2_with fail
        refine (alloc_c _ (ArAt.fr hAt.out.ar ((Fr.refl [] wo).alloc _) (by simp) (by simp) (by simp)) hAt.out.inv.ok (N k 1)).mono ?_
        rintro e w2 ⟨rfl, hA2, hF2⟩
        have BX2 := hF2.at BX.out (by simp; omega)
        have x1 : w2.cell? ⟨wo.heap.size, 1, none⟩ = some (.int .i64 (N k 1)) := cell_of BX2 (i := 1) rfl
        have FW : Hid (Fr [b, lb] wo w2) := Lib.hid (((Fr.refl [b, lb] wo).alloc _).same hF2)
        have hgv := hAt.out.inv.alloc (N k 1)
        have HA2 := Lib.hid hA2
        clear BX BX2 hF2 hA2
        unfold GaveOr at hgv
        cases ho : (A.alloc m (N k 1)).2 with
        | none =>
          rw [ho] at hgv
          have NX : Hid (At w w2 m b wb lb gb kb mb (A.alloc m (N k 1)).1 G K M) := Lib.hid (hAt.out.arena GG.out HA2.out FW.out hgv)
          simp only [optVal]
          clear hgv ho HA2 FW
          go_wp2
          go_roundw
          case rel => exact ⟨k + 1, _, G, K, M, gb, kb, mb, by omega, by go_num, rfl, rfl, rfl, NX⟩
          case measure => simp [intOf]; omega
        | some n =>
          rw [ho] at hgv
          simp only [optVal]
          obtain ⟨inv', p1, p2, p3, p4, p5⟩ := hgv
          have t1 : 1 ≤ N k 1 := by omega
          have t2 : N k 1 ≤ 256 := by omega
          have t3 : (n : Int) ≤ 256 * (m : Int) - N k 1 := by omega
          have t4 : ((n : Int) / 256 != ((n : Int) + N k 1 - 1) / 256) = false := by simp; omega
          have AT2 : Hid (ArAt w2 b wb lb (A.alloc m (N k 1)).1) := HA2
          have I2 : Hid (AInv (A.alloc m (N k 1)).1 m (ones G n (n + (N k 1).toNat)) K M) := Lib.hid inv'
          have GF := Lib.hid p5
          have gl := Lib.hid hAt.out.inv.gl
          have kl := Lib.hid hAt.out.inv.kl
          have HG2 : Hid (BoolsAt w2 gb G) := Lib.hid (hAt.out.g.fr FW.out (by have := hAt.out.ne.2.2.2.1 gb (.inl rfl); simp; omega))
          have HK2 : Hid (BoolsAt w2 kb K) := Lib.hid (hAt.out.k.fr FW.out (by have := hAt.out.ne.2.2.2.1 kb (.inr (.inl rfl)); simp; omega))
          have gkne : Hid (gb ≠ kb) := Lib.hid hAt.out.ne.1
          have qg : gb < wo.heap.size := lt_size hAt.out.g
          have BXW : Hid (∀ w3, Fr [gb] w2 w3 → w3.cell? ⟨wo.heap.size, 1, none⟩ = some (.int .i64 (N k 1))) := Lib.hid (fun w3 h3 => by
            have h4 := h3.block wo.heap.size (by have := (cell_lt x1); omega) (by simp; omega)
            rw [← x1]; exact World.cell?_of_block (w := w2) h4)
          have NXT : Hid (∀ w3, Fr [gb] w2 w3 → BoolsAt w3 gb (ones G n (n + (N k 1).toNat)) → At w w3 m b wb lb gb kb mb (A.alloc m (N k 1)).1 (ones G n (n + (N k 1).toNat)) K M) := Lib.hid (fun w3 h3 h4 => by
            obtain ⟨ar, _, g, k', m', ne, fr⟩ := hAt.out
            have FW' := FW.out
            obtain ⟨z1, z2, z3, z4, z5, z6, z7⟩ := ne
            have y1 := z4 gb (.inl rfl)
            have y2 := z4 kb (.inr (.inl rfl))
            have y3 := z4 mb (.inr (.inr rfl))
            exact ⟨AT2.out.fr h3 (by simp; omega) (by simp; omega) (by simp; omega), I2.out, h4, (k'.fr FW' (by simp; omega)).fr h3 (by simp; omega), (m'.fr FW' (by simp; omega)).fr h3 (by simp; omega), ⟨z1, z2, z3, z4, z5, z6, z7⟩, (fr.trans FW' (by have := GG.out; simp; omega)).trans h3 (by simp; omega)⟩)
          clear inv' p1 p2 p4 p5 ho HA2
          go_wp2_with fail
          go_loopw [13] (fun x wr => ∃ i : Nat, n ≤ i ∧ i ≤ n + (N k 1).toNat ∧ x = .int .i64 i ∧ Hid (BoolsAt wr gb (ones G n i)) ∧ Hid (Fr [gb] w2 wr)) (fun x _ => n + (N k 1).toNat - (intOf x).toNat)
          case atStart => exact ⟨n, by omega, by omega, rfl, by rw [ones_self]; exact HG2, Lib.hid (Fr.refl _ _)⟩
          case round =>
            obtain ⟨i, hi1, hi2, rfl, hB, hF3⟩ := hrel
            have y1 := BXW.out wr hF3.out
            by_cases hlt3 : i < n + (N k 1).toNat
            · obtain ⟨f1, f2⟩ := GF.out i hi1 hlt3
              have hig : i < G.length := by rw [gl.out]; omega
              have c0 := hB.out.cell (i := i) (by rw [len_ones]; exact hig)
              have c1 := (HK2.out.fr hF3.out (by have := gkne.out; simp; omega)).cell (i := i / 16) (by rw [kl.out]; omega)
              have hff := hB.out.free i
              have f3 : (ones G n i)[i]?.getD false = false := by
                rw [ones_get]; rw [List.getElem?_eq_getElem hig] at f1 ⊢; simpa using f1
              rw [f3] at c0
              rw [f2] at c1
              have B2 : Hid (BoolsAt (wr.setCell ⟨gb, i, none⟩ (.bool true)) gb (ones G n (i + 1))) := Lib.hid (by rw [← ones_step G n i hi1]; exact hB.out.set i true)
              have tt : (i : Int) < (n : Int) + N k 1 := by omega
              clear f1 f2 f3 hig
              go_wp2
              go_roundw
              case rel => exact ⟨i + 1, by omega, by omega, by go_num, B2, Lib.hid (hF3.out.setCell (by simp) _)⟩
              case measure => simp [intOf]; omega
            · have hin : i = n + (N k 1).toNat := by omega
              have tt : (n : Int) + N k 1 ≤ (i : Int) := by omega
              have NX := NXT.out wr hF3.out (by rw [← hin]; exact hB.out)
              have NX := Lib.hid NX
              clear hin
              go_wp2
              go_roundw
              case rel => exact ⟨k + 1, _, _, K, M, gb, kb, mb, by omega, by go_num, rfl, rfl, rfl, NX⟩
              case measure => simp [intOf]; omega
      by_cases k1 : N k 0 = 1
      · rw [k1] at d0
        clear k1 k0
        have qb := lt_size hAt.out.ar.hb
        have qw := lt_size hAt.out.ar.hw
        have ql := lt_size hAt.out.ar.hl
        have BX : blk (wo.alloc (Obj.cells #[Value.int IntKind.i64 1, Value.int IntKind.i64 (N k 1), Value.int IntKind.i64 (N k 2), Value.int IntKind.u64 (N k 3)] 34)) wo.heap.size = some (Obj.cells #[Value.int IntKind.i64 1, Value.int IntKind.i64 (N k 1), Value.int IntKind.i64 (N k 2), Value.int IntKind.u64 (N k 3)] 34) := by rw [blk_alloc, if_pos rfl]
        have BX := Lib.hid BX
        go_wp2_with fail
        refine (fresh_c _ (ArAt.fr hAt.out.ar ((Fr.refl [] wo).alloc _) (by simp) (by simp) (by simp)) hAt.out.inv.ok (N k 1)).mono ?_
        rintro e w2 ⟨rfl, hA2, hF2⟩
        have BX2 := hF2.at BX.out (by simp; omega)
        have x1 : w2.cell? ⟨wo.heap.size, 1, none⟩ = some (.int .i64 (N k 1)) := cell_of BX2 (i := 1) rfl
        have FW : Hid (Fr [b, lb] wo w2) := Lib.hid (((Fr.refl [b, lb] wo).alloc _).same hF2)
        have hgv := hAt.out.inv.fresh (N k 1)
        have HA2 := Lib.hid hA2
        clear BX BX2 hF2 hA2
        unfold GaveOr at hgv
        cases ho : (A.fresh m (N k 1)).2 with
        | none =>
          rw [ho] at hgv
          have NX : Hid (At w w2 m b wb lb gb kb mb (A.fresh m (N k 1)).1 G K M) := Lib.hid (hAt.out.arena GG.out HA2.out FW.out hgv)
          simp only [optVal]
          clear hgv ho HA2 FW
          go_wp2
          go_roundw
          case rel => exact ⟨k + 1, _, G, K, M, gb, kb, mb, by omega, by go_num, rfl, rfl, rfl, NX⟩
          case measure => simp [intOf]; omega
        | some n =>
          rw [ho] at hgv
          simp only [optVal]
          obtain ⟨inv', p1, p2, p3, p4, p5⟩ := hgv
          have t1 : 1 ≤ N k 1 := by omega
          have t2 : N k 1 ≤ 256 := by omega
          have t3 : (n : Int) ≤ 256 * (m : Int) - N k 1 := by omega
          have t4 : ((n : Int) / 256 != ((n : Int) + N k 1 - 1) / 256) = false := by simp; omega
          have AT2 : Hid (ArAt w2 b wb lb (A.fresh m (N k 1)).1) := HA2
          have I2 : Hid (AInv (A.fresh m (N k 1)).1 m (ones G n (n + (N k 1).toNat)) K M) := Lib.hid inv'
          have GF := Lib.hid p5
          have gl := Lib.hid hAt.out.inv.gl
          have kl := Lib.hid hAt.out.inv.kl
          have HG2 : Hid (BoolsAt w2 gb G) := Lib.hid (hAt.out.g.fr FW.out (by have := hAt.out.ne.2.2.2.1 gb (.inl rfl); simp; omega))
          have HK2 : Hid (BoolsAt w2 kb K) := Lib.hid (hAt.out.k.fr FW.out (by have := hAt.out.ne.2.2.2.1 kb (.inr (.inl rfl)); simp; omega))
          have gkne : Hid (gb ≠ kb) := Lib.hid hAt.out.ne.1
          have qg : gb < wo.heap.size := lt_size hAt.out.g
          have BXW : Hid (∀ w3, Fr [gb] w2 w3 → w3.cell? ⟨wo.heap.size, 1, none⟩ = some (.int .i64 (N k 1))) := Lib.hid (fun w3 h3 => by
            have h4 := h3.block wo.heap.size (by have := (cell_lt x1); omega) (by simp; omega)
            rw [← x1]; exact World.cell?_of_block (w := w2) h4)
          have NXT : Hid (∀ w3, Fr [gb] w2 w3 → BoolsAt w3 gb (ones G n (n + (N k 1).toNat)) → At w w3 m b wb lb gb kb mb (A.fresh m (N k 1)).1 (ones G n (n + (N k 1).toNat)) K M) := Lib.hid (fun w3 h3 h4 => by
            obtain ⟨ar, _, g, k', m', ne, fr⟩ := hAt.out
            have FW' := FW.out
            obtain ⟨z1, z2, z3, z4, z5, z6, z7⟩ := ne
            have y1 := z4 gb (.inl rfl)
            have y2 := z4 kb (.inr (.inl rfl))
            have y3 := z4 mb (.inr (.inr rfl))
            exact ⟨AT2.out.fr h3 (by simp; omega) (by simp; omega) (by simp; omega), I2.out, h4, (k'.fr FW' (by simp; omega)).fr h3 (by simp; omega), (m'.fr FW' (by simp; omega)).fr h3 (by simp; omega), ⟨z1, z2, z3, z4, z5, z6, z7⟩, (fr.trans FW' (by have := GG.out; simp; omega)).trans h3 (by simp; omega)⟩)
          clear inv' p1 p2 p4 p5 ho HA2
          go_wp2_with fail
          go_loopw [13] (fun x wr => ∃ i : Nat, n ≤ i ∧ i ≤ n + (N k 1).toNat ∧ x = .int .i64 i ∧ Hid (BoolsAt wr gb (ones G n i)) ∧ Hid (Fr [gb] w2 wr)) (fun x _ => n + (N k 1).toNat - (intOf x).toNat)
          case atStart => exact ⟨n, by omega, by omega, rfl, by rw [ones_self]; exact HG2, Lib.hid (Fr.refl _ _)⟩
          case round =>
            obtain ⟨i, hi1, hi2, rfl, hB, hF3⟩ := hrel
            have y1 := BXW.out wr hF3.out
            by_cases hlt3 : i < n + (N k 1).toNat
            · obtain ⟨f1, f2⟩ := GF.out i hi1 hlt3
              have hig : i < G.length := by rw [gl.out]; omega
              have c0 := hB.out.cell (i := i) (by rw [len_ones]; exact hig)
              have c1 := (HK2.out.fr hF3.out (by have := gkne.out; simp; omega)).cell (i := i / 16) (by rw [kl.out]; omega)
              have hff := hB.out.free i
              have f3 : (ones G n i)[i]?.getD false = false := by
                rw [ones_get]; rw [List.getElem?_eq_getElem hig] at f1 ⊢; simpa using f1
              rw [f3] at c0
              rw [f2] at c1
              have B2 : Hid (BoolsAt (wr.setCell ⟨gb, i, none⟩ (.bool true)) gb (ones G n (i + 1))) := Lib.hid (by rw [← ones_step G n i hi1]; exact hB.out.set i true)
              have tt : (i : Int) < (n : Int) + N k 1 := by omega
              clear f1 f2 f3 hig
              go_wp2
              go_roundw
              case rel => exact ⟨i + 1, by omega, by omega, by go_num, B2, Lib.hid (hF3.out.setCell (by simp) _)⟩
              case measure => simp [intOf]; omega
            · have hin : i = n + (N k 1).toNat := by omega
              have tt : (n : Int) + N k 1 ≤ (i : Int) := by omega
              have NX := NXT.out wr hF3.out (by rw [← hin]; exact hB.out)
              have NX := Lib.hid NX
              clear hin
              go_wp2
              go_roundw
              case rel => exact ⟨k + 1, _, _, K, M, gb, kb, mb, by omega, by go_num, rfl, rfl, rfl, NX⟩
              case measure => simp [intOf]; omega
      by_cases k2 : N k 0 = 2
      · rw [k2] at d0
        clear k0 k1 k2
        by_cases hgd : 0 ≤ N k 2 ∧ N k 2 < 256 * (m : Int) ∧ 0 < N k 1 ∧ N k 1 ≤ 256 * (m : Int) - N k 2
        · obtain ⟨v1, v2, v3, v4⟩ := hgd
          obtain ⟨at_, hat⟩ : ∃ at_ : Nat, N k 2 = at_ := ⟨(N k 2).toNat, by omega⟩
          obtain ⟨cn, hcn⟩ : ∃ cn : Nat, N k 1 = cn := ⟨(N k 1).toNat, by omega⟩
          rw [hat] at d2 v1 v2 v4
          rw [hcn] at d1 v3 v4
          clear hat hcn b1 b2
          have qb := lt_size hAt.out.ar.hb
          have ql := lt_size hAt.out.ar.hl
          have qm : mb < wo.heap.size := lt_size hAt.out.m
          have BX : blk (wo.alloc (Obj.cells #[Value.int IntKind.i64 2, Value.int IntKind.i64 (cn : Int), Value.int IntKind.i64 (at_ : Int), Value.int IntKind.u64 (N k 3)] 34)) wo.heap.size = some (Obj.cells #[Value.int IntKind.i64 2, Value.int IntKind.i64 (cn : Int), Value.int IntKind.i64 (at_ : Int), Value.int IntKind.u64 (N k 3)] 34) := by rw [blk_alloc, if_pos rfl]
          have BX := Lib.hid BX
          go_wp2_with fail
          refine (mark_c _ (ArAt.fr hAt.out.ar ((Fr.refl [] wo).alloc _) (by simp) (by simp) (by simp)) hAt.out.inv.ok (at_ : Int) (cn : Int) (by omega) (by omega)).mono ?_
          rintro e w2 ⟨rfl, hA2, hF2⟩
          have BX2 := hF2.at BX.out (by simp; omega)
          have x1 : w2.cell? ⟨wo.heap.size, 1, none⟩ = some (.int .i64 (cn : Int)) := cell_of BX2 (i := 1) rfl
          have x2 : w2.cell? ⟨wo.heap.size, 2, none⟩ = some (.int .i64 (at_ : Int)) := cell_of BX2 (i := 2) rfl
          have FW : Hid (Fr [b, lb] wo w2) := Lib.hid (((Fr.refl [b, lb] wo).alloc _).trans hF2 (by simp))
          have I2 := Lib.hid (hAt.out.inv.mark at_ cn (by omega) (by omega))
          have HA2 := Lib.hid hA2
          clear BX BX2 hF2 hA2
          have ml := Lib.hid hAt.out.inv.ml
          have HM2 : Hid (BoolsAt w2 mb M) := Lib.hid (hAt.out.m.fr FW.out (by have := hAt.out.ne.2.2.2.1 mb (.inr (.inr rfl)); simp; omega))
          have BXW : Hid (∀ w3, Fr [mb] w2 w3 → w3.cell? ⟨wo.heap.size, 1, none⟩ = some (.int .i64 (cn : Int)) ∧ w3.cell? ⟨wo.heap.size, 2, none⟩ = some (.int .i64 (at_ : Int))) := Lib.hid (fun w3 h3 => by
            have h4 := h3.block wo.heap.size (by have := (cell_lt x1); omega) (by simp; omega)
            exact ⟨by rw [← x1]; exact World.cell?_of_block (w := w2) h4, by rw [← x2]; exact World.cell?_of_block (w := w2) h4⟩)
          have NXT : Hid (∀ w3, Fr [mb] w2 w3 → BoolsAt w3 mb (markTo M at_ cn) → At w w3 m b wb lb gb kb mb (A.mark m (at_ : Int) (cn : Int)) G K (markTo M at_ cn)) := Lib.hid (fun w3 h3 h4 => by
            obtain ⟨ar, _, g, k', m', ne, fr⟩ := hAt.out
            have FW' := FW.out
            obtain ⟨z1, z2, z3, z4, z5, z6, z7⟩ := ne
            have y1 := z4 gb (.inl rfl)
            have y2 := z4 kb (.inr (.inl rfl))
            have y3 := z4 mb (.inr (.inr rfl))
            have he : markTo M at_ cn = ones M (at_ / 16) ((at_ + cn - 1) / 16 + 1) := by
              obtain ⟨c, rfl⟩ : ∃ c, cn = c + 1 := ⟨cn - 1, by omega⟩
              rw [markTo_eq]; rfl
            refine ⟨HA2.out.fr h3 (by simp; omega) (by simp; omega) (by simp; omega), ?_, (g.fr FW' (by simp; omega)).fr h3 (by simp; omega), (k'.fr FW' (by simp; omega)).fr h3 (by simp; omega), h4, ⟨z1, z2, z3, z4, z5, z6, z7⟩, (fr.trans FW' (by have := GG.out; simp; omega)).trans h3 (by simp; omega)⟩
            rw [he]; exact I2.out)
          clear I2 HA2 x1 x2
          have X0 := BXW.out w2 (Fr.refl _ _)
          have x1 := X0.1
          have x2 := X0.2
          clear X0
          go_wp2_with fail
          clear x1 x2
          go_loopw [14] (fun x wr => ∃ i : Nat, i ≤ cn ∧ x = .int .i64 ((at_ : Int) + (i : Int)) ∧ Hid (BoolsAt wr mb (markTo M at_ i)) ∧ Hid (Fr [mb] w2 wr)) (fun x _ => at_ + cn - (intOf x).toNat)
          case atStart => exact ⟨0, by omega, by simp, HM2, Lib.hid (Fr.refl _ _)⟩
          case round =>
            obtain ⟨i, hi, rfl, hB, hF3⟩ := hrel
            obtain ⟨y1, y2⟩ := BXW.out wr hF3.out
            by_cases hlt3 : i < cn
            · have c0 := hB.out.cell (i := (at_ + i) / 16) (by rw [len_markTo, ml.out]; omega)
              have hff := hB.out.free ((at_ + i) / 16)
              have B2 : Hid (BoolsAt (wr.setCell ⟨mb, (at_ + i) / 16, none⟩ (.bool true)) mb (markTo M at_ (i + 1))) := Lib.hid (hB.out.set _ true)
              go_wp2
              go_roundw
              case rel => exact ⟨i + 1, by omega, by go_num, B2, Lib.hid (hF3.out.setCell (by simp) _)⟩
              case measure => simp [intOf]; omega
            · have hin : i = cn := by omega
              have NX := NXT.out wr hF3.out (by rw [← hin]; exact hB.out)
              have NX := Lib.hid NX
              clear hin
              go_wp2
              go_roundw
              case rel => exact ⟨k + 1, _, G, K, _, gb, kb, mb, by omega, by go_num, rfl, rfl, rfl, NX⟩
              case measure => simp [intOf]; omega
        · have NX := hAt.out.keep ((Fr.refl [] wo).alloc (Obj.cells #[Value.int IntKind.i64 2, Value.int IntKind.i64 (N k 1), Value.int IntKind.i64 (N k 2), Value.int IntKind.u64 (N k 3)] 34))
          have NX := Lib.hid NX
          by_cases v1 : N k 2 < 0
          · clear hgd
            go_wp2
            go_roundw
            case rel => exact ⟨k + 1, _, G, K, M, gb, kb, mb, by omega, by go_num, rfl, rfl, rfl, NX⟩
            case measure => simp [intOf]; omega
          by_cases v2 : 256 * (m : Int) ≤ N k 2
          · clear hgd
            go_wp2
            go_roundw
            case rel => exact ⟨k + 1, _, G, K, M, gb, kb, mb, by omega, by go_num, rfl, rfl, rfl, NX⟩
            case measure => simp [intOf]; omega
          by_cases v3 : N k 1 ≤ 0
          · clear hgd
            go_wp2
            go_roundw
            case rel => exact ⟨k + 1, _, G, K, M, gb, kb, mb, by omega, by go_num, rfl, rfl, rfl, NX⟩
            case measure => simp [intOf]; omega
          · have v4 : 256 * (m : Int) - N k 2 < N k 1 := by omega
            clear hgd
            go_wp2
            go_roundw
            case rel => exact ⟨k + 1, _, G, K, M, gb, kb, mb, by omega, by go_num, rfl, rfl, rfl, NX⟩
            case measure => simp [intOf]; omega
      by_cases k3 : N k 0 = 3
      · rw [k3] at d0
        clear k0 k1 k2 k3
        go_wp2_with fail
        refine (sweep_c _ (ArAt.fr hAt.out.ar ((Fr.refl [] wo).alloc _) (by simp) (by simp) (by simp)) hAt.out.inv.ok).mono ?_
        rintro e w2 ⟨rfl, hA2, hF2⟩
        have NX := Lib.hid (hAt.out.swept GG.out hA2 (((Fr.refl [b, lb] wo).alloc _).same hF2))
        clear hA2 hF2
        go_wp2
        go_roundw
        case rel => exact ⟨k + 1, _, _, _, _, _, _, _, by omega, by go_num, rfl, rfl, rfl, NX⟩
        case measure => simp [intOf]; omega
      · have NX := hAt.out.keep ((Fr.refl [] wo).alloc (Obj.cells #[Value.int IntKind.i64 (N k 0), Value.int IntKind.i64 (N k 1), Value.int IntKind.i64 (N k 2), Value.int IntKind.u64 (N k 3)] 34))
        have NX := Lib.hid NX
        have t0 : (N k 0 == 0) = false := by simpa using k0
        have t1 : (N k 0 == 1) = false := by simpa using k1
        have t2 : (N k 0 == 2) = false := by simpa using k2
        have t3 : (N k 0 == 3) = false := by simpa using k3
        clear k0 k1 k2 k3
        go_wp2
        go_roundw
        case rel => exact ⟨k + 1, _, G, K, M, gb, kb, mb, by omega, by go_num, rfl, rfl, rfl, NX⟩
        case measure => simp [intOf]; omega
    · have hkl : k = len := by omega
      subst hkl
      go_wp2
      go_ret
      exact ⟨rfl, hAt.out.fr.below⟩
theorem walk (n : Int) (a : Option Addr) (len cap : Nat) (N : Nat → Nat → Int) (w : World) (w0 : (Lit.int .i64 n).wf = true) (hN : IsActs w a len cap N) :
    Calls Try.prog 5 #[.int .i64 n, .slice a len cap] w fun e w' => e = .returned (.bool true) ∧ Below w.heap.size w w' := by
  have bn := bounds_i64 w0
  by_cases h : n < 1 ∨ 8 < n ∨ 200 < len
  · exact early n a len cap w bn (by have := hN.2.2; omega) h
  · have := main n.toNat a len cap N w (by omega) (by omega) (by omega) hN
    rwa [show ((n.toNat : Nat) : Int) = n from by omega] at this
theorem own : ownKnob Try.prog.godebug = none := by kernel_rfl
theorem laidOut : laidOutB Try.prog = true := by kernel_rfl
set_option maxRecDepth 100000 in
theorem lifted (os : Os) (started : os.Started) (H : Type) (enc : TypeId × Value → H) :
    ReturnsInHanded {} Try.checked os 5 .any (Rows.arenaApartSpec.pre6 enc Try.prog Try.f5 Rows.arenaApartRow.domain false) (Rows.arenaApartSpec.post enc Try.prog Try.f5 false true false false) := by
  refine returnsInHanded_of_change (C := Try.checked) own started (by kernel_rfl) Try.func5
    (ChangeSpec.witness6 (enc := enc) (C := Try.checked) false ⟨#[], #[.int .i64 0, .slice none 0 0], []⟩ 8 (by kernel_rfl) (by kernel_rfl) (by kernel_rfl) (by kernel_rfl)) ?_
  intro W base args ds gs before hval0 hW hcnd _
  have hval : ∀ (j : Nat) t v, Try.f5.params[j]? = some t → args[j]? = some v → Value.okWide Try.prog W .any base t v := hval0
  have hW' := hW
  obtain ⟨p, q, hA0, hV, rfl, hfz, hnd⟩ := hW
  have hA : DataW.TrodAll enc Try.prog W 0 (fun _ => true) true Try.f5.params.toList args.toList ds p := hA0
  rw [Try.params5] at hA hval
  obtain ⟨v0, vs0, d0, ds0, p0, q0, hargs, rfl, rfl, h0, r0⟩ := trodAll_cons hA
  obtain ⟨v1, vs1, d1, ds1, p1, q1, rfl, rfl, rfl, h1, r1⟩ := trodAll_cons r0
  obtain ⟨rfl, rfl, rfl⟩ := trodAll_nil r1
  obtain rfl : args = #[v0, v1] := by cases args; simp_all
  obtain ⟨rfl, rfl⟩ := trodVars_none hV
  obtain ⟨a0, rfl, rfl, rfl, w0⟩ := open_int Try.underlying3 (hval 0 3 v0 rfl rfl) h0
  obtain ⟨a1, len1, cap1, rfl⟩ := okWide_slice Try.underlying32 (hval 1 32 v1 rfl rfl)
  have k1 := h1
  have lt1 : ∀ x ∈ p1, x.block < W.heap.size := by obtain ⟨m, hm⟩ := k1; exact DataW.trod_lt m _ _ _ hm
  obtain ⟨z1, w1⟩ := opener h1
  clear hA0 hval0
  refine (walk a0 a1 len1 cap1 z1 W w0 w1).mono fun e W' ⟨he, bel⟩ => ?_
  subst he
  exact ⟨_, rfl, _, _, _, [], _, [], hW', trodAll_mk1 (shut_bool Try.underlying4 _), (trodAll_cons_mk (shut_int Try.underlying3 w0) (trodAll_cons_mk (Below.trod laidOut (by kernel_rfl) (of_decide_eq_true (by kernel_rfl)) k1 bel lt1) trodAll_mk0)), rfl, bel.frame _, fun h => by cases h⟩
theorem over : Rows.arenaApartRow.holds Try.pinned (OpenSpec.ofChange Rows.arenaApartSpec) :=
  OpenClaim.holds_of_wide 5 Try.f5 rfl rfl rfl rfl rfl rfl rfl ⟨rfl, rfl, rfl, rfl, rfl⟩ rfl rfl rfl rfl rfl (by kernel_rfl) Try.func5 (by kernel_rfl)
    (of_decide_eq_true (by kernel_rfl)) (by unfold Func.isWrapper; first | (rw [if_pos (by decide +kernel)]; kernel_rfl) | (rw [if_neg (by decide +kernel)]; exact ⟨rfl, rfl⟩))
    (fun os started H enc _ => lifted os started H enc)
/-- THE STATEMENT -/
theorem proved : Rows.ArenaApartSaid := over
#print axioms proved
end Go.Proofs.Ytjcpjgdknelhnaa.arenaApart
