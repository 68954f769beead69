/- The law ArenaFills holds for every input: the Go function returns true and leaves its arguments as they were. No condition. -/
import Derived.Test.YtjcpjgdknelhnaaArenaP
import Derived.Test.YtjcpjgdknelhnaaArgs
import Derived.ProofKit
import Derived.ChangeOld
namespace Go.Proofs.Ytjcpjgdknelhnaa.arenaFills
open Go.ChangeShapes Go.WideShapes Go.ChangeAt Go.RowKit
set_option linter.unusedVariables false
/-- The kinds of an act's fields. -/
def ks : List IntKind := [.i64, .i64, .i64, .u64]
def IsActs (w : World) (a : Option Addr) (len cap : Nat) (N : Nat → Nat → Int) : Prop :=
  RowsAt w a len 4 (fun i j => .int (ks.getD j .i64) (N i j)) ∧ (∀ i j, i < len → j < 4 → (Lit.int (ks.getD j .i64) (N i j)).wf = true) ∧ len ≤ cap ∧ cap ≤ maxLen
theorem opener {H : Type} {enc : TypeId × Value → H} {w : World} {spare : Nat → Bool} {held : Bool} {a : Option Addr} {len cap : Nat} {d : DataW H} {p : List MemPlace}
    (h : DataW.Trod enc Try.prog w 0 spare held 32 (.slice a len cap) d p) : ∃ N, IsActs w a len cap N := by
  obtain ⟨N, h1, h2, h3, h4⟩ := open_int_structs (ks := ks) Try.underlying32 Try.underlying34 (by kernel_rfl) rfl
    (fun j hj => by
      match j, hj with
      | 0, _ => exact ⟨_, _, rfl, rfl, rfl, by kernel_rfl, Try.underlying3⟩
      | 1, _ => exact ⟨_, _, rfl, rfl, rfl, by kernel_rfl, Try.underlying3⟩
      | 2, _ => exact ⟨_, _, rfl, rfl, rfl, by kernel_rfl, Try.underlying3⟩
      | 3, _ => exact ⟨_, _, rfl, rfl, rfl, by kernel_rfl, Try.underlying25⟩
      | n + 4, hj => exact absurd hj (by simp)) h (by decide)
  exact ⟨N, h1, h2, h3, h4⟩
/-- The cells of act k in a world that kept them. -/
theorem act_cells {w w' : World} {ab ao len : Nat} {N : Nat → Nat → Int} {S : List Nat} (h : RowsAt w (some ⟨ab, ao, none⟩) len 4 (fun i j => .int (ks.getD j .i64) (N i j))) (hF : Fr S w w') (hS : ∀ x, x ∈ S → w.heap.size ≤ x) (k : Nat) (hk : k < len) :
    w'.cell? ⟨ab, ao + k * 4, none⟩ = some (.int .i64 (N k 0)) ∧ w'.cell? ⟨ab, ao + k * 4 + 1, none⟩ = some (.int .i64 (N k 1)) ∧ w'.cell? ⟨ab, ao + k * 4 + 2, none⟩ = some (.int .i64 (N k 2)) ∧ w'.cell? ⟨ab, ao + k * 4 + 3, none⟩ = some (.int .u64 (N k 3)) ∧ ab < w'.heap.size := by
  rcases h.fr hF hS with h | ⟨b, o, h1, h2, h3⟩
  · omega
  · simp only [Option.some.injEq, Addr.mk.injEq] at h1
    obtain ⟨rfl, rfl, _⟩ := h1
    exact ⟨h3 k 0 hk (by omega), by rw [Nat.add_assoc]; exact h3 k 1 hk (by omega), by rw [Nat.add_assoc]; exact h3 k 2 hk (by omega), by rw [Nat.add_assoc]; exact h3 k 3 hk (by omega), h2⟩
theorem early (n : Int) (a : Option Addr) (len cap : Nat) (w : World) (bn : -9223372036854775808 ≤ n ∧ n ≤ 9223372036854775807) (hl : len ≤ maxLen) (h : n < 1 ∨ 8 < n ∨ 60 < len) :
    Calls Try.prog 4 #[.int .i64 n, .slice a len cap] w fun e w' => e = .returned (.bool true) ∧ Below w.heap.size w w' := by
  unfold maxLen at hl
  by_cases h1 : n < 1
  · clear h
    go_enter Try.func4, Try.ntmps4
    go_wp2_with (go_at_call 18; refine (alive_c _).mono ?_; rintro e w' ⟨rfl, F1⟩)
    go_ret
    exact ⟨rfl, F1.below⟩
  by_cases h2 : 8 < n
  · clear h
    go_enter Try.func4, Try.ntmps4
    go_wp2_with (go_at_call 18; refine (alive_c _).mono ?_; rintro e w' ⟨rfl, F1⟩)
    go_ret
    exact ⟨rfl, F1.below⟩
  · have h3 : 60 < len := by omega
    clear h
    go_enter Try.func4, Try.ntmps4
    go_wp2_with (go_at_call 18; refine (alive_c _).mono ?_; rintro e w' ⟨rfl, F1⟩)
    go_ret
    exact ⟨rfl, F1.below⟩
theorem alloc16 (A : Ar) (m : Nat) : A.alloc m 16 = A.smallA 16 := by simp [Ar.alloc]
theorem alloc1 (A : Ar) (m : Nat) : A.alloc m 1 = A.smallA 1 := by simp [Ar.alloc]
theorem main (m : Nat) (a : Option Addr) (len cap : Nat) (N : Nat → Nat → Int) (w : World) (hm1 : 1 ≤ m) (hm2 : m ≤ 8) (hl : len ≤ 60) (hN : IsActs w a len cap N) :
    Calls Try.prog 4 #[.int .i64 (m : Int), .slice a len cap] w fun e w' => e = .returned (.bool true) ∧ Below w.heap.size w w' := by
  have ok0 : Hid ((Ar.new m).Ok m) := Lib.hid (Ar.new_ok m hm1 (by omega))
  have hb : Hid (blocksOf (m : Int) = m) := Lib.hid (by unfold blocksOf; split; omega; split; omega; omega)
  have HN := Lib.hid hN
  clear hN
  go_enter Try.func4, Try.ntmps4
  go_wp2_with fail
  refine (alive_c _).mono ?_
  rintro e w0 ⟨rfl, F0⟩
  go_wp2_with fail
  refine (new_c _ _).mono ?_
  rintro e w1 ⟨b, wb, lb, rfl, A0, F1, hb1, hb2, hb3⟩
  rw [hb.out] at A0
  have A0 : Hid (ArAt w1 b wb lb (marks (Ar.new m) m N 0)) := Lib.hid A0
  have hs0 := F0.size
  have F1 := F0.same F1
  have g1 : w.heap.size ≤ b := by omega
  have g2 : w.heap.size ≤ wb := by omega
  have g3 : w.heap.size ≤ lb := by omega
  clear F0 hb1 hb2 hb3 hs0 hb
  have HS : Hid (∀ x, x ∈ [b, wb, lb] → x ∈ ([] : List Nat) ∨ w.heap.size ≤ x) := Lib.hid (by simp; omega)
  go_wp2_with fail
  go_loopw [32] (fun x wr => ∃ k : Nat, k ≤ len ∧ x = .int .i64 k ∧ Hid (ArAt wr b wb lb (marks (Ar.new m) m N k)) ∧ Fr [] w wr) (fun x _ => len - (intOf x).toNat)
  case atStart => exact ⟨0, by omega, rfl, A0, F1⟩
  case round =>
    obtain ⟨k, hk, rfl, hA, hF⟩ := hrel
    by_cases hlt : k < len
    · obtain ⟨hr, hw, hl1, hl2⟩ := HN.out
      have hr' := hr
      rcases hr' with hr' | ⟨ab, ao, rfl, _, _⟩
      · omega
      obtain ⟨d0, d1, d2, d3, d4⟩ := act_cells hr hF (by simp) k hlt
      have b1 := bounds_i64 (hw k 1 hlt (by omega))
      have b2 := bounds_i64 (hw k 2 hlt (by omega))
      have okk : Hid ((marks (Ar.new m) m N k).Ok m) := Lib.hid (marks_ok ok0.out N k)
      have hst : Hid (marks (Ar.new m) m N (k + 1) = (marks (Ar.new m) m N k).mark m (N k 2) (N k 1)) := Lib.hid rfl
      clear hr hw hl1 hl2
      go_wp2_with fail
      refine (mark_c _ (ArAt.fr hA.out ((Fr.refl [] wr).alloc _) (by simp) (by simp) (by simp)) okk.out (N k 2) (N k 1) b2 b1).mono ?_
      rintro e w' ⟨rfl, hA', hF'⟩
      have hA' : Hid (ArAt w' b wb lb (marks (Ar.new m) m N (k + 1))) := Lib.hid hA'
      have hF2 : Fr [] w w' := (hF.alloc _).trans hF' (by simp; omega)
      clear hF'
      go_wp2
      go_roundw
      case rel => exact ⟨k + 1, by omega, by go_num, hA', hF2⟩
      case measure => simp [intOf]; omega
    · have hkl : k = len := by omega
      subst hkl
      have okk : Hid ((marks (Ar.new m) m N k).Ok m) := Lib.hid (marks_ok ok0.out N k)
      have FS : Hid (Fill (marks (Ar.new m) m N k).sweep m (freeSum (marks (Ar.new m) m N k).sweep.lines m)) := Lib.hid (Fill.start okk.out)
      go_wp2_with fail
      refine (sweep_c _ hA.out okk.out).mono ?_
      rintro e w2 ⟨rfl, A2, F2⟩
      have AH : Hid (ArAt w2 b wb lb (marks (Ar.new m) m N k).sweep) := Lib.hid A2
      clear A2
      have F2 : Fr [] w w2 := hF.trans F2 (by simp; omega)
      generalize (marks (Ar.new m) m N k).sweep = B at AH FS
      clear hA hF okk ok0
      have okB : Hid (B.Ok m) := Lib.hid FS.out.ok
      go_wp2_with fail
      go_loopw [8, 9] (fun c x wr => ∃ q : Nat, q ≤ m ∧ x = .int .i64 q ∧ c = .int .i64 (freeSum B.lines q) ∧ Fr [] w2 wr) (fun _ x _ => m - (intOf x).toNat)
      case atStart => exact ⟨0, by omega, rfl, rfl, Fr.refl _ _⟩
      case round =>
        obtain ⟨q, hq, rfl, rfl, hG⟩ := hrel
        have hle := freeSum_le B.lines q
        by_cases hlt2 : q < m
        · have hf16 := freeIn_le B.lines (q * 16) 16
          change freeOf B.lines q ≤ 16 at hf16
          have hst : Hid (freeSum B.lines (q + 1) = freeSum B.lines q + freeOf B.lines q) := Lib.hid rfl
          go_wp2_with fail
          refine (free_yes _ (ArAt.fr AH.out hG (by simp) (by simp) (by simp)) okB.out q hlt2).mono ?_
          rintro e w' ⟨rfl, hG'⟩
          go_wp2
          go_roundw
          case rel => exact ⟨q + 1, by omega, by go_num, by rw [hst.out]; go_num, hG.same hG'⟩
          case measure => simp [intOf]; omega
        · have hqm : q = m := by omega
          subst hqm
          obtain ⟨R, hR⟩ : ∃ R, R = freeSum B.lines q := ⟨_, rfl⟩
          rw [← hR] at FS hle ⊢
          clear hR
          have A3 : Hid (ArAt wr b wb lb B) := Lib.hid (ArAt.fr AH.out hG (by simp) (by simp) (by simp))
          have F3 : Fr [] w wr := F2.same hG
          clear AH F2 hG
          go_wp2_with fail
          go_loopw [10] (fun x wr => ∃ k : Nat, k ≤ R ∧ x = .int .i64 k ∧ Hid (ArAt wr b wb lb (given B k)) ∧ Fr [] w wr) (fun x _ => R - (intOf x).toNat)
          case atStart => exact ⟨0, by omega, rfl, A3, F3⟩
          case round =>
            obtain ⟨i, hi, rfl, A4, F4⟩ := hrel
            by_cases hlt3 : i < R
            · have FM := FS.out.many i hi
              rw [show R - i = (R - (i + 1)) + 1 by omega] at FM
              obtain ⟨n, hn, hn16, hnb, hfil⟩ := FM.step
              have HNn := Lib.hid hn
              have hst : Hid (given B (i + 1) = ((given B i).smallA 16).1) := Lib.hid rfl
              have okI : Hid ((given B i).Ok q) := Lib.hid FM.ok
              have hmod : ((n : Int) % 16 == 0) = true := by simp; omega
              have hmod2 : ((n : Int) % 16 != 0) = false := by simp; omega
              clear FM hn hfil hn16
              go_wp2_with fail
              refine (alloc_c _ A4.out okI.out 16).mono ?_
              rintro e w' ⟨rfl, A5, F5⟩
              rw [alloc16] at A5
              rw [alloc16, HNn.out]
              simp only [optVal]
              have A5 : Hid (ArAt w' b wb lb (given B (i + 1))) := Lib.hid A5
              have F5 : Fr [] w w' := F4.trans F5 (by simp; omega)
              go_wp2
              go_roundw
              case rel => exact ⟨i + 1, by omega, by go_num, A5, F5⟩
              case measure => simp [intOf]; omega
            · have hiR : i = R := by omega
              subst hiR
              have FM := FS.out.many i (Nat.le_refl _)
              rw [show i - i = 0 by omega] at FM
              have hd := FM.done
              have hu : un (given B i).lines = 0 := by have := FM.un_le; omega
              have he : Hid (emptyIn (given B i).lines q = 0) := Lib.hid (emptyIn_zero _ _ hu)
              have HD := Lib.hid hd
              have okI : Hid ((given B i).Ok q) := Lib.hid FM.ok
              clear FM hd hu
              go_wp2_with fail
              refine (alloc_c _ A4.out okI.out 1).mono ?_
              rintro e w' ⟨rfl, A5, F5⟩
              rw [alloc1, HD.out] at A5
              rw [alloc1, HD.out]
              simp only [optVal]
              have A5 : Hid (ArAt w' b wb lb (given B i)) := Lib.hid A5
              have F5 : Fr [] w w' := F4.trans F5 (by simp; omega)
              go_wp2_with fail
              refine (empty_c _ A5.out okI.out).mono ?_
              rintro e w3 ⟨rfl, F6⟩
              rw [he.out]
              go_wp2
              go_ret
              exact ⟨rfl, (F5.same F6).below⟩
theorem walk (n : Int) (a : Option Addr) (len cap : Nat) (N : Nat → Nat → Int) (w : World) (w0 : (Lit.int .i64 n).wf = true) (hN : IsActs w a len cap N) :
    Calls Try.prog 4 #[.int .i64 n, .slice a len cap] w fun e w' => e = .returned (.bool true) ∧ Below w.heap.size w w' := by
  have bn := bounds_i64 w0
  by_cases h : n < 1 ∨ 8 < n ∨ 60 < len
  · exact early n a len cap w bn (by have := hN.2.2; omega) h
  · have := main n.toNat a len cap N w (by omega) (by omega) (by omega) hN
    rwa [show ((n.toNat : Nat) : Int) = n from by omega] at this
theorem own : ownKnob Try.prog.godebug = none := by kernel_rfl
theorem laidOut : laidOutB Try.prog = true := by kernel_rfl
set_option maxRecDepth 100000 in
theorem lifted (os : Os) (started : os.Started) (H : Type) (enc : TypeId × Value → H) :
    ReturnsInHanded {} Try.checked os 4 .any (Rows.arenaFillsSpec.pre6 enc Try.prog Try.f4 Rows.arenaFillsRow.domain false) (Rows.arenaFillsSpec.post enc Try.prog Try.f4 false true false false) := by
  refine returnsInHanded_of_change (C := Try.checked) own started (by kernel_rfl) Try.func4
    (ChangeSpec.witness6 (enc := enc) (C := Try.checked) false ⟨#[], #[.int .i64 0, .slice none 0 0], []⟩ 8 (by kernel_rfl) (by kernel_rfl) (by kernel_rfl) (by kernel_rfl)) ?_
  intro W base args ds gs before hval0 hW hcnd _
  have hval : ∀ (j : Nat) t v, Try.f4.params[j]? = some t → args[j]? = some v → Value.okWide Try.prog W .any base t v := hval0
  have hW' := hW
  obtain ⟨p, q, hA0, hV, rfl, hfz, hnd⟩ := hW
  have hA : DataW.TrodAll enc Try.prog W 0 (fun _ => true) true Try.f4.params.toList args.toList ds p := hA0
  rw [Try.params4] at hA hval
  obtain ⟨v0, vs0, d0, ds0, p0, q0, hargs, rfl, rfl, h0, r0⟩ := trodAll_cons hA
  obtain ⟨v1, vs1, d1, ds1, p1, q1, rfl, rfl, rfl, h1, r1⟩ := trodAll_cons r0
  obtain ⟨rfl, rfl, rfl⟩ := trodAll_nil r1
  obtain rfl : args = #[v0, v1] := by cases args; simp_all
  obtain ⟨rfl, rfl⟩ := trodVars_none hV
  obtain ⟨a0, rfl, rfl, rfl, w0⟩ := open_int Try.underlying3 (hval 0 3 v0 rfl rfl) h0
  obtain ⟨a1, len1, cap1, rfl⟩ := okWide_slice Try.underlying32 (hval 1 32 v1 rfl rfl)
  have k1 := h1
  have lt1 : ∀ x ∈ p1, x.block < W.heap.size := by obtain ⟨m, hm⟩ := k1; exact DataW.trod_lt m _ _ _ hm
  obtain ⟨z1, w1⟩ := opener h1
  clear hA0 hval0
  refine (walk a0 a1 len1 cap1 z1 W w0 w1).mono fun e W' ⟨he, bel⟩ => ?_
  subst he
  exact ⟨_, rfl, _, _, _, [], _, [], hW', trodAll_mk1 (shut_bool Try.underlying4 _), (trodAll_cons_mk (shut_int Try.underlying3 w0) (trodAll_cons_mk (Below.trod laidOut (by kernel_rfl) (of_decide_eq_true (by kernel_rfl)) k1 bel lt1) trodAll_mk0)), rfl, bel.frame _, fun h => by cases h⟩
theorem over : Rows.arenaFillsRow.holds Try.pinned (OpenSpec.ofChange Rows.arenaFillsSpec) :=
  OpenClaim.holds_of_wide 4 Try.f4 rfl rfl rfl rfl rfl rfl rfl ⟨rfl, rfl, rfl, rfl, rfl⟩ rfl rfl rfl rfl rfl (by kernel_rfl) Try.func4 (by kernel_rfl)
    (of_decide_eq_true (by kernel_rfl)) (by unfold Func.isWrapper; first | (rw [if_pos (by decide +kernel)]; kernel_rfl) | (rw [if_neg (by decide +kernel)]; exact ⟨rfl, rfl⟩))
    (fun os started H enc _ => lifted os started H enc)
/-- THE STATEMENT -/
theorem proved : Rows.ArenaFillsSaid := over
#print axioms proved
end Go.Proofs.Ytjcpjgdknelhnaa.arenaFills
