/- The law HeapKeeps holds for every input: the Go function returns true and leaves its arguments as they were. No condition. -/
import Derived.Test.YtjcpjgdknelhnaaHeapM
import Derived.ProofKit
import Derived.ChangeOld
import Derived.Deep.AppendLies
import Derived.Deep.RegionHeld3
namespace Go.Proofs.Ytjcpjgdknelhnaa.heapKeeps
open Go.ChangeShapes Go.WideShapes Go.ChangeAt Go.RowKit
set_option linter.unusedVariables false
set_option linter.unusedSimpArgs false


/-- The kinds of an act's fields. -/
def ks : List IntKind := [.i64, .i64, .i64, .i64, .u64]
def IsActs (w : World) (a : Option Addr) (len cap : Nat) (N : Nat → Nat → Int) : Prop :=
  RowsAt w a len 5 (fun i j => .int (ks.getD j .i64) (N i j)) ∧ (∀ i j, i < len → j < 5 → (Lit.int (ks.getD j .i64) (N i j)).wf = true) ∧ len ≤ cap ∧ cap ≤ maxLen
theorem opener {H : Type} {enc : TypeId × Value → H} {w : World} {spare : Nat → Bool} {held : Bool} {a : Option Addr} {len cap : Nat} {d : DataW H} {p : List MemPlace}
    (h : DataW.Trod enc Try.prog w 0 spare held 49 (.slice a len cap) d p) : ∃ N, IsActs w a len cap N := by
  obtain ⟨N, h1, h2, h3, h4⟩ := open_int_structs (ks := ks) Try.underlying49 Try.underlying54 (by kernel_rfl) rfl
    (fun j hj => by
      match j, hj with
      | 0, _ => exact ⟨_, _, rfl, rfl, rfl, by kernel_rfl, Try.underlying3⟩
      | 1, _ => exact ⟨_, _, rfl, rfl, rfl, by kernel_rfl, Try.underlying3⟩
      | 2, _ => exact ⟨_, _, rfl, rfl, rfl, by kernel_rfl, Try.underlying3⟩
      | 3, _ => exact ⟨_, _, rfl, rfl, rfl, by kernel_rfl, Try.underlying3⟩
      | 4, _ => exact ⟨_, _, rfl, rfl, rfl, by kernel_rfl, Try.underlying25⟩
      | n + 5, hj => exact absurd hj (by simp)) h (by decide)
  exact ⟨N, h1, h2, h3, h4⟩
/-- The cells of act k in a world that kept them. -/
theorem act_cells {w w' : World} {ab ao len : Nat} {N : Nat → Nat → Int} {S : List Nat} (h : RowsAt w (some ⟨ab, ao, none⟩) len 5 (fun i j => .int (ks.getD j .i64) (N i j))) (hF : Fr S w w') (hS : ∀ x, x ∈ S → w.heap.size ≤ x) (k : Nat) (hk : k < len) :
    w'.cell? ⟨ab, ao + k * 5, none⟩ = some (.int .i64 (N k 0)) ∧ w'.cell? ⟨ab, ao + k * 5 + 1, none⟩ = some (.int .i64 (N k 1)) ∧ w'.cell? ⟨ab, ao + k * 5 + 2, none⟩ = some (.int .i64 (N k 2)) ∧ w'.cell? ⟨ab, ao + k * 5 + 3, none⟩ = some (.int .i64 (N k 3)) ∧ w'.cell? ⟨ab, ao + k * 5 + 4, none⟩ = some (.int .u64 (N k 4)) ∧ ab < w'.heap.size := by
  rcases h.fr hF hS with h | ⟨b, o, h1, h2, h3⟩
  · omega
  · simp only [Option.some.injEq, Addr.mk.injEq] at h1
    obtain ⟨rfl, rfl, _⟩ := h1
    exact ⟨h3 k 0 hk (by omega), by rw [Nat.add_assoc]; exact h3 k 1 hk (by omega), by rw [Nat.add_assoc]; exact h3 k 2 hk (by omega), by rw [Nat.add_assoc]; exact h3 k 3 hk (by omega), by rw [Nat.add_assoc]; exact h3 k 4 hk (by omega), h2⟩
/-- It is a word. -/
def U64 (x : Int) : Prop := 0 ≤ x ∧ x < 18446744073709551616
set_option maxRecDepth 100000 in
theorem early (n : Int) (a : Option Addr) (len cap : Nat) (w : World) (bn : -9223372036854775808 ≤ n ∧ n ≤ 9223372036854775807) (hl : len ≤ maxLen) (h : n < 1 ∨ 8 < n ∨ 100 < len) :
    Calls Try.prog 7 #[.int .i64 n, .slice a len cap] w fun e w' => e = .returned (.bool true) ∧ Below w.heap.size w w' := by
  unfold maxLen at hl
  by_cases h1 : n < 1
  · clear h
    go_enter Try.func7, Try.ntmps7
    go_wp2_with (go_at_call 30; refine (heAlive_c _).mono ?_; rintro e w' ⟨rfl, F1⟩)
    go_ret
    exact ⟨rfl, F1.below⟩
  by_cases h2 : 8 < n
  · clear h
    go_enter Try.func7, Try.ntmps7
    go_wp2_with (go_at_call 30; refine (heAlive_c _).mono ?_; rintro e w' ⟨rfl, F1⟩)
    go_ret
    exact ⟨rfl, F1.below⟩
  · have h3 : 100 < len := by omega
    clear h
    go_enter Try.func7, Try.ntmps7
    go_wp2_with (go_at_call 30; refine (heAlive_c _).mono ?_; rintro e w' ⟨rfl, F1⟩)
    go_ret
    exact ⟨rfl, F1.below⟩
set_option maxHeartbeats 16000000 in
set_option maxRecDepth 100000 in
theorem main (m : Nat) (a : Option Addr) (len cap : Nat) (N : Nat → Nat → Int) (w : World) (hm1 : 1 ≤ m) (hm2 : m ≤ 8) (hl : len ≤ 100) (hN : IsActs w a len cap N) :
    Calls Try.prog 7 #[.int .i64 (m : Int), .slice a len cap] w fun e w' => e = .returned (.bool true) ∧ Below w.heap.size w w' := by
  have hbk : Hid (blocksOf (m : Int) = m) := Lib.hid (by unfold blocksOf; split; omega; split; omega; omega)
  have HN := Lib.hid hN
  clear hN
  go_enter Try.func7, Try.ntmps7
  go_wp2_with fail
  refine (heAlive_c _).mono ?_
  rintro e w0 ⟨rfl, F0⟩
  go_wp2_with fail
  refine (onew_c _ _).mono ?_
  rintro e w1 ⟨hb, b, wb, lb, rfl, H0, F1, q0, q1, q2, q3⟩
  rw [hbk.out] at H0
  have hs0 := F0.size
  have F1 := F0.same F1
  have g0 := lt_size H0.p
  have g1 := lt_size H0.ar.hb
  have g2 := lt_size H0.ar.hw
  have g3 := lt_size H0.ar.hl
  have hs1 := F1.size
  have G : Hid (KB w w1.heap.size hb b wb lb) := Lib.hid ⟨g0, g1, g2, g3, by omega, by omega, by omega, by omega, by omega⟩
  have AT0 : Hid _ := Lib.hid (KAt.start (w := w) H0 hm1 (by omega) F1)
  clear H0 F0 F1 q0 q1 q2 q3 hs0 hs1 g0 g1 g2 g3 hbk
  go_wp2_with fail
  generalize hBB : w1.heap.size = B at *
  clear hBB
  go_loopw [6, 7, 8, 46] (fun s6 s7 s8 x wr => ∃ (k : Nat) (A : Ar) (n f p : Nat × Nat) (P : List Kp), k ≤ len ∧ x = .int .i64 k ∧ s6 = .slice (some ⟨n.1, 0, none⟩) P.length n.2 ∧ s7 = .slice (some ⟨f.1, 0, none⟩) P.length f.2 ∧ s8 = .slice (some ⟨p.1, 0, none⟩) P.length p.2 ∧ P.length ≤ k ∧ Hid (KAt w wr B m hb b wb lb A n f p P)) (fun _ _ _ x _ => len - (intOf x).toNat)
  case atStart => exact ⟨0, _, _, _, _, [], by omega, rfl, rfl, rfl, rfl, by simp, AT0⟩
  case round =>
    obtain ⟨k, A, n, f, p, P, hk, rfl, rfl, rfl, rfl, hPk, hAt⟩ := hrel
    clear AT0
    by_cases hlt : k < len
    · obtain ⟨hr, hw, hl1, hl2⟩ := HN.out
      have hr' := hr
      rcases hr' with hr' | ⟨ab, ao, rfl, _, _⟩
      · omega
      obtain ⟨d0, d1, d2, d3, d4, d5⟩ := act_cells hr hAt.out.fr (by simp) k hlt
      have b1 := bounds_i64 (hw k 1 hlt (by omega))
      have b2 := bounds_i64 (hw k 2 hlt (by omega))
      have b3 := bounds_i64 (hw k 3 hlt (by omega))
      have b4 := bounds_u64 (hw k 4 hlt (by omega))
      clear hr hw hl1 hl2
      obtain ⟨wo, rfl⟩ : ∃ wo : World, wo = wr := ⟨_, rfl⟩
      generalize N k 0 = K at *
      generalize N k 1 = i at *
      generalize N k 2 = wh at *
      generalize N k 3 = I at *
      generalize N k 4 = wd at *
      have NX : Hid (KAt w (wo.alloc (.cells #[.int .i64 K, .int .i64 i, .int .i64 wh, .int .i64 I, .int .u64 wd] 54)) B m hb b wb lb A n f p P) := Lib.hid (hAt.out.keep ((Fr.refl [] wo).alloc _))
      by_cases hskip : K ≠ 0 ∧ (i < 0 ∨ (P.length : Int) ≤ i)
      · obtain ⟨k0, hi⟩ := hskip
        have t0 : (K != 0) = true := by simpa using k0
        by_cases hi0 : i < 0
        · clear hi k0
          go_wp2
          go_roundw
          case rel => exact ⟨k + 1, A, n, f, p, P, by omega, by go_num, rfl, rfl, rfl, by omega, NX⟩
          case measure => simp [intOf]; omega
        · have hi1 : (P.length : Int) ≤ i := by omega
          clear hi k0
          go_wp2
          go_roundw
          case rel => exact ⟨k + 1, A, n, f, p, P, by omega, by go_num, rfl, rfl, rfl, by omega, NX⟩
          case measure => simp [intOf]; omega
      by_cases k0 : K = 0
      · subst k0
        clear hskip
        have hBo : B < (wo.alloc (.cells #[.int .i64 0, .int .i64 i, .int .i64 wh, .int .i64 I, .int .u64 wd] 54)).heap.size := NX.out.ks.size (i := 0) rfl
        have hBo2 : B < wo.heap.size := hAt.out.ks.size (i := 0) rfl
        have BX : Hid (blk (wo.alloc (.cells #[.int .i64 0, .int .i64 i, .int .i64 wh, .int .i64 I, .int .u64 wd] 54)) wo.heap.size = some (.cells #[.int .i64 0, .int .i64 i, .int .i64 wh, .int .i64 I, .int .u64 wd] 54 (0, 0))) := Lib.hid (by rw [blk_alloc, if_pos rfl])
        go_wp2_with fail
        refine (omake_c _ NX.out.he NX.out.hk.okA wh I).mono ?_
        rintro e w2 ⟨rfl, H2, F2⟩
        have HM := NX.out.hk.make wh I
        cases ho : (makeF A m wh I).2 with
        | none =>
          rw [ho] at HM
          simp only [wordVal]
          have NX2 := Lib.hid (NX.out.heap G.out F2 H2 HM)
          clear HM ho H2 F2 BX
          go_wp2
          go_roundw
          case rel => exact ⟨k + 1, _, n, f, p, P, by omega, by go_num, rfl, rfl, rfl, by omega, NX2⟩
          case measure => simp [intOf]; omega
        | some x =>
          rw [ho] at HM
          simp only [wordVal]
          obtain ⟨o, hx, I0, I1, hfs, hps, hk2⟩ := HM
          have BX2 : Hid (blk w2 wo.heap.size = some (.cells #[.int .i64 0, .int .i64 i, .int .i64 wh, .int .i64 I, .int .u64 wd] 54 (0, 0))) := Lib.hid (F2.at BX.out (by have := G.out.h2; have := G.out.h3; have := G.out.h4; simp; omega))
          have S2 : Hid (KS w w2 B m hb b wb lb (makeF A m wh I).1 (P.map Kp.ob ++ [o]) (rowsOf n f p P)) := Lib.hid (NX.out.ks.heap G.out F2 H2 hk2)
          have hB2 : B < w2.heap.size := S2.out.size (i := 0) rfl
          obtain ⟨In, hIn⟩ : ∃ In : Nat, I = In := ⟨I.toNat, by omega⟩
          subst hIn
          have hfl : o.fs.length = In := by rw [hfs]; simp
          have hbnd := hk2.ob (j := (P.map Kp.ob).length) (o := o) (by simp)
          have HU : U64 (pw o.a) := ⟨hbnd.2.2.2.1, hbnd.2.2.2.2.1⟩
          have HK2 := Lib.hid hk2
          have HFL := Lib.hid hfl
          have HPS := Lib.hid hps
          subst hx
          generalize (makeF A m wh (In : Int)).1 = A2 at *
          clear hbnd hfl hfs hps hk2 ho H2 F2 BX
          go_wp2_with fail
          have KE : Hid (KL w (w2.alloc (.cells #[] 25)) B m hb b wb lb A2 n f p P o 0 w2.heap.size 0 wo.heap.size (.cells #[.int .i64 0, .int .i64 i, .int .i64 wh, .int .i64 (In : Int), .int .u64 wd] 54 (0, 0))) := Lib.hid ⟨S2.out.new (by omega) 25, by have := lt_size BX2.out; omega, ((Fr.refl [] w2).alloc _).at BX2.out (by simp)⟩
          clear S2 BX2 hB2
          obtain ⟨i0, hi, hz0, hz1, hz2⟩ := info_parts info_word
          have HI := Lib.hid hi
          have Z0 := Lib.hid hz0
          have Z1 := Lib.hid hz1
          have Z2 := Lib.hid hz2
          clear hi hz0 hz1 hz2
          go_loopw [14, 15] (fun s14 s15 wr => ∃ (j g cap : Nat), j ≤ In ∧ s15 = .int .i64 j ∧ s14 = .slice (some ⟨g, 0, none⟩) j cap ∧ Hid (KL w wr B m hb b wb lb A2 n f p P o j g cap wo.heap.size (.cells #[.int .i64 0, .int .i64 i, .int .i64 wh, .int .i64 (In : Int), .int .u64 wd] 54 (0, 0)))) (fun _ x _ => In - (intOf x).toNat)
          case atStart => exact ⟨0, _, _, by omega, rfl, rfl, KE⟩
          case round =>
            obtain ⟨j, g, lc, hj, rfl, rfl, hS⟩ := hrel
            have x3 : wr.cell? ⟨wo.heap.size, 3, none⟩ = some (.int .i64 (In : Int)) := cell_of hS.out.at_ (i := 3) rfl
            by_cases hlt2 : j < In
            · have GE : Hid (getF A2 m (pw o.a) j = (o.fs[j]?.getD 0, 0)) := Lib.hid (HK2.out.get (j := (P.map Kp.ob).length) (by simp) j (by rw [HFL.out]; exact hlt2))
              go_wp2_with fail
              refine (oget_c wr hS.out.ks.he HK2.out.okA HK2.out.wdA (pw o.a) j HU.1 HU.2 (by omega)).mono ?_
              rintro e w4 ⟨rfl, F4⟩
              rw [GE.out]
              have S4 := hS.out.keep F4
              have S5 := Lib.hid (S4.keep ((Fr.refl [] w4).alloc (.cells #[.int .u64 (o.fs[j]?.getD 0)] 25)))
              have HNW : Hid ((w4.alloc (.cells #[.int .u64 (o.fs[j]?.getD 0)] 25)).heap[w4.heap.size]? = some (.cells #[.int .u64 (o.fs[j]?.getD 0)] 25 (0, 0))) := Lib.hid (by
                have := blk_alloc w4 (.cells #[.int .u64 (o.fs[j]?.getD 0)] 25) w4.heap.size
                rw [if_pos rfl] at this; exact this)
              have hB4 : B ≤ (w4.alloc (.cells #[.int .u64 (o.fs[j]?.getD 0)] 25)).heap.size := by have := lt_size S5.out.at_; omega
              have RW := Lib.hid (S5.out.row (by rw [HFL.out]; omega))
              clear S4 F4
              go_wp2_with (at_builtin; refine wpList_append_lies _ rfl _ _ _ rfl B 25 i0 (.int .u64 0) 1 8 Try.underlying50 HI.out Z0.out Z1.out Z2.out rfl (by omega) _ j _ rfl RW.out ⟨w4.heap.size, 0, none⟩ 1 1 [.int .u64 (o.fs[j]?.getD 0)] rfl rfl (World.news_of_block HNW.out) (by simp [Value.oneCell']) (by omega) (by unfold maxLen; omega) (by omega) hB4 _ rfl ?_; intro g5 cap5 w5 own5 gr5 at5 lt5; have S6 := Lib.hid (S5.out.more G.out (by rw [HFL.out]; exact hlt2) (Fr.refl _ _) own5 gr5 at5); clear own5 gr5 at5)
              go_roundw
              case rel => exact ⟨j + 1, _, _, by omega, by go_num, rfl, S6⟩
              case measure => simp [intOf]; omega
            · have hjn : j = In := by omega
              subst hjn
              as_aux_lemma =>
                have S0 : Hid (KS w wr B m hb b wb lb A2 (P.map Kp.ob ++ [o]) (rowsOf n f p P ++ [Row.mk g lc 25 (o.fs.map (.int .u64))])) := Lib.hid (by have := hS.out.ks; rw [List.take_of_length_le (by rw [HFL.out]; omega)] at this; exact this)
                clear hS
                have S1 := Lib.hid (S0.out.keep ((Fr.refl [] wr).alloc (.cells #[.int .u64 (pw o.a)] 25)))
                have OW1 := Lib.hid (S1.out.own (i := 0) (r := ⟨n.1, n.2, 25, nowL P⟩) rfl (len_nowL P))
                have sz1 : B ≤ (wr.alloc (.cells #[.int .u64 (pw o.a)] 25)).heap.size := Nat.le_of_lt (S1.out.size (i := 0) rfl)
                have NW1 := Lib.hid (heap_alloc_new wr (.cells #[.int .u64 (pw o.a)] 25))
                obtain ⟨j0, hj0, hy0, hy1, hy2⟩ := info_parts info_words
                obtain ⟨l0, hl0, hv0, hv1, hv2⟩ := info_parts info_int
                have J0 := Lib.hid hj0
                have Y0 := Lib.hid hy0
                have Y1 := Lib.hid hy1
                have Y2 := Lib.hid hy2
                have L0 := Lib.hid hl0
                have V0 := Lib.hid hv0
                have V1 := Lib.hid hv1
                have V2 := Lib.hid hv2
                clear hj0 hy0 hy1 hy2 hl0 hv0 hv1 hv2
                go_wp2_with (first | (at_builtin; refine wpList_append_lies _ rfl _ _ _ rfl B 25 i0 (.int .u64 0) 1 8 Try.underlying50 HI.out Z0.out Z1.out Z2.out rfl (by omega) _ P.length _ rfl OW1.out ⟨wr.heap.size, 0, none⟩ 1 1 [.int .u64 (pw o.a)] rfl rfl (World.news_of_block NW1.out) (by simp [Value.oneCell']) (by omega) (by unfold maxLen; omega) (by omega) sz1 _ rfl ?_; intro g5 cap5 w5 own5 gr5 at5 lt5; have S2 := Lib.hid (S1.out.app G.out (i := 0) (r := ⟨n.1, n.2, 25, nowL P⟩) rfl (Fr.refl _ _) (by rw [len_nowL]) rfl own5 gr5 at5); have S3 := Lib.hid (S2.out.keep ((Fr.refl [] w5).alloc (.cells #[.slice (some ⟨g, 0, none⟩) j lc] 50))); have OW2 := Lib.hid (S3.out.own (i := 1) (r := ⟨f.1, f.2, 50, fldL P⟩) rfl (len_fldL P)); have sz2 : B ≤ (w5.alloc (.cells #[.slice (some ⟨g, 0, none⟩) j lc] 50)).heap.size := Nat.le_of_lt (S3.out.size (i := 0) rfl); have NW2 := Lib.hid (heap_alloc_new w5 (.cells #[.slice (some ⟨g, 0, none⟩) j lc] 50)); clear own5 gr5 at5) | (at_builtin; refine wpList_append_lies _ rfl _ _ _ rfl B 50 j0 (.slice none 0 0) 1 24 Try.underlying51 J0.out Y0.out Y1.out Y2.out rfl (by omega) _ P.length _ rfl OW2.out ⟨w5.heap.size, 0, none⟩ 1 1 [.slice (some ⟨g, 0, none⟩) j lc] rfl rfl (World.news_of_block NW2.out) (by simp [Value.oneCell']) (by omega) (by unfold maxLen; omega) (by omega) sz2 _ rfl ?_; intro g6 cap6 w6 own6 gr6 at6 lt6; have S4 := Lib.hid (S3.out.app G.out (i := 1) (r := ⟨f.1, f.2, 50, fldL P⟩) rfl (Fr.refl _ _) (by rw [len_fldL]) rfl own6 gr6 at6); have S5 := Lib.hid (S4.out.keep ((Fr.refl [] w6).alloc (.cells #[.int .i64 0] 3))); have OW3 := Lib.hid (S5.out.own (i := 2) (r := ⟨p.1, p.2, 3, pinL P⟩) rfl (len_pinL P)); have sz3 : B ≤ (w6.alloc (.cells #[.int .i64 0] 3)).heap.size := Nat.le_of_lt (S5.out.size (i := 0) rfl); have NW3 := Lib.hid (heap_alloc_new w6 (.cells #[.int .i64 0] 3)); clear own6 gr6 at6) | (at_builtin; refine wpList_append_lies _ rfl _ _ _ rfl B 3 l0 (.int .i64 0) 1 8 Try.underlying52 L0.out V0.out V1.out V2.out rfl (by omega) _ P.length _ rfl OW3.out ⟨w6.heap.size, 0, none⟩ 1 1 [.int .i64 0] rfl rfl (World.news_of_block NW3.out) (by simp [Value.oneCell']) (by omega) (by unfold maxLen; omega) (by omega) sz3 _ rfl ?_; intro g7 cap7 w7 own7 gr7 at7 lt7; have S6 := Lib.hid (S5.out.app G.out (i := 2) (r := ⟨p.1, p.2, 3, pinL P⟩) rfl (Fr.refl _ _) (by rw [len_pinL]) rfl own7 gr7 at7); clear own7 gr7 at7))
                have NXX : Hid (KAt w w7 B m hb b wb lb A2 (g5, cap5) (g6, cap6) (g7, cap7) (P ++ [⟨g, lc, o⟩])) := Lib.hid (S6.out.kat (by simp) (by have := rows_made n f p P g lc o HPS.out (g5, cap5) (g6, cap6) (g7, cap7); rw [HFL.out] at this; exact this))
                go_roundw
                case rel => exact ⟨k + 1, A2, (g5, cap5), (g6, cap6), (g7, cap7), P ++ [⟨g, lc, o⟩], by omega, by go_num, by simp, by simp, by simp, by simp; omega, NXX⟩
                case measure => simp [intOf]; omega
      have hi0 : 0 ≤ i := by omega
      have hi1 : i < (P.length : Int) := by omega
      clear hskip
      obtain ⟨j, rfl⟩ : ∃ j : Nat, i = j := ⟨i.toNat, by omega⟩
      have hj : j < P.length := by omega
      obtain ⟨x, hx⟩ : ∃ x, P[j]? = some x := ⟨P[j], by simp [hj]⟩
      have HX := Lib.hid hx
      have t0 : (K != 0) = true := by simpa using k0
      have u0 : (K == 0) = false := by simpa using k0
      have cn := hAt.out.now hx
      have qn : n.1 < wo.heap.size := (hAt.out.rows.at (i := 0) (r := ⟨n.1, n.2, 25, nowL P⟩) rfl).blk.2
      have ho := NX.out.hk.ob (j := j) (o := x.ob) (by simp [hx])
      have HU : U64 (pw x.ob.a) := ⟨ho.2.2.2.1, ho.2.2.2.2.1⟩
      have hx2 := ho.2.1
      have BX : Hid (blk (wo.alloc (.cells #[.int .i64 K, .int .i64 (j : Int), .int .i64 wh, .int .i64 I, .int .u64 wd] 54)) wo.heap.size = some (.cells #[.int .i64 K, .int .i64 (j : Int), .int .i64 wh, .int .i64 I, .int .u64 wd] 54 (0, 0))) := Lib.hid (by rw [blk_alloc, if_pos rfl])
      have OKA := Lib.hid NX.out.hk.okA
      have WDA := Lib.hid NX.out.hk.wdA
      have hBo : B < (wo.alloc (.cells #[.int .i64 K, .int .i64 (j : Int), .int .i64 wh, .int .i64 I, .int .u64 wd] 54)).heap.size := NX.out.ks.size (i := 0) rfl
      have CF := Lib.hid (hAt.out.fld hx)
      have QF : Hid (f.1 < wo.heap.size) := Lib.hid (hAt.out.rows.at (i := 1) (r := ⟨f.1, f.2, 50, fldL P⟩) rfl).blk.2
      clear hi0 hi1 hx ho k0 hAt
      by_cases k3 : K = 3
      · subst k3
        as_aux_lemma =>
          go_wp2_with fail
          refine (opin_c _ NX.out.he OKA.out WDA.out (pw x.ob.a) HU.1 HU.2).mono ?_
          rintro e w2 ⟨rfl, H2, F2⟩
          have HP := NX.out.hk.pin (j := j) (o := x.ob) (by simp [HX.out]) 1
          by_cases hc : x.ob.pins < 7
          · rw [if_pos (by omega)] at HP
            rw [HP.1]
            have cp := ((NX.out.rows.low F2 (by have := G.out.h2; have := G.out.h3; have := G.out.h4; simp; omega)).at (i := 2) (r := ⟨p.1, p.2, 3, pinL P⟩) rfl).cell (i := j) (u := .int .i64 x.ob.pins) (by simp [pinL, HX.out])
            have fp := ((NX.out.rows.low F2 (by have := G.out.h2; have := G.out.h3; have := G.out.h4; simp; omega)).at (i := 2) (r := ⟨p.1, p.2, 3, pinL P⟩) rfl).free j
            have NX2 := Lib.hid (NX.out.setP G.out F2 H2 HX.out (x.ob.pins + 1) (by have := HP.2; rw [show ((x.ob.pins : Int) + 1).toNat = x.ob.pins + 1 by omega] at this; exact this))
            clear H2 F2 cn HP BX
            go_wp2
            go_roundw
            case rel => exact ⟨k + 1, _, n, f, p, P.set j (x.wP (x.ob.pins + 1)), by omega, by go_num, by simp, by simp, by simp, by simp; omega, NX2⟩
            case measure => simp [intOf]; omega
          · rw [if_neg (by omega)] at HP
            rw [HP.1]
            rw [HP.2] at H2
            have NX2 := Lib.hid (NX.out.heap G.out F2 H2 NX.out.hk)
            clear H2 F2 cn HP BX
            go_wp2
            go_roundw
            case rel => exact ⟨k + 1, _, n, f, p, P, by omega, by go_num, rfl, rfl, rfl, by omega, NX2⟩
            case measure => simp [intOf]; omega
      by_cases k4 : K = 4
      · subst k4
        as_aux_lemma =>
          go_wp2_with fail
          refine (ounpin_c _ NX.out.he OKA.out WDA.out (pw x.ob.a) HU.1 HU.2).mono ?_
          rintro e w2 ⟨rfl, H2, F2⟩
          have HP := NX.out.hk.pin (j := j) (o := x.ob) (by simp [HX.out]) (-1)
          by_cases hc : 1 ≤ x.ob.pins
          · rw [if_pos (by omega)] at HP
            rw [HP.1]
            have cp := ((NX.out.rows.low F2 (by have := G.out.h2; have := G.out.h3; have := G.out.h4; simp; omega)).at (i := 2) (r := ⟨p.1, p.2, 3, pinL P⟩) rfl).cell (i := j) (u := .int .i64 x.ob.pins) (by simp [pinL, HX.out])
            have fp := ((NX.out.rows.low F2 (by have := G.out.h2; have := G.out.h3; have := G.out.h4; simp; omega)).at (i := 2) (r := ⟨p.1, p.2, 3, pinL P⟩) rfl).free j
            have NX2 := Lib.hid (NX.out.setP G.out F2 H2 HX.out (x.ob.pins - 1) (by have := HP.2; rw [show ((x.ob.pins : Int) + -1).toNat = x.ob.pins - 1 by omega] at this; exact this))
            rw [show ((x.ob.pins - 1 : Nat) : Int) = (x.ob.pins : Int) - 1 by omega] at NX2
            clear H2 F2 cn HP BX
            go_wp2
            go_roundw
            case rel => exact ⟨k + 1, _, n, f, p, P.set j (x.wP (x.ob.pins - 1)), by omega, by go_num, by simp, by simp, by simp, by simp; omega, NX2⟩
            case measure => simp [intOf]; omega
          · rw [if_neg (by omega)] at HP
            rw [HP.1]
            rw [HP.2] at H2
            have NX2 := Lib.hid (NX.out.heap G.out F2 H2 NX.out.hk)
            clear H2 F2 cn HP BX
            go_wp2
            go_roundw
            case rel => exact ⟨k + 1, _, n, f, p, P, by omega, by go_num, rfl, rfl, rfl, by omega, NX2⟩
            case measure => simp [intOf]; omega
      by_cases k5 : K = 5
      · subst k5
        as_aux_lemma =>
          go_wp2_with fail
          refine (omove_c _ NX.out.he OKA.out WDA.out (pw x.ob.a) HU.1 HU.2).mono ?_
          rintro e w2 ⟨rfl, H2, F2⟩
          have HP := NX.out.hk.move (j := j) (o := x.ob) (by simp [HX.out])
          cases hm : (moveF A m (pw x.ob.a)).2 with
          | none =>
            rw [hm] at HP
            simp only [wordVal]
            have NX2 := Lib.hid (NX.out.heap G.out F2 H2 HP)
            clear H2 F2 cn HP BX hm
            go_wp2
            go_roundw
            case rel => exact ⟨k + 1, _, n, f, p, P, by omega, by go_num, rfl, rfl, rfl, by omega, NX2⟩
            case measure => simp [intOf]; omega
          | some y =>
            rw [hm] at HP
            simp only [wordVal]
            obtain ⟨q, rfl, hp0, hk2⟩ := HP
            have cp := ((NX.out.rows.low F2 (by have := G.out.h2; have := G.out.h3; have := G.out.h4; simp; omega)).at (i := 2) (r := ⟨p.1, p.2, 3, pinL P⟩) rfl).cell (i := j) (u := .int .i64 x.ob.pins) (by simp [pinL, HX.out])
            have cn2 := ((NX.out.rows.low F2 (by have := G.out.h2; have := G.out.h3; have := G.out.h4; simp; omega)).at (i := 0) (r := ⟨n.1, n.2, 25, nowL P⟩) rfl).cell (i := j) (u := .int .u64 (pw x.ob.a)) (by simp [nowL, HX.out])
            have fn := ((NX.out.rows.low F2 (by have := G.out.h2; have := G.out.h3; have := G.out.h4; simp; omega)).at (i := 0) (r := ⟨n.1, n.2, 25, nowL P⟩) rfl).free j
            rw [hp0] at cp
            have NX2 := Lib.hid (NX.out.setN G.out F2 H2 HX.out q hk2)
            clear H2 F2 cn hk2 BX hm hp0
            go_wp2
            go_roundw
            case rel => exact ⟨k + 1, _, n, f, p, P.set j (x.wA q), by omega, by go_num, by simp, by simp, by simp, by simp; omega, NX2⟩
            case measure => simp [intOf]; omega
      by_cases k2 : K = 2
      · subst k2
        as_aux_lemma =>
          have cf := CF.out
          have qf := QF.out
          have HS := Lib.hid (NX.out.hk.set (j := j) (o := x.ob) (by simp [HX.out]) I wd (by omega) (by omega))
          have jj0 : (0 : Int) ≤ (j : Int) := by omega
          have jj1 : (j : Int) < (P.length : Int) := by omega
          have KE : Hid (∀ w2, Fr [b, wb, lb] (wo.alloc (.cells #[.int .i64 2, .int .i64 (j : Int), .int .i64 wh, .int .i64 I, .int .u64 wd] 54)) w2 → w2.cell? ⟨n.1, j, none⟩ = some (.int .u64 (pw x.ob.a)) ∧ w2.cell? ⟨wo.heap.size, 3, none⟩ = some (.int .i64 I) ∧ w2.cell? ⟨wo.heap.size, 4, none⟩ = some (.int .u64 wd) ∧ w2.cell? ⟨f.1, j, none⟩ = some (.slice (some ⟨x.g, 0, none⟩) x.ob.fs.length x.cap)) := Lib.hid (fun w2 hF => by
            have hl : ∀ y, y ∈ [b, wb, lb] → y < B := by have := G.out.h2; have := G.out.h3; have := G.out.h4; simp; omega
            have R2 := NX.out.rows.low hF hl
            have B2 := hF.at BX.out (fun hm => by have := hl _ hm; have := hBo; rw [size_alloc] at this; omega)
            exact ⟨(R2.at (i := 0) (r := ⟨n.1, n.2, 25, nowL P⟩) rfl).cell (by simp [nowL, HX.out]), cell_of B2 (i := 3) rfl, cell_of B2 (i := 4) rfl, (R2.at (i := 1) (r := ⟨f.1, f.2, 50, fldL P⟩) rfl).cell (by simp [fldL, HX.out])⟩)
          by_cases hI : 0 ≤ I ∧ I < x.ob.fs.length
          · obtain ⟨hI0, hI1⟩ := hI
            obtain ⟨q, rfl⟩ : ∃ q : Nat, I = q := ⟨I.toNat, by omega⟩
            have hq : q < x.ob.fs.length := by omega
            rw [if_pos ⟨hI0, hI1⟩] at HS
            have hIb : decide (0 ≤ (q : Int)) = true := by simp
            have hIb2 : decide ((q : Int) < (x.ob.fs.length : Int)) = true := by simpa using hI1
            go_wp2_with fail
            go_region_held3 (fun w' => w'.cell? ⟨n.1, j, none⟩ = some (.int .u64 (pw x.ob.a)) ∧ w'.cell? ⟨wo.heap.size, 3, none⟩ = some (.int .i64 (q : Int)) ∧ w'.cell? ⟨wo.heap.size, 4, none⟩ = some (.int .u64 wd) ∧ w'.cell? ⟨f.1, j, none⟩ = some (.slice (some ⟨x.g, 0, none⟩) x.ob.fs.length x.cap)) (first | assumption | go_keep) (first | (go_at_call 34; refine (oset_c _ (NX.out.he.keep (by first | exact (Fr.refl _ _).drewN _ | exact (Fr.refl _ _).drew | exact Fr.refl _ _)) OKA.out WDA.out (pw x.ob.a) q wd HU.1 HU.2 (by omega)).mono ?_; rintro e w2 ⟨rfl, H2, F2⟩; have F3 : Fr [b, wb, lb] (wo.alloc (.cells #[.int .i64 2, .int .i64 (j : Int), .int .i64 wh, .int .i64 (q : Int), .int .u64 wd] 54)) w2 := (by first | exact F2 | exact ((Fr.refl _ _).drewN _).same F2 | exact ((Fr.refl _ _).drew).same F2); have y := KE.out w2 F3; rw [HS.out.1]))
            have hl : ∀ y, y ∈ [b, wb, lb] → y < B := by have := G.out.h2; have := G.out.h3; have := G.out.h4; simp; omega
            have R2 := Lib.hid (NX.out.rows.low F3 hl)
            have HIQ : Hid (((q : Nat) : Int).toNat = q) := Lib.hid (by omega)
            have NX2 := Lib.hid (NX.out.setF G.out F3 H2 HX.out q wd (by have := HS.out.2; rw [HIQ.out] at this; exact this))
            have FX := Lib.hid (((NX.out.rows.low F3 hl).at (i := j + 3) (r := x.row) (by simp [rowsOf, HX.out])).free q)
            have CX := Lib.hid (((NX.out.rows.low F3 hl).at (i := j + 3) (r := x.row) (by simp [rowsOf, HX.out])).cell (i := q) (u := .int .u64 (x.ob.fs[q]?.getD 0)) (by simp [Kp.row, hq]))
            obtain ⟨y1, y2, y3, y4⟩ := KE.out w2 F3
            clear hl H2 F2 cf qf cn qn HS KE F3 HIQ hBo
            go_wp2_with fail
            go_quiet (fail)
            have cx := CX.out
            have fx := FX.out
            simp only [Kp.row] at cx fx
            go_wp2_with fail
            go_region
            all_goals
              go_wp2
              go_roundw
              case rel => exact ⟨k + 1, _, n, f, p, P.set j (x.wF (x.ob.fs.set q wd)), by omega, by go_num, by simp, by simp, by simp, by simp; omega, Lib.hid (NX2.out.keep (by first | exact (Fr.refl _ _).drewN _ | exact (Fr.refl _ _).drew | exact Fr.refl _ _))⟩
              case measure => simp [intOf]; omega
          · have HS2 : Hid ((setF A m (pw x.ob.a) I wd).2 = 151 ∧ (setF A m (pw x.ob.a) I wd).1 = A) := Lib.hid (by have := HS.out; rw [if_neg hI] at this; exact this)
            clear HS
            by_cases hI0 : 0 ≤ I
            · obtain ⟨q, rfl⟩ : ∃ q : Nat, I = q := ⟨I.toNat, by omega⟩
              have hq : x.ob.fs.length ≤ q := by omega
              have hIb : decide (0 ≤ (q : Int)) = true := by simp
              have hIb2 : decide ((q : Int) < (x.ob.fs.length : Int)) = false := by simpa using hq
              clear hI
              go_wp2_with fail
              go_region_held3 (fun w' => w'.cell? ⟨n.1, j, none⟩ = some (.int .u64 (pw x.ob.a)) ∧ w'.cell? ⟨wo.heap.size, 3, none⟩ = some (.int .i64 (q : Int)) ∧ w'.cell? ⟨wo.heap.size, 4, none⟩ = some (.int .u64 wd) ∧ w'.cell? ⟨f.1, j, none⟩ = some (.slice (some ⟨x.g, 0, none⟩) x.ob.fs.length x.cap)) (first | assumption | go_keep) (first | (go_at_call 34; refine (oset_c _ (NX.out.he.keep (by first | exact (Fr.refl _ _).drewN _ | exact (Fr.refl _ _).drew | exact Fr.refl _ _)) OKA.out WDA.out (pw x.ob.a) (q : Int) wd HU.1 HU.2 (by omega)).mono ?_; rintro e w2 ⟨rfl, H2, F2⟩; have F3 : Fr [b, wb, lb] (wo.alloc (.cells #[.int .i64 2, .int .i64 (j : Int), .int .i64 wh, .int .i64 (q : Int), .int .u64 wd] 54)) w2 := (by first | exact F2 | exact ((Fr.refl _ _).drewN _).same F2 | exact ((Fr.refl _ _).drew).same F2); have y := KE.out w2 F3; rw [HS2.out.1]))
              obtain ⟨y1, y2, y3, y4⟩ := KE.out w2 F3
              have NX2 := Lib.hid (NX.out.heap G.out F3 (by have := H2; rw [HS2.out.2] at this; exact this) NX.out.hk)
              clear H2 F2 cf qf cn qn HS2 KE F3 hBo
              go_wp2_with fail
              go_quiet (fail)
              go_wp2
              go_roundw
              case rel => exact ⟨k + 1, _, n, f, p, P, by omega, by go_num, rfl, rfl, rfl, by omega, Lib.hid (NX2.out.keep (by first | exact (Fr.refl _ _).drewN _ | exact (Fr.refl _ _).drew | exact Fr.refl _ _))⟩
              case measure => simp [intOf]; omega
            · have hIb : decide (0 ≤ I) = false := by simpa using hI0
              clear hI
              go_wp2_with fail
              refine wp_region_held_drew (S := (fun w' => w'.cell? ⟨n.1, j, none⟩ = some (.int .u64 (pw x.ob.a)) ∧ w'.cell? ⟨wo.heap.size, 3, none⟩ = some (.int .i64 I) ∧ w'.cell? ⟨wo.heap.size, 4, none⟩ = some (.int .u64 wd) ∧ w'.cell? ⟨f.1, j, none⟩ = some (.slice (some ⟨x.g, 0, none⟩) x.ob.fs.length x.cap))) (by kernel_rfl) ?_ (fun hHeld => ?_)
              · first | assumption | go_keep
              refine' wpAnyH_take (i := 0) (v := _) rfl (by kernel_rfl) (by kernel_rfl) (by kernel_rfl) (fun _ _ _ h => h) (Or.inl ⟨by rfl, ?hy0⟩) (by assumption) ?re0
              case hy0 => intro w hSw; (try dsimp only at hSw); go_simp; try with_reducible rfl
              try simp only [Act.put, List.getElem_toArray, List.getElem_cons_succ, List.getElem_cons_zero, List.setIfInBounds_toArray, List.set_cons_zero, List.set_cons_succ]
              refine' wpAnyH_take (i := 1) (v := _) rfl (by kernel_rfl) (by kernel_rfl) (by kernel_rfl) (fun _ _ _ h => h) (Or.inl ⟨by rfl, ?hy1⟩) (by assumption) ?re1
              case hy1 => intro w hSw; (try dsimp only at hSw); go_simp; try with_reducible rfl
              try simp only [Act.put, List.getElem_toArray, List.getElem_cons_succ, List.getElem_cons_zero, List.setIfInBounds_toArray, List.set_cons_zero, List.set_cons_succ]
              refine' wpAnyH_take (i := 2) (v := _) rfl (by kernel_rfl) (by kernel_rfl) (by kernel_rfl) (fun _ _ _ h => h) (Or.inl ⟨by rfl, ?hy2⟩) (by assumption) ?re2
              case hy2 => intro w hSw; (try dsimp only at hSw); go_simp; try with_reducible rfl
              try simp only [Act.put, List.getElem_toArray, List.getElem_cons_succ, List.getElem_cons_zero, List.setIfInBounds_toArray, List.set_cons_zero, List.set_cons_succ]
              refine' wpAnyH_take (i := 3) (v := _) rfl (by kernel_rfl) (by kernel_rfl) (by kernel_rfl) (fun _ _ _ h => h) (Or.inl ⟨by rfl, ?hy3⟩) (by assumption) ?re3
              case hy3 => intro w hSw; (try dsimp only at hSw); go_simp; try with_reducible rfl
              try simp only [Act.put, List.getElem_toArray, List.getElem_cons_succ, List.getElem_cons_zero, List.setIfInBounds_toArray, List.set_cons_zero, List.set_cons_succ]
              refine' wpAnyH_take (i := 4) (v := _) rfl (by kernel_rfl) (by kernel_rfl) (by kernel_rfl) (fun _ _ _ h => h) (Or.inl ⟨by rfl, ?hy4⟩) (by assumption) ?re4
              case hy4 => intro w hSw; (try dsimp only at hSw); go_simp; try with_reducible rfl
              try simp only [Act.put, List.getElem_toArray, List.getElem_cons_succ, List.getElem_cons_zero, List.setIfInBounds_toArray, List.set_cons_zero, List.set_cons_succ]
              refine' wpAnyH_take (i := 5) (v := _) rfl (by kernel_rfl) (by kernel_rfl) (by kernel_rfl) (fun _ _ _ h => h) (Or.inl ⟨by rfl, ?hy5⟩) (by assumption) ?re5
              case hy5 => intro w hSw; (try dsimp only at hSw); go_simp; try with_reducible rfl
              try simp only [Act.put, List.getElem_toArray, List.getElem_cons_succ, List.getElem_cons_zero, List.setIfInBounds_toArray, List.set_cons_zero, List.set_cons_succ]
              refine' wpAnyH_take (i := 6) (v := _) rfl (by kernel_rfl) (by kernel_rfl) (by kernel_rfl) (fun _ _ _ h => h) (Or.inl ⟨by rfl, ?hy6⟩) (by assumption) ?re6
              case hy6 => intro w hSw; (try dsimp only at hSw); go_simp; try with_reducible rfl
              try simp only [Act.put, List.getElem_toArray, List.getElem_cons_succ, List.getElem_cons_zero, List.setIfInBounds_toArray, List.set_cons_zero, List.set_cons_succ]
              refine' wpAnyH_take (i := 7) (v := _) rfl (by kernel_rfl) (by kernel_rfl) (by kernel_rfl) (fun _ _ _ h => h) (Or.inl ⟨by rfl, ?hy7⟩) (by assumption) ?re7
              case hy7 => intro w hSw; (try dsimp only at hSw); go_simp; try with_reducible rfl
              try simp only [Act.put, List.getElem_toArray, List.getElem_cons_succ, List.getElem_cons_zero, List.setIfInBounds_toArray, List.set_cons_zero, List.set_cons_succ]
              refine' wpAnyH_take (i := 8) (v := _) rfl (by kernel_rfl) (by kernel_rfl) (by kernel_rfl) (fun _ _ _ h => h) (Or.inl ⟨by rfl, ?hy8⟩) (by assumption) ?re8
              case hy8 => intro w hSw; (try dsimp only at hSw); go_simp; try with_reducible rfl
              try simp only [Act.put, List.getElem_toArray, List.getElem_cons_succ, List.getElem_cons_zero, List.setIfInBounds_toArray, List.set_cons_zero, List.set_cons_succ]
              refine' wpAnyH_take (i := 11) (v := _) rfl (by kernel_rfl) (by kernel_rfl) (by kernel_rfl) (fun _ _ _ h => h) (Or.inl ⟨by rfl, ?hy11⟩) (by assumption) ?re11
              case hy11 => intro w hSw; (try dsimp only at hSw); go_simp; try with_reducible rfl
              try simp only [Act.put, List.getElem_toArray, List.getElem_cons_succ, List.getElem_cons_zero, List.setIfInBounds_toArray, List.set_cons_zero, List.set_cons_succ]
              refine' wpAnyH_take (i := 12) (v := _) rfl (by kernel_rfl) (by kernel_rfl) (by kernel_rfl) (fun _ _ _ h => h) (Or.inl ⟨by rfl, ?hy12⟩) (by assumption) ?re12
              case hy12 => intro w hSw; (try dsimp only at hSw); go_simp; try with_reducible rfl
              try simp only [Act.put, List.getElem_toArray, List.getElem_cons_succ, List.getElem_cons_zero, List.setIfInBounds_toArray, List.set_cons_zero, List.set_cons_succ]
              refine' wpAnyH_take (i := 13) (v := _) rfl (by kernel_rfl) (by kernel_rfl) (by kernel_rfl) (fun _ _ _ h => h) (Or.inl ⟨by rfl, ?hy13⟩) (by assumption) ?re13
              case hy13 => intro w hSw; (try dsimp only at hSw); go_simp; try with_reducible rfl
              try simp only [Act.put, List.getElem_toArray, List.getElem_cons_succ, List.getElem_cons_zero, List.setIfInBounds_toArray, List.set_cons_zero, List.set_cons_succ]
              refine wpAnyH_ready (rs := [9]) (by kernel_rfl) (by simp) ?_
              refine AllReadyH.cons rfl (fun K hK => ?_) AllReadyH.nil
              go_simp
              (go_at_call 34; refine (oset_c _ (NX.out.he.keep (by first | exact (Fr.refl _ _).drewN _ | exact (Fr.refl _ _).drew | exact Fr.refl _ _)) OKA.out WDA.out (pw x.ob.a) I wd HU.1 HU.2 (by omega)).mono ?_; rintro e w2 ⟨rfl, H2, F2⟩; have F3 : Fr [b, wb, lb] (wo.alloc (.cells #[.int .i64 2, .int .i64 (j : Int), .int .i64 wh, .int .i64 I, .int .u64 wd] 54)) w2 := (by first | exact F2 | exact ((Fr.refl _ _).drewN _).same F2 | exact ((Fr.refl _ _).drew).same F2); have y := KE.out w2 F3; rw [HS2.out.1])
              refine hK.out _ _ ?_ (fun hHeld2 => ?_)
              · first | assumption | go_keep
              clear hK K hHeld
              try simp only [Act.put, List.getElem_toArray, List.getElem_cons_succ, List.getElem_cons_zero, List.setIfInBounds_toArray, List.set_cons_zero, List.set_cons_succ]
              refine' wpAnyH_take (i := 10) (v := _) rfl (by kernel_rfl) (by kernel_rfl) (by kernel_rfl) (fun _ _ _ h => h) (Or.inl ⟨by rfl, ?hy10⟩) (by assumption) ?re10
              case hy10 => intro w hSw; (try dsimp only at hSw); go_simp; try with_reducible rfl
              try simp only [Act.put, List.getElem_toArray, List.getElem_cons_succ, List.getElem_cons_zero, List.setIfInBounds_toArray, List.set_cons_zero, List.set_cons_succ]
              refine' wpAnyH_take (i := 14) (v := _) rfl (by kernel_rfl) (by kernel_rfl) (by kernel_rfl) (fun _ _ _ h => h) (Or.inl ⟨by rfl, ?hy14⟩) (by assumption) ?re14
              case hy14 => intro w hSw; (try dsimp only at hSw); go_simp; try with_reducible rfl
              try simp only [Act.put, List.getElem_toArray, List.getElem_cons_succ, List.getElem_cons_zero, List.setIfInBounds_toArray, List.set_cons_zero, List.set_cons_succ]
              refine wpAnyH_take (i := 15) (v := undef) rfl (by kernel_rfl) (by kernel_rfl) (by kernel_rfl) (fun _ _ _ h => h) (Or.inr ⟨by rfl, rfl⟩) (by assumption) ?_
              try simp only [Act.put, List.getElem_toArray, List.getElem_cons_succ, List.getElem_cons_zero, List.setIfInBounds_toArray, List.set_cons_zero, List.set_cons_succ]
              refine wpAnyH_take (i := 16) (v := undef) rfl (by kernel_rfl) (by kernel_rfl) (by kernel_rfl) (fun _ _ _ h => h) (Or.inr ⟨by rfl, rfl⟩) (by assumption) ?_
              try simp only [Act.put, List.getElem_toArray, List.getElem_cons_succ, List.getElem_cons_zero, List.setIfInBounds_toArray, List.set_cons_zero, List.set_cons_succ]
              refine wpAnyH_take (i := 17) (v := undef) rfl (by kernel_rfl) (by kernel_rfl) (by kernel_rfl) (fun _ _ _ h => h) (Or.inr ⟨by rfl, rfl⟩) (by assumption) ?_
              try simp only [Act.put, List.getElem_toArray, List.getElem_cons_succ, List.getElem_cons_zero, List.setIfInBounds_toArray, List.set_cons_zero, List.set_cons_succ]
              refine wpAnyH_take (i := 18) (v := undef) rfl (by kernel_rfl) (by kernel_rfl) (by kernel_rfl) (fun _ _ _ h => h) (Or.inr ⟨by rfl, rfl⟩) (by assumption) ?_
              try simp only [Act.put, List.getElem_toArray, List.getElem_cons_succ, List.getElem_cons_zero, List.setIfInBounds_toArray, List.set_cons_zero, List.set_cons_succ]
              refine wpAnyH_take (i := 19) (v := undef) rfl (by kernel_rfl) (by kernel_rfl) (by kernel_rfl) (fun _ _ _ h => h) (Or.inr ⟨by rfl, rfl⟩) (by assumption) ?_
              try simp only [Act.put, List.getElem_toArray, List.getElem_cons_succ, List.getElem_cons_zero, List.setIfInBounds_toArray, List.set_cons_zero, List.set_cons_succ]
              refine wpAnyH_take (i := 20) (v := undef) rfl (by kernel_rfl) (by kernel_rfl) (by kernel_rfl) (fun _ _ _ h => h) (Or.inr ⟨by rfl, rfl⟩) (by assumption) ?_
              try simp only [Act.put, List.getElem_toArray, List.getElem_cons_succ, List.getElem_cons_zero, List.setIfInBounds_toArray, List.set_cons_zero, List.set_cons_succ]
              refine wpAnyH_take (i := 21) (v := undef) rfl (by kernel_rfl) (by kernel_rfl) (by kernel_rfl) (fun _ _ _ h => h) (Or.inr ⟨by rfl, rfl⟩) (by assumption) ?_
              try simp only [Act.put, List.getElem_toArray, List.getElem_cons_succ, List.getElem_cons_zero, List.setIfInBounds_toArray, List.set_cons_zero, List.set_cons_succ]
              refine wpAnyH_take (i := 22) (v := undef) rfl (by kernel_rfl) (by kernel_rfl) (by kernel_rfl) (fun _ _ _ h => h) (Or.inr ⟨by rfl, rfl⟩) (by assumption) ?_
              try simp only [Act.put, List.getElem_toArray, List.getElem_cons_succ, List.getElem_cons_zero, List.setIfInBounds_toArray, List.set_cons_zero, List.set_cons_succ]
              refine' wpAnyH_take (i := 23) (v := _) rfl (by kernel_rfl) (by kernel_rfl) (by kernel_rfl) (fun _ _ _ h => h) (Or.inl ⟨by rfl, ?hy23⟩) (by assumption) ?re23
              case hy23 => intro w hSw; (try dsimp only at hSw); go_simp; try with_reducible rfl
              try simp only [Act.put, List.getElem_toArray, List.getElem_cons_succ, List.getElem_cons_zero, List.setIfInBounds_toArray, List.set_cons_zero, List.set_cons_succ]
              refine' wpAnyH_take (i := 24) (v := _) rfl (by kernel_rfl) (by kernel_rfl) (by kernel_rfl) (fun _ _ _ h => h) (Or.inl ⟨by rfl, ?hy24⟩) (by assumption) ?re24
              case hy24 => intro w hSw; (try dsimp only at hSw); go_simp; try with_reducible rfl
              try simp only [Act.put, List.getElem_toArray, List.getElem_cons_succ, List.getElem_cons_zero, List.setIfInBounds_toArray, List.set_cons_zero, List.set_cons_succ]
              refine wpAnyH_done (by kernel_rfl) ?_ _
              all_goals
                obtain ⟨y1, y2, y3, y4⟩ := KE.out w2 F3
                have NX2 := Lib.hid (NX.out.heap G.out F3 (by have := H2; rw [HS2.out.2] at this; exact this) NX.out.hk)
                clear H2 F2 cf qf cn qn HS2 KE F3 hBo
                go_wp2_with fail
                go_quiet (fail)
                go_wp2
                go_roundw
                case rel => exact ⟨k + 1, _, n, f, p, P, by omega, by go_num, rfl, rfl, rfl, by omega, Lib.hid (NX2.out.keep (by first | exact (Fr.refl _ _).drewN _ | exact (Fr.refl _ _).drew | exact Fr.refl _ _))⟩
                case measure => simp [intOf]; omega
      have u2 : (K == 2) = false := by simpa using k2
      have u3 : (K == 3) = false := by simpa using k3
      have u4 : (K == 4) = false := by simpa using k4
      have u5 : (K == 5) = false := by simpa using k5
      clear k2 k3 k4 k5
      as_aux_lemma =>
        go_wp2
        go_roundw
        case rel => exact ⟨k + 1, A, n, f, p, P, by omega, by go_num, rfl, rfl, rfl, by omega, NX⟩
        case measure => simp [intOf]; omega
    · have hkl : k = len := by omega
      subst hkl
      as_aux_lemma =>
        go_wp2_with fail
        go_loopw [212, 20, 21, 22, 23, 24, 25] (fun x s20 s21 s22 s23 s24 s25 wq => ∃ j : Nat, j ≤ P.length ∧ x = .int .i64 j ∧ Hid (KAt w wq B m hb b wb lb A n f p P)) (fun x _ _ _ _ _ _ _ => P.length - (intOf x).toNat)
        case atStart => exact ⟨0, by omega, rfl, hAt⟩
        case round =>
          obtain ⟨wo, rfl⟩ : ∃ wo : World, wo = wr := ⟨_, rfl⟩
          obtain ⟨j, hj, rfl, hQ⟩ := hrel
          clear hAt
          by_cases hlt : j < P.length
          · obtain ⟨x, hx⟩ : ∃ x, P[j]? = some x := ⟨P[j], by simp [hlt]⟩
            have HX := Lib.hid hx
            have cn := hQ.out.now hx
            have ho := hQ.out.hk.ob (j := j) (o := x.ob) (by simp [hx])
            have HU : U64 (pw x.ob.a) := ⟨ho.2.2.2.1, ho.2.2.2.2.1⟩
            have hp7 := ho.2.1
            have hfl := ho.2.2.1
            have OKA := Lib.hid hQ.out.hk.okA
            have WDA := Lib.hid hQ.out.hk.wdA
            have CS : Hid (∀ W, Fr [] wo W → Calls Try.prog 33 #[.pointer (some ⟨hb, 0, none⟩), .int .u64 (pw x.ob.a)] W fun e w' => e = .returned (.int .i64 (x.ob.fs.length : Int)) ∧ Fr [] wo w') := Lib.hid (fun W hF => by
              refine (osize_c W (hQ.out.keep hF).he OKA.out WDA.out (pw x.ob.a) HU.1 HU.2).mono ?_
              rintro e w' ⟨rfl, h2⟩
              rw [ho.1]
              exact ⟨rfl, hF.same h2⟩)
            have CP : Hid (∀ W, Fr [] wo W → Calls Try.prog 38 #[.pointer (some ⟨hb, 0, none⟩), .int .u64 (pw x.ob.a)] W fun e w' => e = .returned (.bool (decide (0 < x.ob.pins))) ∧ Fr [] wo w') := Lib.hid (fun W hF => by
              refine (opinned_c W (hQ.out.keep hF).he OKA.out WDA.out (pw x.ob.a) HU.1 HU.2).mono ?_
              rintro e w' ⟨rfl, h2⟩
              rw [ho.1]
              exact ⟨rfl, hF.same h2⟩)
            have KE : Hid (∀ W, Fr [] wo W → W.cell? ⟨f.1, j, none⟩ = some (.slice (some ⟨x.g, 0, none⟩) x.ob.fs.length x.cap) ∧ W.cell? ⟨p.1, j, none⟩ = some (.int .i64 x.ob.pins)) := Lib.hid (fun W hF => ⟨(hQ.out.keep hF).fld HX.out, (hQ.out.keep hF).pin HX.out⟩)
            have jj0 : (0 : Int) ≤ (j : Int) := by omega
            have jj1 : (j : Int) < (P.length : Int) := by omega
            have f0 : Fr [] wo wo.drew := (Fr.refl _ _).drew
            obtain ⟨z1, z2⟩ := KE.out wo (Fr.refl _ _)
            clear ho
            go_wp2_with fail
            go_region_held3 (fun W => W.cell? ⟨f.1, j, none⟩ = some (.slice (some ⟨x.g, 0, none⟩) x.ob.fs.length x.cap) ∧ W.cell? ⟨p.1, j, none⟩ = some (.int .i64 x.ob.pins)) (first | assumption | go_keep) (first | (go_at_call 33; refine (CS.out _ f0).mono ?_; rintro e w2 ⟨rfl, F2⟩; have y := KE.out w2 F2) | (go_at_call 38; refine (CP.out _ F2).mono ?_; rintro e w3 ⟨rfl, F3⟩; have y := KE.out w3 F3))
            obtain ⟨y1, y2⟩ := KE.out w3 F3
            have Q3 := Lib.hid (hQ.out.keep F3)
            clear F2 F3 CS CP KE f0 cn z1 z2 hQ
            go_wp2_with fail
            go_loopw [256, 22, 23, 24, 25] (fun x_ s22 s23 s24 s25 wq => ∃ i : Nat, i ≤ x.ob.fs.length ∧ x_ = .int .i64 i ∧ Hid (KAt w wq B m hb b wb lb A n f p P)) (fun x_ _ _ _ _ _ => x.ob.fs.length - (intOf x_).toNat)
            case atStart => exact ⟨0, by omega, rfl, Q3⟩
            case round =>
              obtain ⟨wo2, rfl⟩ : ∃ wo2 : World, wo2 = wr := ⟨_, rfl⟩
              obtain ⟨i, hi, rfl, hQ⟩ := hrel
              by_cases hlt2 : i < x.ob.fs.length
              · have cv := hQ.out.fs HX.out hlt2
                have GE : Hid (getF A m (pw x.ob.a) i = (x.ob.fs[i]?.getD 0, 0)) := Lib.hid (hQ.out.hk.get (j := j) (o := x.ob) (by simp [HX.out]) i hlt2)
                go_wp2_with fail
                refine (oget_c wo2 hQ.out.he OKA.out WDA.out (pw x.ob.a) i HU.1 HU.2 (by omega)).mono ?_
                rintro e w4 ⟨rfl, F4⟩
                rw [GE.out]
                have Q4 := Lib.hid (hQ.out.keep F4)
                clear F4 hQ cv GE
                go_wp2
                go_roundw
                case rel => exact ⟨i + 1, by omega, by go_num, Q4⟩
                case measure => simp [intOf]; omega
              · have hil : i = x.ob.fs.length := by omega
                have HIL := Lib.hid hil
                clear hil
                go_wp2
                go_roundw
                case rel => exact ⟨j + 1, by omega, by go_num, hQ⟩
                case measure => simp [intOf]; omega
          · have hjl : j = P.length := by omega
            subst hjl
            go_wp2
            go_ret
            exact ⟨rfl, hQ.out.fr.below⟩
theorem walk (n : Int) (a : Option Addr) (len cap : Nat) (N : Nat → Nat → Int) (w : World) (w0 : (Lit.int .i64 n).wf = true) (hN : IsActs w a len cap N) :
    Calls Try.prog 7 #[.int .i64 n, .slice a len cap] w fun e w' => e = .returned (.bool true) ∧ Below w.heap.size w w' := by
  have bn := bounds_i64 w0
  by_cases h : n < 1 ∨ 8 < n ∨ 100 < len
  · exact early n a len cap w bn (by have := hN.2.2; omega) h
  · have := main n.toNat a len cap N w (by omega) (by omega) (by omega) hN
    rwa [show ((n.toNat : Nat) : Int) = n from by omega] at this
theorem own : ownKnob Try.prog.godebug = none := by kernel_rfl
theorem laidOut : laidOutB Try.prog = true := by kernel_rfl
set_option maxRecDepth 100000 in
theorem lifted (os : Os) (started : os.Started) (H : Type) (enc : TypeId × Value → H) :
    ReturnsInHanded {} Try.checked os 7 .any (Rows.heapKeepsSpec.pre6 enc Try.prog Try.f7 Rows.heapKeepsRow.domain false) (Rows.heapKeepsSpec.post enc Try.prog Try.f7 false true false false) := by
  refine returnsInHanded_of_change (C := Try.checked) own started (by kernel_rfl) Try.func7
    (ChangeSpec.witness6 (enc := enc) (C := Try.checked) false ⟨#[], #[.int .i64 0, .slice none 0 0], []⟩ 8 (by kernel_rfl) (by kernel_rfl) (by kernel_rfl) (by kernel_rfl)) ?_
  intro W base args ds gs before hval0 hW hcnd _
  have hval : ∀ (j : Nat) t v, Try.f7.params[j]? = some t → args[j]? = some v → Value.okWide Try.prog W .any base t v := hval0
  have hW' := hW
  obtain ⟨p, q, hA0, hV, rfl, hfz, hnd⟩ := hW
  have hA : DataW.TrodAll enc Try.prog W 0 (fun _ => true) true Try.f7.params.toList args.toList ds p := hA0
  rw [Try.params7] at hA hval
  obtain ⟨v0, vs0, d0, ds0, p0, q0, hargs, rfl, rfl, h0, r0⟩ := trodAll_cons hA
  obtain ⟨v1, vs1, d1, ds1, p1, q1, rfl, rfl, rfl, h1, r1⟩ := trodAll_cons r0
  obtain ⟨rfl, rfl, rfl⟩ := trodAll_nil r1
  obtain rfl : args = #[v0, v1] := by cases args; simp_all
  obtain ⟨rfl, rfl⟩ := trodVars_none hV
  obtain ⟨a0, rfl, rfl, rfl, w0⟩ := open_int Try.underlying3 (hval 0 3 v0 rfl rfl) h0
  obtain ⟨a1, len1, cap1, rfl⟩ := okWide_slice Try.underlying49 (hval 1 49 v1 rfl rfl)
  have k1 := h1
  have lt1 : ∀ x ∈ p1, x.block < W.heap.size := by obtain ⟨m, hm⟩ := k1; exact DataW.trod_lt m _ _ _ hm
  obtain ⟨z1, w1⟩ := opener h1
  clear hA0 hval0
  refine (walk a0 a1 len1 cap1 z1 W w0 w1).mono fun e W' ⟨he, bel⟩ => ?_
  subst he
  exact ⟨_, rfl, _, _, _, [], _, [], hW', trodAll_mk1 (shut_bool Try.underlying4 _), (trodAll_cons_mk (shut_int Try.underlying3 w0) (trodAll_cons_mk (Below.trod laidOut (by kernel_rfl) (of_decide_eq_true (by kernel_rfl)) k1 bel lt1) trodAll_mk0)), rfl, bel.frame _, fun h => by cases h⟩
theorem over : Rows.heapKeepsRow.holds Try.pinned (OpenSpec.ofChange Rows.heapKeepsSpec) :=
  OpenClaim.holds_of_wide 7 Try.f7 rfl rfl rfl rfl rfl rfl rfl ⟨rfl, rfl, rfl, rfl, rfl⟩ rfl rfl rfl rfl rfl (by kernel_rfl) Try.func7 (by kernel_rfl)
    (of_decide_eq_true (by kernel_rfl)) (by unfold Func.isWrapper; first | (rw [if_pos (by decide +kernel)]; kernel_rfl) | (rw [if_neg (by decide +kernel)]; exact ⟨rfl, rfl⟩))
    (fun os started H enc _ => lifted os started H enc)
/-- THE STATEMENT -/
theorem proved : Rows.HeapKeepsSaid := over
#print axioms proved
end Go.Proofs.Ytjcpjgdknelhnaa.heapKeeps
