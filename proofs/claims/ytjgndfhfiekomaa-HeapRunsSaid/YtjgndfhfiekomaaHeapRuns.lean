/- The law HeapRuns holds for every input: the Go function returns true and leaves its arguments as they were. No condition. -/
import Derived.Test.YtjgndfhfiekomaaHrV
import Derived.Test.YtjgndfhfiekomaaArgs
import Derived.ProofKit
import Derived.ChangeOld
import Derived.Deep.AppendLies
import Derived.Deep.RegionHeld3
import Derived.Deep.CutBlock
import Derived.Deep.DeepCutAuto
namespace Go.Proofs.Ytjgndfhfiekomaa.heapRuns
open Go.ChangeShapes Go.WideShapes Go.ChangeAt Go.RowKit
set_option linter.all false
/-- The kinds of an act's fields. -/
def ks : List IntKind := [.i64, .i64, .i64, .i64, .u64]
def IsActs (w : World) (a : Option Addr) (len cap : Nat) (N : Nat → Nat → Int) : Prop :=
  RowsAt w a len 5 (fun i j => .int (ks.getD j .i64) (N i j)) ∧ (∀ i j, i < len → j < 5 → (Lit.int (ks.getD j .i64) (N i j)).wf = true) ∧ len ≤ cap ∧ cap ≤ maxLen
theorem opener {H : Type} {enc : TypeId × Value → H} {w : World} {spare : Nat → Bool} {held : Bool} {a : Option Addr} {len cap : Nat} {d : DataW H} {p : List MemPlace}
    (h : DataW.Trod enc Try.prog w 0 spare held 22 (.slice a len cap) d p) : ∃ N, IsActs w a len cap N := by
  obtain ⟨N, h1, h2, h3, h4⟩ := open_int_structs (ks := ks) Try.underlying22 Try.underlying39 (by kernel_rfl) rfl
    (fun j hj => by
      match j, hj with
      | 0, _ => exact ⟨_, _, rfl, rfl, rfl, by kernel_rfl, Try.underlying3⟩
      | 1, _ => exact ⟨_, _, rfl, rfl, rfl, by kernel_rfl, Try.underlying3⟩
      | 2, _ => exact ⟨_, _, rfl, rfl, rfl, by kernel_rfl, Try.underlying3⟩
      | 3, _ => exact ⟨_, _, rfl, rfl, rfl, by kernel_rfl, Try.underlying3⟩
      | 4, _ => exact ⟨_, _, rfl, rfl, rfl, by kernel_rfl, Try.underlying37⟩
      | n + 5, hj => exact absurd hj (by simp)) h (by decide)
  exact ⟨N, h1, h2, h3, h4⟩
/-- The cells of act k in a world that kept them. -/
theorem act_cells {w w' : World} {ab ao len : Nat} {N : Nat → Nat → Int} {S : List Nat} (h : RowsAt w (some ⟨ab, ao, none⟩) len 5 (fun i j => .int (ks.getD j .i64) (N i j))) (hF : Fr S w w') (hS : ∀ x, x ∈ S → w.heap.size ≤ x) (k : Nat) (hk : k < len) :
    w'.cell? ⟨ab, ao + k * 5, none⟩ = some (.int .i64 (N k 0)) ∧ w'.cell? ⟨ab, ao + k * 5 + 1, none⟩ = some (.int .i64 (N k 1)) ∧ w'.cell? ⟨ab, ao + k * 5 + 2, none⟩ = some (.int .i64 (N k 2)) ∧ w'.cell? ⟨ab, ao + k * 5 + 3, none⟩ = some (.int .i64 (N k 3)) ∧ w'.cell? ⟨ab, ao + k * 5 + 4, none⟩ = some (.int .u64 (N k 4)) ∧ ab < w'.heap.size := by
  rcases h.fr hF hS with h | ⟨b, o, h1, h2, h3⟩
  · omega
  · simp only [Option.some.injEq, Addr.mk.injEq] at h1
    obtain ⟨rfl, rfl, _⟩ := h1
    exact ⟨h3 k 0 hk (by omega), by rw [Nat.add_assoc]; exact h3 k 1 hk (by omega), by rw [Nat.add_assoc]; exact h3 k 2 hk (by omega), by rw [Nat.add_assoc]; exact h3 k 3 hk (by omega), by rw [Nat.add_assoc]; exact h3 k 4 hk (by omega), h2⟩
set_option maxRecDepth 100000 in
theorem early (n : Int) (a : Option Addr) (len cap : Nat) (w : World) (bn : -9223372036854775808 ≤ n ∧ n ≤ 9223372036854775807) (hl : len ≤ maxLen) (h : 6 < n ∨ 100 < len) :
    Calls Try.prog 3 #[.int .i64 n, .slice a len cap] w fun e w' => e = .returned (.bool true) ∧ Below w.heap.size w w' := by
  unfold maxLen at hl
  by_cases h2 : 6 < n
  · clear h
    go_enter Try.func3, Try.ntmps3
    go_wp2_with (go_at_call 11; refine (heAlive_c _).mono ?_; rintro e w' ⟨rfl, F1⟩)
    go_ret
    exact ⟨rfl, F1.below⟩
  · have h3 : 100 < len := by omega
    clear h
    go_enter Try.func3, Try.ntmps3
    go_wp2_with (go_at_call 11; refine (heAlive_c _).mono ?_; rintro e w' ⟨rfl, F1⟩)
    go_ret
    exact ⟨rfl, F1.below⟩
set_option maxHeartbeats 16000000 in
set_option maxRecDepth 100000 in
theorem main (n : Int) (m : Nat) (a : Option Addr) (len cap : Nat) (N : Nat → Nat → Int) (w : World) (hn : n ≤ 6) (hn0 : -9223372036854775808 ≤ n) (hm : m = blocksOf n) (hl : len ≤ 100) (hN : IsActs w a len cap N) :
    Calls Try.prog 3 #[.int .i64 n, .slice a len cap] w fun e w' => e = .returned (.bool true) ∧ Below w.heap.size w w' := by
  have hm2 : 1 ≤ m ∧ m ≤ 6 := by
    rw [hm]; unfold blocksOf
    split
    · omega
    · rw [if_neg (by omega)]; omega
  have HN := Lib.hid hN
  have HMM := Lib.hid hm
  have CN := Lib.hid (fun w1 => rnew15_c w1 n hn hn0 m hm)
  clear hN hm
  go_enter Try.func3, Try.ntmps3
  go_wp2_with fail
  refine (heAlive_c _).mono ?_
  rintro e w0 ⟨rfl, F0⟩
  go_wp2_with fail
  refine (onew_c _ _).mono ?_
  rintro e w1 ⟨hb, b, wb, lb, rfl, H0, F1, q0, q1, q2, q3⟩
  rw [← HMM.out] at H0
  have hs0 := F0.size
  have F1 := F0.same F1
  have H0 := Lib.hid H0
  have F1 := Lib.hid F1
  go_wp2_with fail
  refine (CN.out _).mono ?_
  rintro e w2 ⟨wa, wn, wk, ma, mn, mc, tb, tc, rfl, BS, F2⟩
  have AT0 := Lib.hid (LAt.start (wa := wa) (wn := wn) (wk := wk) (ma := ma) (mn := mn) (mc := mc) (tb := tb) (tc := tc) hm2.1 hm2.2 F1.out H0.out ⟨by omega, by omega, by omega⟩ BS F2)
  obtain ⟨W0, hW0⟩ : ∃ W0, W0 = (w2.alloc (.cells #[.slice wa wn wk, .slice (some ⟨tb, 0, none⟩) (m * 16) tc, .slice ma mn mc, .int .i64 (((Ar.new m).sf : Int)), .int .i64 (((Ar.new m).st : Int)), .int .i64 (((Ar.new m).gf : Int)), .int .i64 (((Ar.new m).gt : Int)), .int .i64 (((Ar.new m).cf : Int)), .int .i64 (((Ar.new m).ct : Int)), .int .i64 (((Ar.new m).next : Int) * 16), .slice none 0 0] 34)).alloc (.cells #[] 37) := ⟨_, rfl⟩
  obtain ⟨qb, hqb⟩ : ∃ qb, qb = w2.heap.size := ⟨_, rfl⟩
  rw [← hW0, ← hqb] at AT0
  clear H0 F1 F0 hs0 q0 q1 q2 q3 BS F2 CN HMM
  generalize w1.heap.size = B at *
  go_upto_region 9 with fail
  rw [← hW0, ← hqb]
  clear hW0 hqb
  go_wp2_with fail
  go_loopw [7, 46] (fun s7 x wr => ∃ (k : Nat) (A : Ar) (O : List RO) (g c : Nat) (T : List Int), k ≤ len ∧ x = .int .i64 k ∧ s7 = .slice (some ⟨g, 0, none⟩) T.length c ∧ O.length ≤ k ∧ T.length ≤ k ∧ Hid (LAt w wr B m hb b wb lb qb A O g c T)) (fun _ x _ => len - (intOf x).toNat)
  case atStart => exact ⟨0, _, _, _, _, [], by omega, rfl, rfl, by simp, by simp, AT0⟩
  case round =>
    obtain ⟨k, A, O, g, c, T, hk, rfl, rfl, hOk, hTk, hAt⟩ := hrel
    clear AT0
    have hcc := own_cap hAt.out.tr
    have hcc1 := hcc.1
    have hcc2 : c ≤ 9223372036854775807 := by have := hcc.2; unfold maxLen at this; exact this
    clear hcc
    by_cases hlt : k < len
    · obtain ⟨hr, hw, hl1, hl2⟩ := HN.out
      have hr' := hr
      rcases hr' with hr' | ⟨ab, ao, rfl, _, _⟩
      · omega
      obtain ⟨d0, d1, d2, d3, d4, d5⟩ := act_cells hr hAt.out.fr (by simp) k hlt
      have b1 := bounds_i64 (hw k 1 hlt (by omega))
      have b2 := bounds_i64 (hw k 2 hlt (by omega))
      have b3 := bounds_i64 (hw k 3 hlt (by omega))
      have b4 := bounds_u64 (hw k 4 hlt (by omega))
      clear hr hw hl1 hl2
      generalize N k 0 = K at *
      generalize N k 1 = i at *
      generalize N k 2 = wh at *
      generalize N k 3 = I at *
      generalize N k 4 = wd at *
      obtain ⟨wb1, hwb1⟩ : ∃ wb1, wb1 = wr.alloc (.cells #[.int .i64 K, .int .i64 i, .int .i64 wh, .int .i64 I, .int .u64 wd] 39) := ⟨_, rfl⟩
      obtain ⟨pb, hpb⟩ : ∃ pb, pb = wr.heap.size := ⟨_, rfl⟩
      have GB : Hid (LAt w wb1 B m hb b wb lb qb A O g c T) := Lib.hid (by rw [hwb1]; exact hAt.out.keep ((Fr.refl [] wr).alloc _))
      have AB : Hid (blk wb1 pb = some (.cells #[.int .i64 K, .int .i64 i, .int .i64 wh, .int .i64 I, .int .u64 wd] 39 (0, 0))) := Lib.hid (by rw [hwb1, hpb, blk_alloc, if_pos rfl])
      have hlo := hAt.out.lo
      have hgB := hAt.out.gB
      obtain ⟨wa, wn, wk, tb, tc, ma, mn, mc, oa, oc, hbx⟩ := GB.out.bx
      have hqs : qb < pb := by
        obtain ⟨_, _, _, _, _, _, _, _, _, _, h1⟩ := hAt.out.bx
        have := lt_size h1.1; omega
      have BX := Lib.hid hbx
      have ABN : Hid (pb ∉ [b, wb, lb]) := Lib.hid (by simp; omega)
      have OKA := Lib.hid GB.out.rel.ok
      have WDA := Lib.hid GB.out.rel.wd
      have TLO := Lib.hid (tl_told GB.out.ts i)
      have CT := Lib.hid (told_c wb1 GB.out.tr rfl (by omega) i)
      obtain ⟨o, ho⟩ : ∃ o, o = toldF T i := ⟨_, rfl⟩
      rw [← ho] at TLO CT
      have TB := Lib.hid (TLO.out.bd GB.out.rel)
      have WB : Hid (0 ≤ wd ∧ wd < 18446744073709551616) := Lib.hid (by omega)
      have a0 := cell_of AB.out (i := 0) rfl
      have a1 := cell_of AB.out (i := 1) rfl
      clear hbx ho
      go_upto_region 11 with fail
      rw [← hwb1, ← hpb]
      clear hwb1 hpb d0 d1 d2 d3 d4
      go_upto_block 2 with (go_at_call 14; refine CT.out.mono ?_; rintro e w' ⟨rfl, rfl⟩)
      clear a0 a1 CT
      go_cut [11, 12, 13, 14, 15, 16] (fun s11 s12 s13 s14 s15 s16 wx => ∃ (A' : Ar) (O' : List RO) (x : Int) (ok : Bool) (f : Int), s11 = .int .u64 x ∧ s12 = .int .u64 x ∧ s13 = .bool ok ∧ s14 = .bool ok ∧ s15 = .int .i64 f ∧ s16 = .int .i64 f ∧ O'.length ≤ O.length + 1 ∧ Hid (LAt w wx B m hb b wb lb qb A' O' g c T) ∧ Hid (ok = true → (K = 0 ∨ K = 5) → Tl O' x) ∧ Hid (blk wx pb = some (.cells #[.int .i64 K, .int .i64 i, .int .i64 wh, .int .i64 I, .int .u64 wd] 39 (0, 0))))
      case first =>
        by_cases hK0 : K = 0
        · have kb0 : (K == 0) = true := by simpa using hK0
          have HKK := Lib.hid hK0
          have CP := Lib.hid (omake_c wb1 GB.out.he OKA.out wh I)
          obtain ⟨y, z, hyz⟩ := wordVal_form (makeF A m wh I).2
          rw [hyz] at CP
          have HYZ := Lib.hid hyz
          clear hyz
          clear hK0
          have a2 := cell_of AB.out (i := 2) rfl
          have a3 := cell_of AB.out (i := 3) rfl
          go_wp2_with fail
          refine CP.out.mono ?_
          rintro e w2 ⟨rfl, H2, F2⟩
          have AB2 := Lib.hid (F2.at AB.out ABN.out)
          have BX2 := Lib.hid (GB.out.after F2 BX.out)
          have H2 := Lib.hid H2
          have F2 := Lib.hid F2
          have hs2 : wb1.heap.size ≤ w2.heap.size := F2.out.size
          have CR := Lib.hid (rmake_c (wa := wa) (wn := wn) (wk := wk) (ma := ma) (mn := mn) (mc := mc) w2 OKA.out BX2.out.2.1 (by omega) GB.out.rel.nx BX2.out.2.2 (by omega) wh I (by omega))
          clear CP
          have p0 := cell_of BX2.out.1 (i := 0) rfl
          have p1 := cell_of BX2.out.1 (i := 1) rfl
          have p2 := cell_of BX2.out.1 (i := 2) rfl
          have p3 := cell_of BX2.out.1 (i := 3) rfl
          have p4 := cell_of BX2.out.1 (i := 4) rfl
          have p5 := cell_of BX2.out.1 (i := 5) rfl
          have p6 := cell_of BX2.out.1 (i := 6) rfl
          have p7 := cell_of BX2.out.1 (i := 7) rfl
          have p8 := cell_of BX2.out.1 (i := 8) rfl
          have p9 := cell_of BX2.out.1 (i := 9) rfl
          have p10 := cell_of BX2.out.1 (i := 10) rfl
          clear a2 a3
          have a2 := cell_of AB2.out (i := 2) rfl
          have a3 := cell_of AB2.out (i := 3) rfl
          go_wp2_with fail
          refine CR.out.mono ?_
          rintro e w3 ⟨tb', tc', oa', oc', Ad, O', y', z', rfl, BS3, OS3, F3, HS⟩
          obtain ⟨hwv, hsh, hstp, htl⟩ := GB.out.rel.make HS
          rw [HYZ.out] at hwv
          obtain ⟨rfl, rfl⟩ : y = y' ∧ z = z' := by simpa using hwv
          have HFAR := Lib.hid (GB.out.far.make HS (by have := GB.out.gB; omega))
          have TL := Lib.hid htl
          clear hwv htl HYZ
          have BS3 := Lib.hid BS3
          have OS3 := Lib.hid OS3
          have SH := Lib.hid hsh
          have STP := Lib.hid hstp
          have HLN : Hid (O'.length ≤ O.length + 1) := Lib.hid hstp.2.2
          have PB3 := Lib.hid (F3.at BX2.out.1 (by simp))
          have AB3 := Lib.hid (F3.at AB2.out (by simp))
          have F3 := Lib.hid F3
          clear CR HS hsh hstp AB2
          clear p0 p1 p2 p3 p4 p5 p6 p7 p8 p9 p10
          have p0 := cell_of PB3.out (i := 0) rfl
          have p1 := cell_of PB3.out (i := 1) rfl
          have p2 := cell_of PB3.out (i := 2) rfl
          have p3 := cell_of PB3.out (i := 3) rfl
          have p4 := cell_of PB3.out (i := 4) rfl
          have p5 := cell_of PB3.out (i := 5) rfl
          have p6 := cell_of PB3.out (i := 6) rfl
          have p7 := cell_of PB3.out (i := 7) rfl
          have p8 := cell_of PB3.out (i := 8) rfl
          have p9 := cell_of PB3.out (i := 9) rfl
          have p10 := cell_of PB3.out (i := 10) rfl
          have pf0 := free_of PB3.out (i := 0)
          have pf1 := free_of PB3.out (i := 1)
          have pf2 := free_of PB3.out (i := 2)
          have pf3 := free_of PB3.out (i := 3)
          have pf4 := free_of PB3.out (i := 4)
          have pf5 := free_of PB3.out (i := 5)
          have pf6 := free_of PB3.out (i := 6)
          have pf7 := free_of PB3.out (i := 7)
          have pf8 := free_of PB3.out (i := 8)
          have pf9 := free_of PB3.out (i := 9)
          have pf10 := free_of PB3.out (i := 10)
          clear a2 a3
          go_wp2_with fail
          go_meet
          exact ⟨_, O', y, z, 0, rfl, rfl, rfl, rfl, rfl, rfl, HLN.out, Lib.hid (GB.out.next H2.out F2.out F3.out BS3.out OS3.out SH.out STP.out HFAR.out (blk11 PB3.out) (fr11 (Fr.refl [qb] w3) (.inl (by simp)))), Lib.hid (fun h _ => TL.out h), Lib.hid ((fr11 (Fr.refl [qb] w3) (.inl (by simp))).at AB3.out (by simp; omega))⟩
        by_cases hK1 : K = 1
        · have kb0 : (K == 0) = false := by simpa using hK0
          have kb1 : (K == 1) = true := by simpa using hK1
          have HKK := Lib.hid hK1
          have CP := Lib.hid (oget_c wb1 GB.out.he OKA.out WDA.out o I TB.out.1 TB.out.2 (by omega))
          rw [GB.out.rel.get TLO.out I] at CP
          obtain ⟨y, hy⟩ : ∃ y, y = (getR O o I).1 := ⟨_, rfl⟩
          obtain ⟨f, hf⟩ : ∃ f, f = (getR O o I).2 := ⟨_, rfl⟩
          rw [← hy, ← hf] at CP
          clear hK0 hK1
          have a3 := cell_of AB.out (i := 3) rfl
          go_wp2_with fail
          refine CP.out.mono ?_
          rintro e w2 ⟨rfl, F2⟩
          have L2 := Lib.hid (GB.out.keep F2)
          have AB2 := Lib.hid (F2.at AB.out (by simp))
          have BX2 := Lib.hid (show BxAt w2 B m qb A O wa wn wk tb tc ma mn mc oa oc from ⟨F2.at BX.out.1 (by simp), BX.out.2.1.keep F2, BX.out.2.2.keep F2⟩)
          have CR := Lib.hid (rget_c (wa := wa) (wn := wn) (wk := wk) (ma := ma) (mn := mn) (mc := mc) (ta := some ⟨tb, 0, none⟩) (tn := m * 16) (tc := tc) (sf := A.sf) (st := A.st) (gf := A.gf) (gt := A.gt) (cf := A.cf) (ct := A.ct) (nx := (A.next : Int) * 16) w2 BX2.out.2.2 (by omega) GB.out.oa o I)
          rw [← hy, ← hf] at CR
          clear hy hf CP F2
          have p0 := cell_of BX2.out.1 (i := 0) rfl
          have p1 := cell_of BX2.out.1 (i := 1) rfl
          have p2 := cell_of BX2.out.1 (i := 2) rfl
          have p3 := cell_of BX2.out.1 (i := 3) rfl
          have p4 := cell_of BX2.out.1 (i := 4) rfl
          have p5 := cell_of BX2.out.1 (i := 5) rfl
          have p6 := cell_of BX2.out.1 (i := 6) rfl
          have p7 := cell_of BX2.out.1 (i := 7) rfl
          have p8 := cell_of BX2.out.1 (i := 8) rfl
          have p9 := cell_of BX2.out.1 (i := 9) rfl
          have p10 := cell_of BX2.out.1 (i := 10) rfl
          clear a3
          have a3 := cell_of AB2.out (i := 3) rfl
          go_wp2_with fail
          refine CR.out.mono ?_
          rintro e w3 ⟨rfl, F3⟩
          have L3 := Lib.hid (L2.out.keep F3)
          have AB3 := Lib.hid (F3.at AB2.out (by simp))
          clear CR F3 L2 AB2
          go_wp2_with fail
          go_meet
          exact ⟨A, O, y, false, f, rfl, rfl, rfl, rfl, rfl, rfl, by omega, L3, Lib.hid (fun h => by simp at h), AB3⟩
        by_cases hK2 : K = 2
        · have kb0 : (K == 0) = false := by simpa using hK0
          have kb1 : (K == 1) = false := by simpa using hK1
          have kb2 : (K == 2) = true := by simpa using hK2
          have HKK := Lib.hid hK2
          have CP := Lib.hid (oset_c wb1 GB.out.he OKA.out WDA.out o I wd TB.out.1 TB.out.2 (by omega))
          obtain ⟨y, hy⟩ : ∃ y, y = (setF A m o I wd).2 := ⟨_, rfl⟩
          rw [← hy] at CP
          have HY := Lib.hid hy
          clear hy
          clear hK0 hK1 hK2
          have a3 := cell_of AB.out (i := 3) rfl
          have a4 := cell_of AB.out (i := 4) rfl
          go_wp2_with fail
          refine CP.out.mono ?_
          rintro e w2 ⟨rfl, H2, F2⟩
          have AB2 := Lib.hid (F2.at AB.out ABN.out)
          have BX2 := Lib.hid (GB.out.after F2 BX.out)
          have H2 := Lib.hid H2
          have F2 := Lib.hid F2
          have hs2 : wb1.heap.size ≤ w2.heap.size := F2.out.size
          have CR := Lib.hid (rset_c (wa := wa) (wn := wn) (wk := wk) (ma := ma) (mn := mn) (mc := mc) (ta := some ⟨tb, 0, none⟩) (tn := m * 16) (tc := tc) (sf := A.sf) (st := A.st) (gf := A.gf) (gt := A.gt) (cf := A.cf) (ct := A.ct) (nx := (A.next : Int) * 16) w2 (Nat.le_trans GB.out.sz hs2) BX2.out.2.2 (by omega) GB.out.oa GB.out.of o I wd)
          clear CP
          have p0 := cell_of BX2.out.1 (i := 0) rfl
          have p1 := cell_of BX2.out.1 (i := 1) rfl
          have p2 := cell_of BX2.out.1 (i := 2) rfl
          have p3 := cell_of BX2.out.1 (i := 3) rfl
          have p4 := cell_of BX2.out.1 (i := 4) rfl
          have p5 := cell_of BX2.out.1 (i := 5) rfl
          have p6 := cell_of BX2.out.1 (i := 6) rfl
          have p7 := cell_of BX2.out.1 (i := 7) rfl
          have p8 := cell_of BX2.out.1 (i := 8) rfl
          have p9 := cell_of BX2.out.1 (i := 9) rfl
          have p10 := cell_of BX2.out.1 (i := 10) rfl
          clear a3 a4
          have a3 := cell_of AB2.out (i := 3) rfl
          have a4 := cell_of AB2.out (i := 4) rfl
          go_wp2_with fail
          refine CR.out.mono ?_
          rintro e w3 ⟨oa', oc', O', f, rfl, OS3, F3, HS⟩
          obtain ⟨hze, hstp⟩ := GB.out.rel.set TLO.out WB.out.1 WB.out.2 HS
          rw [← HY.out] at hze
          subst hze
          have hsh := sh_setF A m o I wd
          have HFAR := Lib.hid (GB.out.far.set HS (by have := GB.out.gB; omega))
          clear HY
          have BS3 := Lib.hid (BX2.out.2.1.keep F3)
          have OS3 := Lib.hid OS3
          have SH := Lib.hid hsh
          have STP := Lib.hid hstp
          have HLN : Hid (O'.length ≤ O.length + 1) := Lib.hid hstp.2.2
          have PB3 := Lib.hid (F3.at BX2.out.1 (by simp))
          have AB3 := Lib.hid (F3.at AB2.out (by simp))
          have F3 := Lib.hid F3
          clear CR HS hsh hstp AB2
          clear p0 p1 p2 p3 p4 p5 p6 p7 p8 p9 p10
          have p0 := cell_of PB3.out (i := 0) rfl
          have p1 := cell_of PB3.out (i := 1) rfl
          have p2 := cell_of PB3.out (i := 2) rfl
          have p3 := cell_of PB3.out (i := 3) rfl
          have p4 := cell_of PB3.out (i := 4) rfl
          have p5 := cell_of PB3.out (i := 5) rfl
          have p6 := cell_of PB3.out (i := 6) rfl
          have p7 := cell_of PB3.out (i := 7) rfl
          have p8 := cell_of PB3.out (i := 8) rfl
          have p9 := cell_of PB3.out (i := 9) rfl
          have p10 := cell_of PB3.out (i := 10) rfl
          have pf0 := free_of PB3.out (i := 0)
          have pf1 := free_of PB3.out (i := 1)
          have pf2 := free_of PB3.out (i := 2)
          have pf3 := free_of PB3.out (i := 3)
          have pf4 := free_of PB3.out (i := 4)
          have pf5 := free_of PB3.out (i := 5)
          have pf6 := free_of PB3.out (i := 6)
          have pf7 := free_of PB3.out (i := 7)
          have pf8 := free_of PB3.out (i := 8)
          have pf9 := free_of PB3.out (i := 9)
          have pf10 := free_of PB3.out (i := 10)
          clear a3 a4
          go_wp2_with fail
          go_meet
          exact ⟨_, O', 0, false, f, rfl, rfl, rfl, rfl, rfl, rfl, HLN.out, Lib.hid (GB.out.next H2.out F2.out F3.out BS3.out OS3.out SH.out STP.out HFAR.out (blk11 PB3.out) (fr11 (Fr.refl [qb] w3) (.inl (by simp)))), Lib.hid (fun h => by simp at h), Lib.hid ((fr11 (Fr.refl [qb] w3) (.inl (by simp))).at AB3.out (by simp; omega))⟩
        by_cases hK3 : K = 3
        · have kb0 : (K == 0) = false := by simpa using hK0
          have kb1 : (K == 1) = false := by simpa using hK1
          have kb2 : (K == 2) = false := by simpa using hK2
          have kb3 : (K == 3) = true := by simpa using hK3
          have HKK := Lib.hid hK3
          have CP := Lib.hid (opin_c wb1 GB.out.he OKA.out WDA.out o TB.out.1 TB.out.2)
          obtain ⟨z, hz⟩ : ∃ z, z = (pinsF A m o 1).2 := ⟨_, rfl⟩
          rw [← hz] at CP
          have HZ := Lib.hid hz
          clear hz
          clear hK0 hK1 hK2 hK3
          go_wp2_with fail
          refine CP.out.mono ?_
          rintro e w2 ⟨rfl, H2, F2⟩
          have AB2 := Lib.hid (F2.at AB.out ABN.out)
          have BX2 := Lib.hid (GB.out.after F2 BX.out)
          have H2 := Lib.hid H2
          have F2 := Lib.hid F2
          have hs2 : wb1.heap.size ≤ w2.heap.size := F2.out.size
          have CR := Lib.hid (rpin_c (wa := wa) (wn := wn) (wk := wk) (ma := ma) (mn := mn) (mc := mc) (ta := some ⟨tb, 0, none⟩) (tn := m * 16) (tc := tc) (sf := A.sf) (st := A.st) (gf := A.gf) (gt := A.gt) (cf := A.cf) (ct := A.ct) (nx := (A.next : Int) * 16) w2 (Nat.le_trans GB.out.sz hs2) BX2.out.2.2 (by omega) GB.out.oa GB.out.op o 1 (by omega))
          clear CP
          have p0 := cell_of BX2.out.1 (i := 0) rfl
          have p1 := cell_of BX2.out.1 (i := 1) rfl
          have p2 := cell_of BX2.out.1 (i := 2) rfl
          have p3 := cell_of BX2.out.1 (i := 3) rfl
          have p4 := cell_of BX2.out.1 (i := 4) rfl
          have p5 := cell_of BX2.out.1 (i := 5) rfl
          have p6 := cell_of BX2.out.1 (i := 6) rfl
          have p7 := cell_of BX2.out.1 (i := 7) rfl
          have p8 := cell_of BX2.out.1 (i := 8) rfl
          have p9 := cell_of BX2.out.1 (i := 9) rfl
          have p10 := cell_of BX2.out.1 (i := 10) rfl
          go_wp2_with fail
          refine CR.out.mono ?_
          rintro e w3 ⟨oa', oc', O', z', rfl, OS3, F3, HS⟩
          obtain ⟨hze, hstp⟩ := GB.out.rel.pin TLO.out HS
          rw [← HZ.out] at hze
          subst hze
          have hsh := sh_pinsF A m o 1
          have HFAR := Lib.hid (GB.out.far.pin HS)
          clear HZ
          have BS3 := Lib.hid (BX2.out.2.1.keep F3)
          have OS3 := Lib.hid OS3
          have SH := Lib.hid hsh
          have STP := Lib.hid hstp
          have HLN : Hid (O'.length ≤ O.length + 1) := Lib.hid hstp.2.2
          have PB3 := Lib.hid (F3.at BX2.out.1 (by simp))
          have AB3 := Lib.hid (F3.at AB2.out (by simp))
          have F3 := Lib.hid F3
          clear CR HS hsh hstp AB2
          clear p0 p1 p2 p3 p4 p5 p6 p7 p8 p9 p10
          have p0 := cell_of PB3.out (i := 0) rfl
          have p1 := cell_of PB3.out (i := 1) rfl
          have p2 := cell_of PB3.out (i := 2) rfl
          have p3 := cell_of PB3.out (i := 3) rfl
          have p4 := cell_of PB3.out (i := 4) rfl
          have p5 := cell_of PB3.out (i := 5) rfl
          have p6 := cell_of PB3.out (i := 6) rfl
          have p7 := cell_of PB3.out (i := 7) rfl
          have p8 := cell_of PB3.out (i := 8) rfl
          have p9 := cell_of PB3.out (i := 9) rfl
          have p10 := cell_of PB3.out (i := 10) rfl
          have pf0 := free_of PB3.out (i := 0)
          have pf1 := free_of PB3.out (i := 1)
          have pf2 := free_of PB3.out (i := 2)
          have pf3 := free_of PB3.out (i := 3)
          have pf4 := free_of PB3.out (i := 4)
          have pf5 := free_of PB3.out (i := 5)
          have pf6 := free_of PB3.out (i := 6)
          have pf7 := free_of PB3.out (i := 7)
          have pf8 := free_of PB3.out (i := 8)
          have pf9 := free_of PB3.out (i := 9)
          have pf10 := free_of PB3.out (i := 10)
          go_wp2_with fail
          go_meet
          exact ⟨_, O', 0, z', 0, rfl, rfl, rfl, rfl, rfl, rfl, HLN.out, Lib.hid (GB.out.next H2.out F2.out F3.out BS3.out OS3.out SH.out STP.out HFAR.out (blk11 PB3.out) (fr11 (Fr.refl [qb] w3) (.inl (by simp)))), Lib.hid (fun _ h => by have := HKK.out; omega), Lib.hid ((fr11 (Fr.refl [qb] w3) (.inl (by simp))).at AB3.out (by simp; omega))⟩
        by_cases hK4 : K = 4
        · have kb0 : (K == 0) = false := by simpa using hK0
          have kb1 : (K == 1) = false := by simpa using hK1
          have kb2 : (K == 2) = false := by simpa using hK2
          have kb3 : (K == 3) = false := by simpa using hK3
          have kb4 : (K == 4) = true := by simpa using hK4
          have HKK := Lib.hid hK4
          have CP := Lib.hid (ounpin_c wb1 GB.out.he OKA.out WDA.out o TB.out.1 TB.out.2)
          obtain ⟨z, hz⟩ : ∃ z, z = (pinsF A m o (-1)).2 := ⟨_, rfl⟩
          rw [← hz] at CP
          have HZ := Lib.hid hz
          clear hz
          clear hK0 hK1 hK2 hK3 hK4
          go_wp2_with fail
          refine CP.out.mono ?_
          rintro e w2 ⟨rfl, H2, F2⟩
          have AB2 := Lib.hid (F2.at AB.out ABN.out)
          have BX2 := Lib.hid (GB.out.after F2 BX.out)
          have H2 := Lib.hid H2
          have F2 := Lib.hid F2
          have hs2 : wb1.heap.size ≤ w2.heap.size := F2.out.size
          have CR := Lib.hid (rpin_c (wa := wa) (wn := wn) (wk := wk) (ma := ma) (mn := mn) (mc := mc) (ta := some ⟨tb, 0, none⟩) (tn := m * 16) (tc := tc) (sf := A.sf) (st := A.st) (gf := A.gf) (gt := A.gt) (cf := A.cf) (ct := A.ct) (nx := (A.next : Int) * 16) w2 (Nat.le_trans GB.out.sz hs2) BX2.out.2.2 (by omega) GB.out.oa GB.out.op o (-1) (by omega))
          clear CP
          have p0 := cell_of BX2.out.1 (i := 0) rfl
          have p1 := cell_of BX2.out.1 (i := 1) rfl
          have p2 := cell_of BX2.out.1 (i := 2) rfl
          have p3 := cell_of BX2.out.1 (i := 3) rfl
          have p4 := cell_of BX2.out.1 (i := 4) rfl
          have p5 := cell_of BX2.out.1 (i := 5) rfl
          have p6 := cell_of BX2.out.1 (i := 6) rfl
          have p7 := cell_of BX2.out.1 (i := 7) rfl
          have p8 := cell_of BX2.out.1 (i := 8) rfl
          have p9 := cell_of BX2.out.1 (i := 9) rfl
          have p10 := cell_of BX2.out.1 (i := 10) rfl
          go_wp2_with fail
          refine CR.out.mono ?_
          rintro e w3 ⟨oa', oc', O', z', rfl, OS3, F3, HS⟩
          obtain ⟨hze, hstp⟩ := GB.out.rel.pin TLO.out HS
          rw [← HZ.out] at hze
          subst hze
          have hsh := sh_pinsF A m o (-1)
          have HFAR := Lib.hid (GB.out.far.pin HS)
          clear HZ
          have BS3 := Lib.hid (BX2.out.2.1.keep F3)
          have OS3 := Lib.hid OS3
          have SH := Lib.hid hsh
          have STP := Lib.hid hstp
          have HLN : Hid (O'.length ≤ O.length + 1) := Lib.hid hstp.2.2
          have PB3 := Lib.hid (F3.at BX2.out.1 (by simp))
          have AB3 := Lib.hid (F3.at AB2.out (by simp))
          have F3 := Lib.hid F3
          clear CR HS hsh hstp AB2
          clear p0 p1 p2 p3 p4 p5 p6 p7 p8 p9 p10
          have p0 := cell_of PB3.out (i := 0) rfl
          have p1 := cell_of PB3.out (i := 1) rfl
          have p2 := cell_of PB3.out (i := 2) rfl
          have p3 := cell_of PB3.out (i := 3) rfl
          have p4 := cell_of PB3.out (i := 4) rfl
          have p5 := cell_of PB3.out (i := 5) rfl
          have p6 := cell_of PB3.out (i := 6) rfl
          have p7 := cell_of PB3.out (i := 7) rfl
          have p8 := cell_of PB3.out (i := 8) rfl
          have p9 := cell_of PB3.out (i := 9) rfl
          have p10 := cell_of PB3.out (i := 10) rfl
          have pf0 := free_of PB3.out (i := 0)
          have pf1 := free_of PB3.out (i := 1)
          have pf2 := free_of PB3.out (i := 2)
          have pf3 := free_of PB3.out (i := 3)
          have pf4 := free_of PB3.out (i := 4)
          have pf5 := free_of PB3.out (i := 5)
          have pf6 := free_of PB3.out (i := 6)
          have pf7 := free_of PB3.out (i := 7)
          have pf8 := free_of PB3.out (i := 8)
          have pf9 := free_of PB3.out (i := 9)
          have pf10 := free_of PB3.out (i := 10)
          go_wp2_with fail
          go_meet
          exact ⟨_, O', 0, z', 0, rfl, rfl, rfl, rfl, rfl, rfl, HLN.out, Lib.hid (GB.out.next H2.out F2.out F3.out BS3.out OS3.out SH.out STP.out HFAR.out (blk11 PB3.out) (fr11 (Fr.refl [qb] w3) (.inl (by simp)))), Lib.hid (fun _ h => by have := HKK.out; omega), Lib.hid ((fr11 (Fr.refl [qb] w3) (.inl (by simp))).at AB3.out (by simp; omega))⟩
        by_cases hK5 : K = 5
        · have kb0 : (K == 0) = false := by simpa using hK0
          have kb1 : (K == 1) = false := by simpa using hK1
          have kb2 : (K == 2) = false := by simpa using hK2
          have kb3 : (K == 3) = false := by simpa using hK3
          have kb4 : (K == 4) = false := by simpa using hK4
          have kb5 : (K == 5) = true := by simpa using hK5
          have HKK := Lib.hid hK5
          have CP := Lib.hid (omove_c wb1 GB.out.he OKA.out WDA.out o TB.out.1 TB.out.2)
          obtain ⟨y, z, hyz⟩ := wordVal_form (moveF A m o).2
          rw [hyz] at CP
          have HYZ := Lib.hid hyz
          clear hyz
          clear hK0 hK1 hK2 hK3 hK4 hK5
          go_wp2_with fail
          refine CP.out.mono ?_
          rintro e w2 ⟨rfl, H2, F2⟩
          have AB2 := Lib.hid (F2.at AB.out ABN.out)
          have BX2 := Lib.hid (GB.out.after F2 BX.out)
          have H2 := Lib.hid H2
          have F2 := Lib.hid F2
          have hs2 : wb1.heap.size ≤ w2.heap.size := F2.out.size
          have CR := Lib.hid (rmove_c (wa := wa) (wn := wn) (wk := wk) (ma := ma) (mn := mn) (mc := mc) w2 OKA.out BX2.out.2.1 (by omega) BX2.out.2.2 (by omega) GB.out.oa GB.out.of GB.out.op o)
          clear CP
          have p0 := cell_of BX2.out.1 (i := 0) rfl
          have p1 := cell_of BX2.out.1 (i := 1) rfl
          have p2 := cell_of BX2.out.1 (i := 2) rfl
          have p3 := cell_of BX2.out.1 (i := 3) rfl
          have p4 := cell_of BX2.out.1 (i := 4) rfl
          have p5 := cell_of BX2.out.1 (i := 5) rfl
          have p6 := cell_of BX2.out.1 (i := 6) rfl
          have p7 := cell_of BX2.out.1 (i := 7) rfl
          have p8 := cell_of BX2.out.1 (i := 8) rfl
          have p9 := cell_of BX2.out.1 (i := 9) rfl
          have p10 := cell_of BX2.out.1 (i := 10) rfl
          go_wp2_with fail
          refine CR.out.mono ?_
          rintro e w3 ⟨tb', tc', oa', oc', Ad, O', y', z', rfl, BS3, OS3, F3, HS⟩
          obtain ⟨hwv, hsh, hstp, htl⟩ := GB.out.rel.move TLO.out HS
          rw [HYZ.out] at hwv
          obtain ⟨rfl, rfl⟩ : y = y' ∧ z = z' := by simpa using hwv
          have HFAR := Lib.hid (GB.out.far.move HS)
          have TL := Lib.hid htl
          clear hwv htl HYZ
          have BS3 := Lib.hid BS3
          have OS3 := Lib.hid OS3
          have SH := Lib.hid hsh
          have STP := Lib.hid hstp
          have HLN : Hid (O'.length ≤ O.length + 1) := Lib.hid hstp.2.2
          have PB3 := Lib.hid (F3.at BX2.out.1 (by simp))
          have AB3 := Lib.hid (F3.at AB2.out (by simp))
          have F3 := Lib.hid F3
          clear CR HS hsh hstp AB2
          clear p0 p1 p2 p3 p4 p5 p6 p7 p8 p9 p10
          have p0 := cell_of PB3.out (i := 0) rfl
          have p1 := cell_of PB3.out (i := 1) rfl
          have p2 := cell_of PB3.out (i := 2) rfl
          have p3 := cell_of PB3.out (i := 3) rfl
          have p4 := cell_of PB3.out (i := 4) rfl
          have p5 := cell_of PB3.out (i := 5) rfl
          have p6 := cell_of PB3.out (i := 6) rfl
          have p7 := cell_of PB3.out (i := 7) rfl
          have p8 := cell_of PB3.out (i := 8) rfl
          have p9 := cell_of PB3.out (i := 9) rfl
          have p10 := cell_of PB3.out (i := 10) rfl
          have pf0 := free_of PB3.out (i := 0)
          have pf1 := free_of PB3.out (i := 1)
          have pf2 := free_of PB3.out (i := 2)
          have pf3 := free_of PB3.out (i := 3)
          have pf4 := free_of PB3.out (i := 4)
          have pf5 := free_of PB3.out (i := 5)
          have pf6 := free_of PB3.out (i := 6)
          have pf7 := free_of PB3.out (i := 7)
          have pf8 := free_of PB3.out (i := 8)
          have pf9 := free_of PB3.out (i := 9)
          have pf10 := free_of PB3.out (i := 10)
          go_wp2_with fail
          go_meet
          exact ⟨_, O', y, z, 0, rfl, rfl, rfl, rfl, rfl, rfl, HLN.out, Lib.hid (GB.out.next H2.out F2.out F3.out BS3.out OS3.out SH.out STP.out HFAR.out (blk11 PB3.out) (fr11 (Fr.refl [qb] w3) (.inl (by simp)))), Lib.hid (fun h _ => TL.out h), Lib.hid ((fr11 (Fr.refl [qb] w3) (.inl (by simp))).at AB3.out (by simp; omega))⟩
        have kb0 : (K == 0) = false := by simpa using hK0
        have kb1 : (K == 1) = false := by simpa using hK1
        have kb2 : (K == 2) = false := by simpa using hK2
        have kb3 : (K == 3) = false := by simpa using hK3
        have kb4 : (K == 4) = false := by simpa using hK4
        have kb5 : (K == 5) = false := by simpa using hK5
        clear hK0 hK1 hK2 hK3 hK4 hK5
        go_wp2_with fail
        go_meet
        exact ⟨A, O, 0, false, 0, rfl, rfl, rfl, rfl, rfl, rfl, by omega, GB, Lib.hid (fun h => by simp at h), AB⟩
      case rest =>
        obtain ⟨A', O', x, ok, f, rfl, rfl, rfl, rfl, rfl, rfl, hO', LX0, HT, AX⟩ := hcut
        have a0 := cell_of AX.out (i := 0) rfl
        have hx0 : (x != x) = false := by simp
        have hx1 : (ok != ok) = false := by simp
        have hx2 : (f != f) = false := by simp
        obtain ⟨i0, hi, hz0, hz1, hz2⟩ := info_parts info_word14
        have II := Lib.hid hi
        have Z0 := Lib.hid hz0
        have Z1 := Lib.hid hz1
        have Z2 := Lib.hid hz2
        clear hi hz0 hz1 hz2 GB AB BX ABN OKA WDA TLO TB WB hAt b1 b2 b3 b4
        cases ok with
        | false =>
          go_wp2_with fail
          go_roundw
          case rel => exact ⟨k + 1, A', O', g, c, T, by omega, by go_num, rfl, by omega, by omega, LX0⟩
          case measure => simp [intOf]; omega
        | true =>
          by_cases hK0 : K = 0
          · have kb0 : (K == 0) = true := by simpa using hK0
            have TX : Hid (Tl O' x) := Lib.hid (HT.out rfl (by omega))
            have LX := Lib.hid (LX0.out.keep ((Fr.refl [] wc).alloc (.cells #[.int .u64 x] 37)))
            have OW := Lib.hid LX.out.tr
            have SZ : Hid (B ≤ (wc.alloc (.cells #[.int .u64 x] 37)).heap.size) := Lib.hid LX.out.sz
            clear hK0
            go_wp2_with (at_builtin; refine wpList_app _ rfl _ _ _ rfl B 37 i0 (.int .u64 0) 1 8 Try.underlying26 II.out Z0.out Z1.out Z2.out rfl (by decide) g c T.length (T.map (Value.int .u64)) rfl OW.out ⟨wc.heap.size, 0, none⟩ 1 1 [.int .u64 x] rfl rfl (World.news_of_block (show blk (World.alloc _ _) _ = _ from by rw [blk_alloc, if_pos rfl])) (by simp [Value.oneCell']) (by unfold maxLen; omega) (by omega) SZ.out ?_; intro g1 c1 w5 own5 fr5 at5; have L5 := Lib.hid (LX.out.app TX.out own5 fr5 at5); clear own5 fr5 at5)
            go_roundw
            case rel => exact ⟨k + 1, A', O', g1, c1, T ++ [x], by omega, by go_num, by simp, by omega, by simp; omega, L5⟩
            case measure => simp [intOf]; omega
          by_cases hK5 : K = 5
          · have kb0 : (K == 0) = false := by simpa using hK0
            have kb5 : (K == 5) = true := by simpa using hK5
            have TX : Hid (Tl O' x) := Lib.hid (HT.out rfl (by omega))
            have LX := Lib.hid (LX0.out.keep ((Fr.refl [] wc).alloc (.cells #[.int .u64 x] 37)))
            have OW := Lib.hid LX.out.tr
            have SZ : Hid (B ≤ (wc.alloc (.cells #[.int .u64 x] 37)).heap.size) := Lib.hid LX.out.sz
            clear hK0 hK5
            go_wp2_with (at_builtin; refine wpList_app _ rfl _ _ _ rfl B 37 i0 (.int .u64 0) 1 8 Try.underlying26 II.out Z0.out Z1.out Z2.out rfl (by decide) g c T.length (T.map (Value.int .u64)) rfl OW.out ⟨wc.heap.size, 0, none⟩ 1 1 [.int .u64 x] rfl rfl (World.news_of_block (show blk (World.alloc _ _) _ = _ from by rw [blk_alloc, if_pos rfl])) (by simp [Value.oneCell']) (by unfold maxLen; omega) (by omega) SZ.out ?_; intro g1 c1 w5 own5 fr5 at5; have L5 := Lib.hid (LX.out.app TX.out own5 fr5 at5); clear own5 fr5 at5)
            go_roundw
            case rel => exact ⟨k + 1, A', O', g1, c1, T ++ [x], by omega, by go_num, by simp, by omega, by simp; omega, L5⟩
            case measure => simp [intOf]; omega
          have kb0 : (K == 0) = false := by simpa using hK0
          have kb5 : (K == 5) = false := by simpa using hK5
          go_wp2_with fail
          go_roundw
          case rel => exact ⟨k + 1, A', O', g, c, T, by omega, by go_num, rfl, by omega, by omega, LX0⟩
          case measure => simp [intOf]; omega
    · as_aux_lemma =>
        have hke : k = len := by omega
        have hT100 : T.length ≤ 100 := by omega
        have hO100 : O.length ≤ 100 := by omega
        subst hke
        clear hlt hOk hTk hk
        go_wp2_with fail
        go_loopw [182] (fun u wr2 => ∃ j : Nat, j ≤ T.length ∧ u = .int .i64 (j : Int) ∧ Hid (LAt w wr2 B m hb b wb lb qb A O g c T)) (fun u _ => T.length - (intOf u).toNat)
        case atStart => exact ⟨0, by omega, rfl, hAt⟩
        case round =>
          obtain ⟨j, hj, rfl, hL⟩ := hrel
          clear hAt
          obtain ⟨wr2, rfl⟩ : ∃ wr2 : World, wr2 = wr := ⟨_, rfl⟩
          obtain ⟨wa, wn, wk, tb, tc, ma, mn, mc, oa, oc, hbx⟩ := hL.out.bx
          have BX := Lib.hid hbx
          have OKA := Lib.hid hL.out.rel.ok
          have WDA := Lib.hid hL.out.rel.wd
          have KEEP : Hid (∀ W, Fr [] wr2 W → W.cell? ⟨qb, 0, none⟩ = some (.slice wa wn wk) ∧ W.cell? ⟨qb, 1, none⟩ = some (.slice (some ⟨tb, 0, none⟩) (m * 16) tc) ∧ W.cell? ⟨qb, 2, none⟩ = some (.slice ma mn mc) ∧ W.cell? ⟨qb, 3, none⟩ = some (.int .i64 ((A.sf : Int))) ∧ W.cell? ⟨qb, 4, none⟩ = some (.int .i64 ((A.st : Int))) ∧ W.cell? ⟨qb, 5, none⟩ = some (.int .i64 ((A.gf : Int))) ∧ W.cell? ⟨qb, 6, none⟩ = some (.int .i64 ((A.gt : Int))) ∧ W.cell? ⟨qb, 7, none⟩ = some (.int .i64 ((A.cf : Int))) ∧ W.cell? ⟨qb, 8, none⟩ = some (.int .i64 ((A.ct : Int))) ∧ W.cell? ⟨qb, 9, none⟩ = some (.int .i64 ((A.next : Int) * 16)) ∧ W.cell? ⟨qb, 10, none⟩ = some (.slice oa O.length oc)) := Lib.hid (fun W hF => ⟨cell_of (hF.at BX.out.1 (by simp)) (i := 0) rfl, cell_of (hF.at BX.out.1 (by simp)) (i := 1) rfl, cell_of (hF.at BX.out.1 (by simp)) (i := 2) rfl, cell_of (hF.at BX.out.1 (by simp)) (i := 3) rfl, cell_of (hF.at BX.out.1 (by simp)) (i := 4) rfl, cell_of (hF.at BX.out.1 (by simp)) (i := 5) rfl, cell_of (hF.at BX.out.1 (by simp)) (i := 6) rfl, cell_of (hF.at BX.out.1 (by simp)) (i := 7) rfl, cell_of (hF.at BX.out.1 (by simp)) (i := 8) rfl, cell_of (hF.at BX.out.1 (by simp)) (i := 9) rfl, cell_of (hF.at BX.out.1 (by simp)) (i := 10) rfl⟩)
          have KEEPA : Hid (∀ W, Fr [] wr2 W → W.cell? ⟨qb, 0, none⟩ = some (.slice wa wn wk) ∧ W.cell? ⟨qb, 1, none⟩ = some (.slice (some ⟨tb, 0, none⟩) (m * 16) tc) ∧ W.cell? ⟨qb, 2, none⟩ = some (.slice ma mn mc) ∧ W.cell? ⟨qb, 3, none⟩ = some (.int .i64 ((A.sf : Int))) ∧ W.cell? ⟨qb, 4, none⟩ = some (.int .i64 ((A.st : Int))) ∧ W.cell? ⟨qb, 5, none⟩ = some (.int .i64 ((A.gf : Int))) ∧ W.cell? ⟨qb, 6, none⟩ = some (.int .i64 ((A.gt : Int))) ∧ W.cell? ⟨qb, 7, none⟩ = some (.int .i64 ((A.cf : Int))) ∧ W.cell? ⟨qb, 8, none⟩ = some (.int .i64 ((A.ct : Int))) ∧ W.cell? ⟨qb, 9, none⟩ = some (.int .i64 ((A.next : Int) * 16))) := Lib.hid (fun W hF => ⟨cell_of (hF.at BX.out.1 (by simp)) (i := 0) rfl, cell_of (hF.at BX.out.1 (by simp)) (i := 1) rfl, cell_of (hF.at BX.out.1 (by simp)) (i := 2) rfl, cell_of (hF.at BX.out.1 (by simp)) (i := 3) rfl, cell_of (hF.at BX.out.1 (by simp)) (i := 4) rfl, cell_of (hF.at BX.out.1 (by simp)) (i := 5) rfl, cell_of (hF.at BX.out.1 (by simp)) (i := 6) rfl, cell_of (hF.at BX.out.1 (by simp)) (i := 7) rfl, cell_of (hF.at BX.out.1 (by simp)) (i := 8) rfl, cell_of (hF.at BX.out.1 (by simp)) (i := 9) rfl⟩)
          clear hbx
          by_cases hjl : j < T.length
          · obtain ⟨x, hx⟩ : ∃ x, T[j]? = some x := ⟨_, List.getElem?_eq_getElem hjl⟩
            have TLX := Lib.hid (hL.out.ts x (List.mem_of_getElem? hx))
            have TB := Lib.hid (TLX.out.bd hL.out.rel)
            have dT := own_cell hL.out.tr (i := j) (u := .int .u64 x) (by rw [List.getElem?_map, hx]; rfl)
            obtain ⟨hk1, hk2, hk3⟩ := hL.out.rel.kind TLX.out
            have hmv := hL.out.rel.moved TLX.out
            have CRK := Lib.hid (fun w1 (hF : Fr [] wr2 w1) => rkind_c (wa := wa) (wn := wn) (wk := wk) (ma := ma) (mn := mn) (mc := mc) (ta := some ⟨tb, 0, none⟩) (tn := m * 16) (tc := tc) (sf := A.sf) (st := A.st) (gf := A.gf) (gt := A.gt) (cf := A.cf) (ct := A.ct) (nx := (A.next : Int) * 16) w1 (BX.out.2.2.keep hF) (by omega) hL.out.oa x)
            have COM := Lib.hid (fun w1 (hF : Fr [] wr2 w1) => omoved_c w1 (hL.out.he.keep hF) OKA.out WDA.out x TB.out.1 TB.out.2)
            have CRM := Lib.hid (fun w1 (hF : Fr [] wr2 w1) => rmoved_c (wa := wa) (wn := wn) (wk := wk) (ma := ma) (mn := mn) (mc := mc) (ta := some ⟨tb, 0, none⟩) (tn := m * 16) (tc := tc) (sf := A.sf) (st := A.st) (gf := A.gf) (gt := A.gt) (cf := A.cf) (ct := A.ct) (nx := (A.next : Int) * 16) w1 (BX.out.2.2.keep hF) (by omega) hL.out.oa x)
            have CK := Lib.hid (fun w1 (hF : Fr [] wr2 w1) => okind_c w1 (hL.out.he.keep hF) OKA.out WDA.out x TB.out.1 TB.out.2)
            have CS := Lib.hid (fun w1 (hF : Fr [] wr2 w1) => osize_c w1 (hL.out.he.keep hF) OKA.out WDA.out x TB.out.1 TB.out.2)
            have CPN := Lib.hid (fun w1 (hF : Fr [] wr2 w1) => opinned_c w1 (hL.out.he.keep hF) OKA.out WDA.out x TB.out.1 TB.out.2)
            have CRP := Lib.hid (fun w1 (hF : Fr [] wr2 w1) => rpinned_c (wa := wa) (wn := wn) (wk := wk) (ma := ma) (mn := mn) (mc := mc) (ta := some ⟨tb, 0, none⟩) (tn := m * 16) (tc := tc) (sf := A.sf) (st := A.st) (gf := A.gf) (gt := A.gt) (cf := A.cf) (ct := A.ct) (nx := (A.next : Int) * 16) w1 (BX.out.2.2.keep hF) (by omega) hL.out.oa x)
            have CG := Lib.hid (fun w1 (hF : Fr [] wr2 w1) (q : Int) (hq : -9223372036854775808 ≤ q ∧ q ≤ 9223372036854775807) => by have := oget_c w1 (hL.out.he.keep hF) OKA.out WDA.out x q TB.out.1 TB.out.2 hq; rw [hL.out.rel.get TLX.out q] at this; exact this)
            have CRG := Lib.hid (fun w1 (hF : Fr [] wr2 w1) (q : Int) => rget_c (wa := wa) (wn := wn) (wk := wk) (ma := ma) (mn := mn) (mc := mc) (ta := some ⟨tb, 0, none⟩) (tn := m * 16) (tc := tc) (sf := A.sf) (st := A.st) (gf := A.gf) (gt := A.gt) (cf := A.cf) (ct := A.ct) (nx := (A.next : Int) * 16) w1 (BX.out.2.2.keep hF) (by omega) hL.out.oa x q)
            rw [← hk1] at CK
            rw [← hk2] at CS
            rw [← hk3] at CPN
            rw [hmv] at COM
            have hkb : (kindR O x).2 ≤ 240 := by
              rcases hL.out.rel.parts TLX.out with ⟨h1, _⟩ | ⟨i, r, h1, hr, _⟩
              · unfold kindR; rw [h1]; simp
              · have := hL.out.of r (List.mem_of_getElem? hr)
                unfold kindR; rw [h1]; simp [hr]; omega
            obtain ⟨kd, hkd⟩ : ∃ kd, kd = (kindR O x).1 := ⟨_, rfl⟩
            obtain ⟨nn, hnn⟩ : ∃ nn, nn = (kindR O x).2 := ⟨_, rfl⟩
            obtain ⟨my, hmy⟩ : ∃ my, my = (movedR O x).1 := ⟨_, rfl⟩
            obtain ⟨mz, hmz⟩ : ∃ mz, mz = (movedR O x).2 := ⟨_, rfl⟩
            obtain ⟨pz, hpz⟩ : ∃ pz, pz = pinnedR O x := ⟨_, rfl⟩
            rw [← hkd] at CK CRK
            rw [← hnn] at CS CRK hkb
            rw [← hmy, ← hmz] at COM CRM
            rw [← hpz] at CPN CRP
            clear hk1 hk2 hk3 hmv hkd hnn hmy hmz hpz hx
            have K0 : Hid (Fr [] wr2 wr2) := Lib.hid (Fr.refl _ _)
            have p0 := (KEEP.out _ K0.out).1
            have p1 := (KEEP.out _ K0.out).2.1
            have p2 := (KEEP.out _ K0.out).2.2.1
            have p3 := (KEEP.out _ K0.out).2.2.2.1
            have p4 := (KEEP.out _ K0.out).2.2.2.2.1
            have p5 := (KEEP.out _ K0.out).2.2.2.2.2.1
            have p6 := (KEEP.out _ K0.out).2.2.2.2.2.2.1
            have p7 := (KEEP.out _ K0.out).2.2.2.2.2.2.2.1
            have p8 := (KEEP.out _ K0.out).2.2.2.2.2.2.2.2.1
            have p9 := (KEEP.out _ K0.out).2.2.2.2.2.2.2.2.2.1
            have p10 := (KEEP.out _ K0.out).2.2.2.2.2.2.2.2.2.2
            go_wp2_with fail
            refine (CRK.out _ K0.out).mono ?_
            rintro e w2 ⟨rfl, F2⟩
            have K2 := Lib.hid (K0.out.same F2)
            clear K0 F2 dT
            go_wp2_with fail
            refine (COM.out _ K2.out).mono ?_
            rintro e w3 ⟨rfl, F3⟩
            have K3 := Lib.hid (K2.out.same F3)
            clear K2 F3
            clear p0 p1 p2 p3 p4 p5 p6 p7 p8 p9 p10
            have p0 := (KEEP.out _ K3.out).1
            have p1 := (KEEP.out _ K3.out).2.1
            have p2 := (KEEP.out _ K3.out).2.2.1
            have p3 := (KEEP.out _ K3.out).2.2.2.1
            have p4 := (KEEP.out _ K3.out).2.2.2.2.1
            have p5 := (KEEP.out _ K3.out).2.2.2.2.2.1
            have p6 := (KEEP.out _ K3.out).2.2.2.2.2.2.1
            have p7 := (KEEP.out _ K3.out).2.2.2.2.2.2.2.1
            have p8 := (KEEP.out _ K3.out).2.2.2.2.2.2.2.2.1
            have p9 := (KEEP.out _ K3.out).2.2.2.2.2.2.2.2.2.1
            have p10 := (KEEP.out _ K3.out).2.2.2.2.2.2.2.2.2.2
            go_wp2_with fail
            refine (CRM.out _ K3.out).mono ?_
            rintro e w4 ⟨rfl, F4⟩
            have K0 := Lib.hid (K3.out.same F4)
            clear K3 F4 p0 p1 p2 p3 p4 p5 p6 p7 p8 p9 p10
            go_upto_region 45 with fail
            go_cut [234] (fun s wx => s = .bool false ∧ Hid (Fr [] w4 wx))
            case first =>
              have hb0 : (kd != kd) = false := by simp
              have hb1 : (nn != nn) = false := by simp
              have hb2 : (my != my) = false := by simp
              have hb3 : (mz != mz) = false := by simp
              have hb4 : (pz != pz) = false := by simp
              have J0 : Hid (Fr [] w4 w4) := Lib.hid (Fr.refl _ _)
              have KEEP4 : Hid (∀ W, Fr [] w4 W → W.cell? ⟨qb, 0, none⟩ = some (.slice wa wn wk) ∧ W.cell? ⟨qb, 1, none⟩ = some (.slice (some ⟨tb, 0, none⟩) (m * 16) tc) ∧ W.cell? ⟨qb, 2, none⟩ = some (.slice ma mn mc) ∧ W.cell? ⟨qb, 3, none⟩ = some (.int .i64 ((A.sf : Int))) ∧ W.cell? ⟨qb, 4, none⟩ = some (.int .i64 ((A.st : Int))) ∧ W.cell? ⟨qb, 5, none⟩ = some (.int .i64 ((A.gf : Int))) ∧ W.cell? ⟨qb, 6, none⟩ = some (.int .i64 ((A.gt : Int))) ∧ W.cell? ⟨qb, 7, none⟩ = some (.int .i64 ((A.cf : Int))) ∧ W.cell? ⟨qb, 8, none⟩ = some (.int .i64 ((A.ct : Int))) ∧ W.cell? ⟨qb, 9, none⟩ = some (.int .i64 ((A.next : Int) * 16)) ∧ W.cell? ⟨qb, 10, none⟩ = some (.slice oa O.length oc)) := Lib.hid (fun W hF => KEEP.out W (K0.out.same hF))
              have CK4 := Lib.hid (fun w1 (hF : Fr [] w4 w1) => CK.out w1 (K0.out.same hF))
              have CS4 := Lib.hid (fun w1 (hF : Fr [] w4 w1) => CS.out w1 (K0.out.same hF))
              have CPN4 := Lib.hid (fun w1 (hF : Fr [] w4 w1) => CPN.out w1 (K0.out.same hF))
              have CRP4 := Lib.hid (fun w1 (hF : Fr [] w4 w1) => CRP.out w1 (K0.out.same hF))
              clear CRK COM CRM CK CS CPN CRP CG CRG
              go_region_held3 (fun W => W.cell? ⟨qb, 0, none⟩ = some (.slice wa wn wk) ∧ W.cell? ⟨qb, 1, none⟩ = some (.slice (some ⟨tb, 0, none⟩) (m * 16) tc) ∧ W.cell? ⟨qb, 2, none⟩ = some (.slice ma mn mc) ∧ W.cell? ⟨qb, 3, none⟩ = some (.int .i64 ((A.sf : Int))) ∧ W.cell? ⟨qb, 4, none⟩ = some (.int .i64 ((A.st : Int))) ∧ W.cell? ⟨qb, 5, none⟩ = some (.int .i64 ((A.gf : Int))) ∧ W.cell? ⟨qb, 6, none⟩ = some (.int .i64 ((A.gt : Int))) ∧ W.cell? ⟨qb, 7, none⟩ = some (.int .i64 ((A.cf : Int))) ∧ W.cell? ⟨qb, 8, none⟩ = some (.int .i64 ((A.ct : Int))) ∧ W.cell? ⟨qb, 9, none⟩ = some (.int .i64 ((A.next : Int) * 16)) ∧ W.cell? ⟨qb, 10, none⟩ = some (.slice oa O.length oc)) (with_reducible exact KEEP4.out _ (by first | with_reducible exact J4.out | with_reducible exact J4.out.drew | with_reducible exact J3.out | with_reducible exact J3.out.drew | with_reducible exact J2.out | with_reducible exact J2.out.drew | with_reducible exact J1.out | with_reducible exact J1.out.drew | with_reducible exact J0.out | with_reducible exact J0.out.drew)) (first
                | (go_at_call 29; refine (CK4.out _ (by first | with_reducible exact J0.out | with_reducible exact J0.out.drew)).mono ?_; rintro e w5 ⟨rfl, F5⟩; first | (have J1 := Lib.hid (J0.out.same F5)) | (have J1 := Lib.hid (J0.out.drew.same F5)); clear F5)
                | (go_at_call 30; refine (CS4.out _ (by first | with_reducible exact J1.out | with_reducible exact J1.out.drew)).mono ?_; rintro e w6 ⟨rfl, F6⟩; first | (have J2 := Lib.hid (J1.out.same F6)) | (have J2 := Lib.hid (J1.out.drew.same F6)); clear F6)
                | (go_at_call 31; refine (CPN4.out _ (by first | with_reducible exact J2.out | with_reducible exact J2.out.drew)).mono ?_; rintro e w7 ⟨rfl, F7⟩; first | (have J3 := Lib.hid (J2.out.same F7)) | (have J3 := Lib.hid (J2.out.drew.same F7)); clear F7)
                | (go_at_call 32; refine (CRP4.out _ (by first | with_reducible exact J3.out | with_reducible exact J3.out.drew)).mono ?_; rintro e w8 ⟨rfl, F8⟩; first | (have J4 := Lib.hid (J3.out.same F8)) | (have J4 := Lib.hid (J3.out.drew.same F8)); clear F8))
              all_goals (go_wp2_with fail; go_meet; exact ⟨rfl, Lib.hid (by first | with_reducible exact J4.out | with_reducible exact J4.out.drew)⟩)
            case rest =>
              obtain ⟨rfl, hF5⟩ := hcut
              have KX := Lib.hid (K0.out.same hF5.out)
              clear K0 hF5
              go_wp2_with fail
              go_loopw [25] (fun u wr3 => ∃ q : Nat, q ≤ nn.toNat ∧ u = .int .i64 (q : Int) ∧ Hid (Fr [] wr2 wr3)) (fun u _ => nn.toNat - (intOf u).toNat)
              case atStart => exact ⟨0, by omega, by go_num, KX⟩
              case round =>
                obtain ⟨q, hq, rfl, K5⟩ := hrel
                clear KX
                by_cases hqn : (q : Int) < nn
                · obtain ⟨gv, hgv⟩ : ∃ gv, gv = (getR O x q).1 := ⟨_, rfl⟩
                  obtain ⟨gf, hgf⟩ : ∃ gf, gf = (getR O x q).2 := ⟨_, rfl⟩
                  have CG1 := Lib.hid (fun w1 (hF : Fr [] wr2 w1) => CG.out w1 hF q (by omega))
                  have CRG1 := Lib.hid (fun w1 (hF : Fr [] wr2 w1) => CRG.out w1 hF q)
                  rw [← hgv, ← hgf] at CG1 CRG1
                  have hgg : (gv != gv) = false := by simp
                  clear hgv hgf
                  go_wp2_with fail
                  refine (CG1.out _ K5.out).mono ?_
                  rintro e w6 ⟨rfl, F6⟩
                  have K6 := Lib.hid (K5.out.same F6)
                  clear K5 F6
                  have p0 := (KEEP.out _ K6.out).1
                  have p1 := (KEEP.out _ K6.out).2.1
                  have p2 := (KEEP.out _ K6.out).2.2.1
                  have p3 := (KEEP.out _ K6.out).2.2.2.1
                  have p4 := (KEEP.out _ K6.out).2.2.2.2.1
                  have p5 := (KEEP.out _ K6.out).2.2.2.2.2.1
                  have p6 := (KEEP.out _ K6.out).2.2.2.2.2.2.1
                  have p7 := (KEEP.out _ K6.out).2.2.2.2.2.2.2.1
                  have p8 := (KEEP.out _ K6.out).2.2.2.2.2.2.2.2.1
                  have p9 := (KEEP.out _ K6.out).2.2.2.2.2.2.2.2.2.1
                  have p10 := (KEEP.out _ K6.out).2.2.2.2.2.2.2.2.2.2
                  go_wp2_with fail
                  refine (CRG1.out _ K6.out).mono ?_
                  rintro e w7 ⟨rfl, F7⟩
                  have K7 := Lib.hid (K6.out.same F7)
                  clear K6 F7 p0 p1 p2 p3 p4 p5 p6 p7 p8 p9 p10
                  go_wp2_with fail
                  go_roundw
                  case rel => exact ⟨q + 1, by omega, by go_num, K7⟩
                  case measure => simp [intOf]; omega
                · have HQN := Lib.hid hqn
                  have L5 := Lib.hid (hL.out.keep K5.out)
                  clear CG CRG K5
                  go_wp2_with fail
                  go_roundw
                  case rel => exact ⟨j + 1, by omega, by go_num, L5⟩
                  case measure => simp [intOf]; omega
          · have HJL := Lib.hid hjl
            have CA := Lib.hid (fun w1 (hF : Fr [] wr2 w1) => oarena_c w1 (hL.out.he.keep hF))
            have CE := Lib.hid (fun w1 (hF : Fr [] wr2 w1) => empty_c w1 (hL.out.he.keep hF).ar OKA.out)
            have CRE := Lib.hid (fun w1 (hF : Fr [] wr2 w1) => rempty_c (wa := wa) (wn := wn) (wc := wk) (ma := ma) (mn := mn) (mc := mc) (sf := A.sf) (st := A.st) (gf := A.gf) (gt := A.gt) (cf := A.cf) (ct := A.ct) (nx := (A.next : Int) * 16) w1 (BX.out.2.1.keep hF) OKA.out.ll (by omega))
            obtain ⟨ee, hee⟩ : ∃ ee : Int, ee = (emptyIn A.lines m : Int) := ⟨_, rfl⟩
            rw [← hee] at CE CRE
            have FE := Lib.hid hL.out.fr
            have K0 : Hid (Fr [] wr2 wr2) := Lib.hid (Fr.refl _ _)
            clear hee hjl
            go_upto_region 55 with fail
            go_region_held3 (fun W => W.cell? ⟨qb, 0, none⟩ = some (.slice wa wn wk) ∧ W.cell? ⟨qb, 1, none⟩ = some (.slice (some ⟨tb, 0, none⟩) (m * 16) tc) ∧ W.cell? ⟨qb, 2, none⟩ = some (.slice ma mn mc) ∧ W.cell? ⟨qb, 3, none⟩ = some (.int .i64 ((A.sf : Int))) ∧ W.cell? ⟨qb, 4, none⟩ = some (.int .i64 ((A.st : Int))) ∧ W.cell? ⟨qb, 5, none⟩ = some (.int .i64 ((A.gf : Int))) ∧ W.cell? ⟨qb, 6, none⟩ = some (.int .i64 ((A.gt : Int))) ∧ W.cell? ⟨qb, 7, none⟩ = some (.int .i64 ((A.cf : Int))) ∧ W.cell? ⟨qb, 8, none⟩ = some (.int .i64 ((A.ct : Int))) ∧ W.cell? ⟨qb, 9, none⟩ = some (.int .i64 ((A.next : Int) * 16))) (with_reducible exact KEEPA.out _ (by first | with_reducible exact K2.out | with_reducible exact K2.out.drew | with_reducible exact K1.out | with_reducible exact K1.out.drew | with_reducible exact K0.out | with_reducible exact K0.out.drew)) (first
              | (go_at_call 33; refine (CA.out _ (by first | with_reducible exact K1.out | with_reducible exact K1.out.drew | with_reducible exact K0.out | with_reducible exact K0.out.drew)).mono ?_; rintro e w5 ⟨rfl, rfl⟩)
              | (go_at_call 34; refine (CE.out _ (by first | with_reducible exact K1.out | with_reducible exact K1.out.drew | with_reducible exact K0.out | with_reducible exact K0.out.drew)).mono ?_; rintro e w6 ⟨rfl, F6⟩; first | (have K2 := Lib.hid (K1.out.same F6)) | (have K2 := Lib.hid (K1.out.drew.same F6)) | (have K1 := Lib.hid (K0.out.same F6)) | (have K1 := Lib.hid (K0.out.drew.same F6)); clear F6)
              | (go_at_call 35; refine (CRE.out _ (by first | with_reducible exact K1.out | with_reducible exact K1.out.drew | with_reducible exact K0.out | with_reducible exact K0.out.drew)).mono ?_; rintro e w7 ⟨rfl, F7⟩; first | (have K2 := Lib.hid (K1.out.same F7)) | (have K2 := Lib.hid (K1.out.drew.same F7)) | (have K1 := Lib.hid (K0.out.same F7)) | (have K1 := Lib.hid (K0.out.drew.same F7)); clear F7))
            all_goals (
              go_wp2_with fail
              go_ret
              exact ⟨by simp, (FE.out.same (by first | with_reducible exact K2.out | with_reducible exact K2.out.drew | with_reducible exact K1.out | with_reducible exact K1.out.drew | with_reducible exact K0.out | with_reducible exact K0.out.drew)).below⟩)
theorem walk (n : Int) (a : Option Addr) (len cap : Nat) (N : Nat → Nat → Int) (w : World) (w0 : (Lit.int .i64 n).wf = true) (hN : IsActs w a len cap N) :
    Calls Try.prog 3 #[.int .i64 n, .slice a len cap] w fun e w' => e = .returned (.bool true) ∧ Below w.heap.size w w' := by
  have bn := bounds_i64 w0
  by_cases h : 6 < n ∨ 100 < len
  · exact early n a len cap w bn (by have := hN.2.2; omega) h
  · exact main n (blocksOf n) a len cap N w (by omega) bn.1 rfl (by omega) hN
theorem own : ownKnob Try.prog.godebug = none := by kernel_rfl
theorem laidOut : laidOutB Try.prog = true := by kernel_rfl
set_option maxRecDepth 100000 in
theorem lifted (os : Os) (started : os.Started) (H : Type) (enc : TypeId × Value → H) :
    ReturnsInHanded {} Try.checked os 3 .any (Rows.heapRunsSpec.pre6 enc Try.prog Try.f3 Rows.heapRunsRow.domain false) (Rows.heapRunsSpec.post enc Try.prog Try.f3 false true false false) := by
  refine returnsInHanded_of_change (C := Try.checked) own started (by kernel_rfl) Try.func3
    (ChangeSpec.witness6 (enc := enc) (C := Try.checked) false ⟨#[], #[.int .i64 0, .slice none 0 0], []⟩ 8 (by kernel_rfl) (by kernel_rfl) (by kernel_rfl) (by kernel_rfl)) ?_
  intro W base args ds gs before hval0 hW hcnd _
  have hval : ∀ (j : Nat) t v, Try.f3.params[j]? = some t → args[j]? = some v → Value.okWide Try.prog W .any base t v := hval0
  have hW' := hW
  obtain ⟨p, q, hA0, hV, rfl, hfz, hnd⟩ := hW
  have hA : DataW.TrodAll enc Try.prog W 0 (fun _ => true) true Try.f3.params.toList args.toList ds p := hA0
  rw [Try.params3] at hA hval
  obtain ⟨v0, vs0, d0, ds0, p0, q0, hargs, rfl, rfl, h0, r0⟩ := trodAll_cons hA
  obtain ⟨v1, vs1, d1, ds1, p1, q1, rfl, rfl, rfl, h1, r1⟩ := trodAll_cons r0
  obtain ⟨rfl, rfl, rfl⟩ := trodAll_nil r1
  obtain rfl : args = #[v0, v1] := by cases args; simp_all
  obtain ⟨rfl, rfl⟩ := trodVars_none hV
  obtain ⟨a0, rfl, rfl, rfl, w0⟩ := open_int Try.underlying3 (hval 0 3 v0 rfl rfl) h0
  obtain ⟨a1, len1, cap1, rfl⟩ := okWide_slice Try.underlying22 (hval 1 22 v1 rfl rfl)
  have k1 := h1
  have lt1 : ∀ x ∈ p1, x.block < W.heap.size := by obtain ⟨m, hm⟩ := k1; exact DataW.trod_lt m _ _ _ hm
  obtain ⟨z1, w1⟩ := opener h1
  clear hA0 hval0
  refine (walk a0 a1 len1 cap1 z1 W w0 w1).mono fun e W' ⟨he, bel⟩ => ?_
  subst he
  exact ⟨_, rfl, _, _, _, [], _, [], hW', trodAll_mk1 (shut_bool Try.underlying4 _), (trodAll_cons_mk (shut_int Try.underlying3 w0) (trodAll_cons_mk (Below.trod laidOut (by kernel_rfl) (of_decide_eq_true (by kernel_rfl)) k1 bel lt1) trodAll_mk0)), rfl, bel.frame _, fun h => by cases h⟩
theorem over : Rows.heapRunsRow.holds Try.pinned (OpenSpec.ofChange Rows.heapRunsSpec) :=
  OpenClaim.holds_of_wide 3 Try.f3 rfl rfl rfl rfl rfl rfl rfl ⟨rfl, rfl, rfl, rfl, rfl⟩ rfl rfl rfl rfl rfl (by kernel_rfl) Try.func3 (by kernel_rfl)
    (of_decide_eq_true (by kernel_rfl)) (by unfold Func.isWrapper; first | (rw [if_pos (by decide +kernel)]; kernel_rfl) | (rw [if_neg (by decide +kernel)]; exact ⟨rfl, rfl⟩))
    (fun os started H enc _ => lifted os started H enc)
/-- THE STATEMENT -/
theorem proved : Rows.HeapRunsSaid := over
#print axioms proved
end Go.Proofs.Ytjgndfhfiekomaa.heapRuns
