/- Reference 1: Split. -/
import Derived.Test.YtjdanblijcdllaaGreatDoorRefF
set_option linter.all false
namespace Go.Proofs.YtjdanblijcdllaaGreatDoor
open Go.ChangeShapes Go.WideShapes Go.RowKit
variable {w w' w2 wr : World} {a b : Option Addr} {cap cap2 : Nat} {L M : List Nat} {B : Nat}
def SplitR (w : World) (n m : Nat) (e : Ending) (w' : World) : Prop := ∃ a1 c1 a2 c2, e = .returned (.tuple #[.slice a1 (lims (n / m)).length c1, .slice a2 (lims (n % m)).length c2]) ∧ Nw w' w.heap.size a1 c1 (lims (n / m)) ∧ Nw w' w.heap.size a2 c2 (lims (n % m)) ∧ Fr [] w w'
/-- A new list of one limb. -/
theorem one_new (w : World) (x B : Nat) (hx : x < 4294967296) (hB : B ≤ w.heap.size) : Nw (w.alloc (.cells #[.int .u32 (x : Int)] 108)) B (some ⟨w.heap.size, 0, none⟩) 1 [x] :=
  Nw.new w [x] 1 _ hB (lim_cons.2 ⟨hx, lim_nil⟩) (by simp) (by simp) (by unfold maxLen; omega) rfl rfl
theorem r1of_c (w : World) (n : Nat) (hn : n < 18446744073709551616) : Calls Tryz.prog 112 #[.int .u64 (n : Int)] w (Gives w (lims n)) := by
  have q1 : ((n : Int) % 4294967296) = ((n % 4294967296 : Nat) : Int) := by omega
  have q2 : ((n : Int) / 4294967296) = ((n / 4294967296 : Nat) : Int) := by omega
  have h1 : n % 4294967296 < 4294967296 := Nat.mod_lt _ (by decide)
  have h2 : n / 4294967296 < 4294967296 := by omega
  have HV := Lib.hid (val_two n)
  have hn2 : n ≤ 18446744073709551615 := by omega
  clear hn
  generalize n % 4294967296 = x at *
  generalize n / 4294967296 = y at *
  have N0 : Hid (Nw (w.alloc (.cells #[.int .u32 (x : Int), .int .u32 (y : Int)] 108)) w.heap.size (some ⟨w.heap.size, 0, none⟩) 2 [x, y]) := Lib.hid (Nw.new w [x, y] 2 _ (Nat.le_refl _) (lim_cons.2 ⟨h1, lim_cons.2 ⟨h2, lim_nil⟩⟩) (by simp) (by simp) (by unfold maxLen; omega) rfl rfl)
  have CT := Lib.hid (r1trim_c _ N0.out.in)
  rw [HV.out] at CT
  clear h1 h2
  go_enter Tryz.func112, Tryz.ntmps112
  go_wp2_with fail
  refine CT.out.mono ?_
  rintro e w3 ⟨a', cap', rfl, hN, hF⟩
  have D := Lib.hid (gives_mk (w := w) (hN.base (by simp)) (((Fr.refl [] w).alloc _).same hF))
  clear hN hF
  go_wp2
  go_ret
  exact D.out
/-- Where a division bit by bit stands: X is what was taken, Q and R its quotient and rest. -/
structure SpI (n m k Q R : Nat) : Prop where
  q : Q = n / 2 ^ k / m
  r : R = n / 2 ^ k % m
theorem SpI.lens {n m k Q R : Nat} (h : SpI n m k Q R) : Q ≤ n ∧ R ≤ n := by
  have h1 := Nat.div_le_self n (2 ^ k)
  rw [h.q, h.r]
  exact ⟨Nat.le_trans (Nat.div_le_self _ _) h1, Nat.le_trans (Nat.mod_le _ _) h1⟩
theorem SpI.step {n m j Q R t : Nat} (h : SpI n m (j + 1) Q R) (hm : 0 < m) (ht : n / 2 ^ j % 2 = t) (_ : t = 0 ∨ t = 1) :
    R + R + t ≤ n ∧ Q + Q ≤ n ∧ (m ≤ R + R + t → SpI n m j (Q + Q + 1) (R + R + t - m) ∧ Q + Q + 1 ≤ n) ∧ (¬ m ≤ R + R + t → SpI n m j (Q + Q) (R + R + t)) := by
  have e := half_step n j
  rw [ht] at e
  obtain ⟨s1, s2⟩ := split_step (X := n / 2 ^ (j + 1)) (X' := n / 2 ^ j) (b := t) hm e (by omega)
  rw [← h.q, ← h.r] at s1 s2
  have hle := Nat.div_le_self n (2 ^ j)
  have hR : R ≤ n / 2 ^ (j + 1) := by rw [h.r]; exact Nat.mod_le _ _
  have hQ : Q ≤ n / 2 ^ (j + 1) := by rw [h.q]; exact Nat.div_le_self _ _
  refine ⟨by omega, by omega, fun hh => ?_, fun hh => ?_⟩
  · obtain ⟨a1, a2⟩ := s1 hh
    refine ⟨⟨a1.symm, a2.symm⟩, ?_⟩
    rw [← a1]; exact Nat.le_trans (Nat.div_le_self _ _) hle
  · obtain ⟨a1, a2⟩ := s2 hh
    exact ⟨a1.symm, a2.symm⟩
set_option maxRecDepth 100000 in
set_option maxHeartbeats 2000000 in
theorem r1split_c (w : World) (ha : In w a cap L) (hb : In w b cap2 M) (hlen : L.length ≤ 80000) (hm : val M ≠ 0) : Calls Tryz.prog 116 #[.slice a L.length cap, .slice b M.length cap2] w (SplitR w (val L) (val M)) := by
  have HA := Lib.hid ha
  have HB := Lib.hid hb
  obtain ⟨n, hn⟩ : ∃ n, n = val L := ⟨_, rfl⟩
  obtain ⟨m, hm2⟩ : ∃ m, m = val M := ⟨_, rfl⟩
  have BL : Hid (∀ x, x ≤ n → (lims x).length ≤ L.length) := Lib.hid (fun x h => lims_len_of_le ha.lim (by rw [← hn]; exact h))
  have HMV := Lib.hid hm2.symm
  rw [← hm2] at hm ⊢
  rw [← hn]
  have BIT : Hid (∀ j, n / 2 ^ j % 2 = L[j / 32]?.getD 0 / 2 ^ (j % 32) % 2) := Lib.hid (fun j => by rw [hn]; exact bit_of' ha.lim j)
  have hm0 : 0 < m := Nat.pos_of_ne_zero hm
  have I0 : Hid (SpI n m (32 * L.length) 0 0) := Lib.hid (by
    have e : n / 2 ^ (32 * L.length) = 0 := by rw [hn]; exact all_bits ha.lim
    exact ⟨by rw [e, Nat.zero_div], by rw [e, Nat.zero_mod]⟩)
  have NQ : Hid (Nw ((w.alloc (.cells #[] 108)).alloc (.cells #[] 108)) w.heap.size (some ⟨w.heap.size, 0, none⟩) 0 (lims 0)) := Lib.hid ((Nw.made w 0 0 (Nat.le_refl _) (by omega) (by omega)).keep ((Fr.refl [] _).alloc _))
  have NR : Hid (Nw ((w.alloc (.cells #[] 108)).alloc (.cells #[] 108)) w.heap.size (some ⟨w.heap.size + 1, 0, none⟩) 0 (lims 0)) := Lib.hid (by
    have := Nw.made (B := w.heap.size) (w.alloc (.cells #[] 108)) 0 0 (by rw [size_alloc]; omega) (by omega) (by omega)
    rwa [size_alloc] at this)
  have F0 : Hid (Fr [] w ((w.alloc (.cells #[] 108)).alloc (.cells #[] 108))) := Lib.hid (((Fr.refl [] w).alloc _).alloc _)
  clear ha hb hn hm2 hm
  go_enter Tryz.func116, Tryz.ntmps116
  go_wp2
  go_loopw [6, 7, 8] (fun s6 s7 s8 wr => ∃ (k Q R : Nat) (aq : Option Addr) (cq : Nat) (ar : Option Addr) (cr : Nat), k ≤ 32 * L.length ∧ s8 = .int .i64 ((k : Int) - 1) ∧ s6 = .slice aq (lims Q).length cq ∧ s7 = .slice ar (lims R).length cr ∧ SpI n m k Q R ∧ Hid (Nw wr w.heap.size aq cq (lims Q)) ∧ Hid (Nw wr w.heap.size ar cr (lims R)) ∧ Hid (Fr [] w wr)) (fun _ _ x _ => (intOf x + 1).toNat)
  case atStart => exact ⟨32 * L.length, 0, 0, _, _, _, _, Nat.le_refl _, by first | rfl | (congr 1; omega), rfl, rfl, I0.out, NQ, NR, F0⟩
  case round =>
    obtain ⟨k, Q, R, aq, cq, ar, cr, hk, rfl, rfl, rfl, hI, hQ, hR, hF⟩ := hrel
    cases k with
    | zero =>
      have D : Hid (SplitR w n m (.returned (.tuple #[.slice aq (lims Q).length cq, .slice ar (lims R).length cr])) wr) := Lib.hid (by
        have e1 := hI.q
        have e2 := hI.r
        rw [Nat.pow_zero, Nat.div_one] at e1 e2
        subst e1; subst e2
        exact ⟨aq, cq, ar, cr, rfl, hQ.out, hR.out, hF.out⟩)
      clear hI hQ hR hF
      go_wp2
      go_ret2
      exact D.out
    | succ j =>
      rw [show (((j + 1 : Nat) : Int) - 1) = (j : Int) from by omega]
      obtain ⟨t, ht⟩ : ∃ t, n / 2 ^ j % 2 = t := ⟨_, rfl⟩
      have htb : t = 0 ∨ t = 1 := by omega
      have SI := Lib.hid (hI.step hm0 ht htb)
      have LQ := BL.out _ hI.lens.1
      have LR := BL.out _ hI.lens.2
      have L2 := BL.out _ SI.out.1
      have L3 := BL.out _ SI.out.2.1
      have L4 : (lims (R + R)).length ≤ 80000 := Nat.le_trans (lims_len_le (show R + R ≤ R + R + t by omega)) (by omega)
      rw [BIT.out j] at ht
      have C1 := Lib.hid (r1plus_c wr hR.out.in hR.out.in (by omega) (by omega))
      rw [val_lims] at C1
      have C2 := Lib.hid (fun W (hW : Fr [] wr W) => r1plus_c W (hQ.out.keep hW).in (hQ.out.keep hW).in (by omega) (by omega))
      simp only [val_lims] at C2
      have q1 : ((j : Int) / 32) = ((j / 32 : Nat) : Int) := by omega
      have q2 : ((j : Int) % 32) = ((j % 32 : Nat) : Int) := by omega
      have q3 : j / 32 < L.length := by omega
      have q4 : j % 32 < 32 := by omega
      have X1 := Lib.hid (fun W (hW : Fr [] wr W) => (HA.out.keep (hF.out.same hW)).at q3)
      have bx := lim_get HA.out.lim (j / 32)
      generalize j / 32 = q at *
      generalize j % 32 = r at *
      generalize L[q]?.getD 0 = x at *
      have bbt := (bit_b x r bx t ht).2
      have HS := hF.out.size
      clear ht hI hQ hR
      go_wp2_with fail
      refine C1.out.mono ?_
      rintro e w3 ⟨a3, c3, rfl, h3, f3⟩
      have R1 := Lib.hid (h3.base HS)
      have G1 := Lib.hid f3
      clear h3 f3 C1
      go_wp2_with fail
      refine (C2.out _ G1.out).mono ?_
      rintro e w4 ⟨a4, c4, rfl, h4, f4⟩
      have Q1 := Lib.hid (h4.base (Nat.le_trans HS G1.out.size))
      have R2 := Lib.hid (R1.out.keep f4)
      have G2 := Lib.hid (G1.out.same f4)
      obtain ⟨bb, bo, rfl, bl, bc⟩ := X1.out w4 G2.out
      clear h4 f4 C2 R1 G1 X1
      rcases htb with rfl | rfl
      · have bb1 : (bits BinOp.and IntKind.u32 ((x : Int) / 2 ^ r) 1 == 1) = false := bbt
        rw [Nat.add_zero] at SI L2
        have RR := R2
        have QQ := Q1
        have GG := G2
        clear bbt Q1 R2 G2
        have CC := Lib.hid (r1cmp_c w4 RR.out.in (HB.out.keep (hF.out.same GG.out)))
        simp only [val_lims, HMV.out] at CC
        have FW := Lib.hid (hF.out.same GG.out)
        go_wp2_with fail
        refine CC.out.mono ?_
        rintro e w' ⟨rfl, rfl⟩
        clear CC
        by_cases hle : m ≤ R + R
        · obtain ⟨n1, n2⟩ := SI.out.2.2.1 hle
          have N1 := Lib.hid n1
          have L5 := BL.out _ n2
          have CM := Lib.hid (r1minus_c w4 RR.out.in (HB.out.keep FW.out) (by omega) (by rw [val_lims, HMV.out]; exact hle))
          rw [val_lims, HMV.out] at CM
          have CP : Hid (∀ W, Fr [] w4 W → Calls Tryz.prog 113 #[.slice a4 (lims (Q + Q)).length c4, .slice (some ⟨W.heap.size, 0, none⟩) 1 1] (W.alloc (.cells #[.int .u32 1] 108)) (Gives (W.alloc (.cells #[.int .u32 1] 108)) (lims (Q + Q + 1)))) := Lib.hid (fun W hW => by
            have := r1plus_c (W.alloc (.cells #[.int .u32 ((1 : Nat) : Int)] 108)) ((QQ.out.keep hW).keep ((Fr.refl [] _).alloc _)).in (one_new W 1 0 (by decide) (Nat.zero_le _)).in (by omega) (by simp)
            rwa [val_lims, lims_one] at this)
          have HC : cmpN (R + R) m = 0 ∨ cmpN (R + R) m = 1 := by unfold cmpN; rw [if_neg (by omega)]; split; exact .inr rfl; exact .inl rfl
          have HCC := Lib.hid HC
          clear n1 n2 SI HC hle
          rcases HCC.out with hc | hc
          all_goals
            rw [hc]
            go_wp2_with fail
            refine CM.out.mono ?_
            rintro e w6 ⟨a6, c6, rfl, h6, f6⟩
            have R6 := Lib.hid (h6.base FW.out.size)
            have G6 := Lib.hid f6
            clear h6 f6
            go_wp2_with fail
            refine (CP.out _ G6.out).mono ?_
            rintro e w7 ⟨a7, c7, rfl, h7, f7⟩
            have Q7 := Lib.hid (h7.base (B' := w.heap.size) (by have := FW.out.size; have := G6.out.size; rw [size_alloc]; omega))
            have R7 := Lib.hid (R6.out.keep (((Fr.refl [] _).alloc _).same f7))
            have G7 := Lib.hid ((FW.out.same G6.out).same (((Fr.refl [] _).alloc _).same f7))
            clear h7 f7 R6 G6 CM CP
            go_wp2
            go_roundw
            case rel => exact ⟨j, Q + Q + 1, R + R - m, _, _, _, _, by omega, rfl, rfl, rfl, N1.out, Q7, R7, G7⟩
            case measure => simp [intOf]
        · have N1 := Lib.hid (SI.out.2.2.2 hle)
          have HC : Hid (cmpN (R + R) m = -1) := Lib.hid (by unfold cmpN; rw [if_pos (by omega)])
          clear SI
          rw [HC.out]
          go_wp2
          go_roundw
          case rel => exact ⟨j, Q + Q, R + R, _, _, _, _, by omega, rfl, rfl, rfl, N1.out, QQ, RR, FW⟩
          case measure => simp [intOf]
      · have bb1 : (bits BinOp.and IntKind.u32 ((x : Int) / 2 ^ r) 1 == 1) = true := bbt
        have CP : Hid (Calls Tryz.prog 113 #[.slice a3 (lims (R + R)).length c3, .slice (some ⟨w4.heap.size, 0, none⟩) 1 1] (w4.alloc (.cells #[.int .u32 1] 108)) (Gives (w4.alloc (.cells #[.int .u32 1] 108)) (lims (R + R + 1)))) := Lib.hid (by
          have := r1plus_c (w4.alloc (.cells #[.int .u32 ((1 : Nat) : Int)] 108)) (R2.out.keep ((Fr.refl [] _).alloc _)).in (one_new w4 1 0 (by decide) (Nat.zero_le _)).in (by omega) (by simp)
          rwa [val_lims, lims_one] at this)
        clear bbt
        go_wp2_with fail
        refine CP.out.mono ?_
        rintro e w5 ⟨a5, c5, rfl, h5, f5⟩
        have RR := Lib.hid (h5.base (B' := w.heap.size) (by have := hF.out.size; have := G2.out.size; rw [size_alloc]; omega))
        have QQ := Lib.hid (Q1.out.keep (((Fr.refl [] _).alloc _).same f5))
        have GG := Lib.hid (G2.out.same (((Fr.refl [] _).alloc _).same f5))
        clear h5 f5 Q1 R2 G2 CP bc bl
        have CC := Lib.hid (r1cmp_c w5 RR.out.in (HB.out.keep (hF.out.same GG.out)))
        simp only [val_lims, HMV.out] at CC
        have FW := Lib.hid (hF.out.same GG.out)
        go_wp2_with fail
        refine CC.out.mono ?_
        rintro e w' ⟨rfl, rfl⟩
        clear CC
        by_cases hle : m ≤ R + R + 1
        · obtain ⟨n1, n2⟩ := SI.out.2.2.1 hle
          have N1 := Lib.hid n1
          have L5 := BL.out _ n2
          have CM := Lib.hid (r1minus_c w5 RR.out.in (HB.out.keep FW.out) (by omega) (by rw [val_lims, HMV.out]; exact hle))
          rw [val_lims, HMV.out] at CM
          have CP : Hid (∀ W, Fr [] w5 W → Calls Tryz.prog 113 #[.slice a4 (lims (Q + Q)).length c4, .slice (some ⟨W.heap.size, 0, none⟩) 1 1] (W.alloc (.cells #[.int .u32 1] 108)) (Gives (W.alloc (.cells #[.int .u32 1] 108)) (lims (Q + Q + 1)))) := Lib.hid (fun W hW => by
            have := r1plus_c (W.alloc (.cells #[.int .u32 ((1 : Nat) : Int)] 108)) ((QQ.out.keep hW).keep ((Fr.refl [] _).alloc _)).in (one_new W 1 0 (by decide) (Nat.zero_le _)).in (by omega) (by simp)
            rwa [val_lims, lims_one] at this)
          have HC : cmpN (R + R + 1) m = 0 ∨ cmpN (R + R + 1) m = 1 := by unfold cmpN; rw [if_neg (by omega)]; split; exact .inr rfl; exact .inl rfl
          have HCC := Lib.hid HC
          clear n1 n2 SI HC hle
          rcases HCC.out with hc | hc
          all_goals
            rw [hc]
            go_wp2_with fail
            refine CM.out.mono ?_
            rintro e w6 ⟨a6, c6, rfl, h6, f6⟩
            have R6 := Lib.hid (h6.base FW.out.size)
            have G6 := Lib.hid f6
            clear h6 f6
            go_wp2_with fail
            refine (CP.out _ G6.out).mono ?_
            rintro e w7 ⟨a7, c7, rfl, h7, f7⟩
            have Q7 := Lib.hid (h7.base (B' := w.heap.size) (by have := FW.out.size; have := G6.out.size; rw [size_alloc]; omega))
            have R7 := Lib.hid (R6.out.keep (((Fr.refl [] _).alloc _).same f7))
            have G7 := Lib.hid ((FW.out.same G6.out).same (((Fr.refl [] _).alloc _).same f7))
            clear h7 f7 R6 G6 CM CP
            go_wp2
            go_roundw
            case rel => exact ⟨j, Q + Q + 1, R + R + 1 - m, _, _, _, _, by omega, rfl, rfl, rfl, N1.out, Q7, R7, G7⟩
            case measure => simp [intOf]
        · have N1 := Lib.hid (SI.out.2.2.2 hle)
          have HC : Hid (cmpN (R + R + 1) m = -1) := Lib.hid (by unfold cmpN; rw [if_pos (by omega)])
          clear SI
          rw [HC.out]
          go_wp2
          go_roundw
          case rel => exact ⟨j, Q + Q, R + R + 1, _, _, _, _, by omega, rfl, rfl, rfl, N1.out, QQ, RR, FW⟩
          case measure => simp [intOf]
end Go.Proofs.YtjdanblijcdllaaGreatDoor
