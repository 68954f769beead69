/- Reference 1: Text. -/
import Derived.Test.YtjdanblijcdllaaGreatDoorRefH
import Derived.Test.YtjdanblijcdllaaGreatDoorTextP
import Derived.Laws.IdiomStrings
set_option linter.all false
namespace Go.Proofs.YtjdanblijcdllaaGreatDoor
open Go.ChangeShapes Go.WideShapes Go.RowKit
variable {w w' w2 wr : World} {a b : Option Addr} {cap cap2 : Nat} {L M : List Nat} {B : Nat}
/-- The text of a number: nothing, if it is too great. -/
def textOf (n : Nat) : List UInt8 := if fits n then Lib.decDigits n else []
theorem fits_dec {n : Nat} (h : fits n = true) : (Lib.decDigits n).length ≤ 617 := by
  unfold fits at h
  have h1 : n < 4294967296 ^ 64 := by simpa using h
  have h2 : (4294967296 : Nat) ^ 64 ≤ 10 ^ 617 := by decide +kernel
  exact dec_len (by decide) (Nat.lt_of_lt_of_le h1 h2)
theorem textOf_len (n : Nat) : (textOf n).length ≤ 617 := by
  unfold textOf
  cases h : fits n with
  | true => exact fits_dec h
  | false => simp
/-- One limb of the quotient by ten, from above: the quotient so far and the rest. -/
structure TenI (C O : List Nat) (k R : Nat) : Prop where
  len : O.length + k = C.length
  v : val (C.drop k) = val O * 10 + R
  r : R < 10
theorem TenI.start (C : List Nat) : TenI C [] C.length 0 := ⟨by simp, by simp [val], by decide⟩
theorem TenI.step {C O : List Nat} {j R x : Nat} (h : TenI C O (j + 1) R) (hx : C[j]?.getD 0 = x) : TenI C (((R * 4294967296 + x) / 10) :: O) j ((R * 4294967296 + x) % 10) := by
  refine ⟨by have := h.len; simp; omega, ?_, Nat.mod_lt _ (by decide)⟩
  rw [val_drop, hx, val]
  exact short_step h.v rfl
theorem app_list (z : Nat) (O : List Nat) : lc [z] ++ lc O = lc (z :: O) := rfl
theorem Popped.len {n v : Nat} {t : List UInt8} {k : Nat} (h : Popped n v t) (hk : (Lib.decDigits n).length ≤ k) : t.length ≤ k := by
  unfold Popped at h
  split at h
  · rw [h]; exact hk
  · rw [← h] at hk; simp at hk; omega
theorem one_string (W : World) (ch : UInt8) {v : Int} (hv : v = (ch.toNat : Int)) : (convert 137 9 (.slice (some ⟨W.heap.size, 0, none⟩) 1 1)).run Tryz.prog (W.alloc (.cells #[.int .u8 v] 5)) = .ok (.string ⟨#[ch]⟩) (W.alloc (.cells #[.int .u8 v] 5)) := by
  refine run_convert_bytes_back (W.alloc (.cells #[.int .u8 v] 5)) 137 9 5 ⟨W.heap.size, 0, none⟩ 1 [ch] Tryz.underlying137 Tryz.underlying5 Tryz.underlying9 ?_
  intro j hj
  have hj0 : j = 0 := by simp at hj; omega
  subst hj0
  have hb : blk (W.alloc (.cells #[.int .u8 v] 5)) W.heap.size = some (.cells #[.int .u8 v] 5 (0, 0)) := by rw [blk_alloc, if_pos rfl]
  have := cell_of (i := 0) hb rfl
  rw [hv] at this ⊢
  exact this
set_option maxRecDepth 100000 in
set_option maxHeartbeats 2000000 in
theorem r1text_c (w : World) (h : In w a cap L) (hla : L.length ≤ 80000) : Calls Tryz.prog 120 #[.slice a L.length cap] w fun e w' => e = .returned (.string ⟨(textOf (val L)).toArray⟩) ∧ Fr [] w w' := by
  have H := Lib.hid h
  clear h
  obtain ⟨n, hn⟩ : ∃ n, n = val L := ⟨_, rfl⟩
  have HN := Lib.hid hn
  rw [← hn]
  clear hn
  obtain ⟨i0, hi, hz0, hz1, hz2⟩ := info_parts info_u32
  have HI := Lib.hid hi
  have Z0 := Lib.hid hz0
  have Z1 := Lib.hid hz1
  have Z2 := Lib.hid hz2
  clear hi hz0 hz1 hz2
  by_cases hb : fits n = true
  · have CB := Lib.hid (r1big_c w H.out)
    rw [← HN.out, hb] at CB
    have HT : Hid (textOf n = Lib.decDigits n) := Lib.hid (by unfold textOf; rw [if_pos hb])
    have HD := fits_dec hb
    clear hb
    by_cases h0 : n = 0
    · have D : Hid (∀ W, Fr [] w W → (Ending.returned (.string ⟨#[48]⟩) = .returned (.string ⟨(textOf n).toArray⟩) ∧ Fr [] w W)) := Lib.hid (fun W hW => ⟨by rw [HT.out, h0, dec_small (by decide)]; rfl, hW⟩)
      have HL0 : Hid ((lims n).length = 0) := Lib.hid (by rw [h0]; rfl)
      clear HD h0
      go_enter Tryz.func120, Tryz.ntmps120
      go_wp2_with fail
      refine CB.out.mono ?_
      rintro e w1 ⟨rfl, F1⟩
      have F1 := Lib.hid F1
      have CT := Lib.hid (r1trim_c w1 (H.out.keep F1.out))
      rw [← HN.out] at CT
      go_wp2_with fail
      refine CT.out.mono ?_
      rintro e w2 ⟨a2, c2, rfl, N2, F2⟩
      have D := Lib.hid (D.out w2 (F1.out.same F2))
      clear N2 F2 F1 CT CB
      rw [HL0.out]
      go_wp2
      go_ret
      exact D.out
    · have hl0 : 0 < (lims n).length := lims_len_pos.2 h0
      have hlz : (((lims n).length : Int) == 0) = false := by rw [beq_eq_false_iff_ne]; omega
      have P0 := Popped.start h0
      clear h0
      go_enter Tryz.func120, Tryz.ntmps120
      go_wp2_with fail
      refine CB.out.mono ?_
      rintro e w1 ⟨rfl, F1⟩
      have F1 := Lib.hid F1
      have H1 := Lib.hid (H.out.keep F1.out)
      have CT := Lib.hid (r1trim_c w1 H1.out)
      rw [← HN.out] at CT
      go_wp2_with fail
      refine CT.out.mono ?_
      rintro e w2 ⟨a2, c2, rfl, N2, F2⟩
      have H2 := Lib.hid (H1.out.keep F2)
      have F2 := Lib.hid (F1.out.same F2)
      clear N2 F1 CT CB H1
      go_wp2_with fail
      go_loopw [0, 3, 4, 5, 6, 7] (fun s0 s3 _ _ _ _ wr => ∃ (aC : Option Addr) (cC : Nat) (C : List Nat) (t : List UInt8), s0 = .slice aC C.length cC ∧ C.length ≤ 80000 ∧ s3 = .string ⟨t.toArray⟩ ∧ t.length ≤ 617 ∧ Popped n (val C) t ∧ Hid (In wr aC cC C) ∧ Hid (Fr [] w wr)) (fun _ s3 _ _ _ _ _ => (match s3 with | .string s => 1000 - s.size | _ => 0))
      case atStart => exact ⟨a, cap, L, [], rfl, hla, rfl, by simp, by rw [← HN.out]; exact P0, H2, F2⟩
      case round =>
        obtain ⟨aC, cC, C, t, rfl, hC, rfl, ht, hP, hI, hF⟩ := hrel
        have CT := Lib.hid (r1trim_c wr hI.out)
        by_cases hv : val C = 0
        · have hl0' : Hid ((lims (val C)).length = 0) := Lib.hid (by rw [hv]; rfl)
          have D : Hid (∀ W, Fr [] w W → (Ending.returned (.string ⟨t.toArray⟩) = .returned (.string ⟨(textOf n).toArray⟩) ∧ Fr [] w W)) := Lib.hid (fun W hW => by
            unfold Popped at hP; rw [if_pos hv] at hP
            exact ⟨by rw [HT.out, hP], hW⟩)
          clear hP hv
          go_wp2_with fail
          refine CT.out.mono ?_
          rintro e w3 ⟨a3, c3, rfl, N3, F3⟩
          have D := Lib.hid (D.out w3 (hF.out.same F3))
          clear N3 F3 CT hI hF
          rw [hl0'.out]
          go_wp2
          go_ret
          exact D.out
        · have hlc : 0 < (lims (val C)).length := lims_len_pos.2 hv
          have PS := hP.step hv
          go_wp2_with fail
          refine CT.out.mono ?_
          rintro e w3 ⟨a3, c3, rfl, N3, F3⟩
          have I3 := Lib.hid (hI.out.keep F3)
          have F3 := Lib.hid (hF.out.same F3)
          clear N3 hI hF CT hP
          go_wp2_with fail
          have NB0 : Hid (Nw (w3.alloc (.cells #[] 108)) w3.heap.size (some ⟨w3.heap.size, 0, none⟩) 0 []) := Lib.hid (Nw.made w3 0 0 (Nat.le_refl _) (by omega) (by omega))
          have FB0 : Hid (Fr [] w3 (w3.alloc (.cells #[] 108))) := Lib.hid ((Fr.refl [] w3).alloc _)
          go_loopw [4, 5, 6, 7] (fun s4 s5 s6 _ wx => ∃ (k R g cO : Nat) (O : List Nat), k ≤ C.length ∧ s6 = .int .i64 ((k : Int) - 1) ∧ s4 = .slice (some ⟨g, 0, none⟩) O.length cO ∧ s5 = .int .u64 (R : Int) ∧ TenI C O k R ∧ Hid (Nw wx w3.heap.size (some ⟨g, 0, none⟩) cO O) ∧ Hid (Fr [] w3 wx)) (fun _ _ x _ _ => (intOf x + 1).toNat)
          case atStart => exact ⟨C.length, 0, _, _, [], Nat.le_refl _, rfl, rfl, rfl, TenI.start C, NB0, FB0⟩
          case round =>
            obtain ⟨k, R, g, cO, O, hk, rfl, rfl, rfl, hT, hN, hG⟩ := hrel
            cases k with
            | zero =>
              rw [show (((0 : Nat) : Int) - 1) = -1 from rfl]
              have hr := hT.r
              have HO : Hid (O.length = C.length ∧ val C = val O * 10 + R) := Lib.hid ⟨by have := hT.len; omega, by have := hT.v; simpa using this⟩
              have EQ : Hid (val C / 10 = val O ∧ val C % 10 = R) := Lib.hid (div_of HO.out.2 hr)
              rw [EQ.out.1, EQ.out.2] at PS
              obtain ⟨ch, hch⟩ : ∃ ch, ch = UInt8.ofNat (48 + R) := ⟨_, rfl⟩
              rw [← hch] at PS
              have hcv : (48 : Int) + (R : Int) = (ch.toNat : Int) := by rw [hch, ofNat_dig hr]; omega
              have KC := fun W => one_string W ch hcv
              have LT : Hid ((ch :: t).length ≤ 617) := Lib.hid (Popped.len PS HD)
              have NO : Hid (In (wr.alloc (.cells #[.int .u8 (48 + (R : Int))] 5)) (some ⟨g, 0, none⟩) cO O) := Lib.hid (hN.out.keep ((Fr.refl [] _).alloc _)).in
              have FO : Hid (Fr [] w (wr.alloc (.cells #[.int .u8 (48 + (R : Int))] 5))) := Lib.hid ((F3.out.same hG.out).alloc _)
              clear hT hch hN hG EQ hcv
              go_wp2_with fail
              go_roundw
              case rel => exact ⟨_, _, O, ch :: t, rfl, by rw [HO.out.1]; exact hC, by rw [ByteArray.mk_append_mk]; simp, LT.out, PS, NO, FO⟩
              case measure => simp [ByteArray.size]; omega
            | succ j =>
              rw [show (((j + 1 : Nat) : Int) - 1) = (j : Int) from by omega]
              have hj : j < C.length := by omega
              obtain ⟨bb, bo, rfl, bl, bc⟩ := (I3.out.keep hG.out).at hj
              have bx := lim_get I3.out.lim j
              have TS := hT.step (x := C[j]?.getD 0) rfl
              have hr := hT.r
              have hol := hT.len
              generalize C[j]?.getD 0 = x at *
              obtain ⟨T, hTe⟩ : ∃ T, T = R * 4294967296 + x := ⟨_, rfl⟩
              rw [← hTe] at TS
              have eI : (R : Int) * 4294967296 + (x : Int) = (T : Int) := by omega
              have q1 : (T : Int) / 10 = ((T / 10 : Nat) : Int) := by omega
              have q2 : (T : Int) % 10 = ((T % 10 : Nat) : Int) := by omega
              have hz : T / 10 < 4294967296 := by omega
              have hTb : T < 42949672960 := by omega
              generalize T / 10 = z at *
              generalize T % 10 = y at *
              have hOs : O.length ≤ 80000 := by omega
              have NO : Hid (Nw (wr.alloc (.cells #[.int .u32 (z : Int)] 108)) w3.heap.size (some ⟨g, 0, none⟩) cO O) := Lib.hid (hN.out.keep ((Fr.refl [] _).alloc _))
              have OW := Lib.hid (one_new wr z w3.heap.size hz hG.out.size).own
              have CE : Hid (∀ j u, (lc O)[j]? = some u → (wr.alloc (.cells #[.int .u32 (z : Int)] 108)).cell? ((⟨g, 0, none⟩ : Addr).add j) = some u) := Lib.hid (fun j u hu => by
                have h1 := own_cell NO.out.own hu
                rw [← h1]
                unfold Addr.add
                split
                · subst j; rfl
                · rw [Nat.zero_add])
              have hBs : w3.heap.size ≤ (wr.alloc (.cells #[.int .u32 (z : Int)] 108)).heap.size := by have := hG.out.size; rw [size_alloc]; omega
              clear hT hTe hN
              go_wp2_with (at_builtin; refine wpList_append_own _ rfl _ _ 23 rfl w3.heap.size 108 i0 (.int .u32 0) 1 4 Tryz.underlying23 HI.out Z0.out Z1.out Z2.out rfl (by decide) (.slice (some ⟨wr.heap.size, 0, none⟩) 1 1) 1 (lc [z]) rfl OW.out ⟨g, 0, none⟩ O.length cO (lc O) rfl (by rw [len_lc, Nat.mul_one]) CE.out (lc_one O) (by unfold maxLen; omega) (by omega) hBs ?_; intro v' w5 hown hgrow hnil)
              have ⟨aO, cO', hv'⟩ := own_slice hown
              subst hv'
              have N5 := Lib.hid (Nw.of_own (L := z :: O) (n := 1 + O.length) (by rw [app_list] at hown; exact hown) (lim_cons.2 ⟨hz, NO.out.lim⟩) (by simp; omega))
              have G5 : Hid (Fr [] w3 w5) := Lib.hid ((hG.out.alloc _).trans (grown_fr hgrow) (by intro q hq; simp [Value.ownBlock] at hq; subst hq; right; exact hG.out.size))
              obtain ⟨g5, rfl, _, _⟩ := N5.out.at (i := 0) (by simp)
              clear hown hgrow hnil CE OW NO
              go_wp2
              go_roundw
              case rel => exact ⟨j, y, g5, cO', z :: O, by omega, by first | rfl | go_num, by rw [List.length_cons, Nat.add_comm 1], by first | rfl | exact congrArg _ q2, TS, N5, G5⟩
              case measure => simp [intOf]
  · have CB := Lib.hid (r1big_c w H.out)
    have hbf : fits n = false := by simpa using hb
    rw [← HN.out, hbf] at CB
    have HT : Hid (textOf n = []) := Lib.hid (by unfold textOf; rw [if_neg hb])
    clear hb hbf
    go_enter Tryz.func120, Tryz.ntmps120
    go_wp2_with fail
    refine CB.out.mono ?_
    rintro e w1 ⟨rfl, F1⟩
    have D : Hid (Ending.returned (.string ⟨#[]⟩) = .returned (.string ⟨(textOf n).toArray⟩) ∧ Fr [] w w1) := Lib.hid ⟨by rw [HT.out], F1⟩
    clear F1
    go_wp2
    go_ret
    exact D.out
end Go.Proofs.YtjdanblijcdllaaGreatDoor
