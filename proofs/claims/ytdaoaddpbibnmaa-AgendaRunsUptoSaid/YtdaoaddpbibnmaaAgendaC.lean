/- The agenda: the library's sifts over it. -/
import Derived.Test.YtdaoaddpbibnmaaAgendaB
set_option linter.all false
namespace Go.Proofs.Ytdaoaddpbibnmaa
open Go.ChangeShapes Go.WideShapes Go.RowKit
variable {w : World} {B g cap pb : Nat} {l : List E3} {c : Array Value} {T : TypeId}
theorem cmpI_lt (a b : Int) : cmpI a b < 0 ↔ a < b := by unfold cmpI; split <;> (try split) <;> omega
theorem cmpI_eq (a b : Int) : cmpI a b = 0 ↔ a = b := by unfold cmpI; split <;> (try split) <;> omega
theorem ltE_iff (a b : E3) : ltE a b = true ↔ a.t < b.t ∨ (a.t = b.t ∧ a.n < b.n) := by
  unfold ltE ordI
  simp only [decide_eq_true_eq]
  by_cases h : cmpI a.t b.t = 0
  · rw [if_pos h, cmpI_lt]; have := (cmpI_eq _ _).1 h; omega
  · rw [if_neg h, cmpI_lt]; have h2 : a.t ≠ b.t := fun e => h ((cmpI_eq a.t b.t).2 e)
    exact ⟨fun h3 => .inl h3, fun h3 => by rcases h3 with h3 | h3; exact h3; exact absurd h3.1 h2⟩
theorem ltE_no (a b : E3) : ltE a b = false ↔ ¬ (a.t < b.t ∨ (a.t = b.t ∧ a.n < b.n)) := by
  rw [← ltE_iff]; simp
theorem ordE : Order ltE := ⟨fun a b c h1 h2 => by rw [ltE_no] at *; omega, fun a b h => by rw [ltE_iff] at h; rw [ltE_no]; omega⟩
theorem method_load (P : Program) (w : World) (b : Nat) (v : Value) (f : FuncId) (h : w.cell? ⟨b, 0, none⟩ = some v) : ((load ⟨b, 0, none⟩ : Sem Value) >>= fun v => pure (f, v)).run P w = .ok (f, v) w := by
  simp [h, go_sem]
theorem method_less' (w : World) (b : Nat) : (method 210 52 (.pointer (some ⟨b, 0, none⟩)) "Less").run Try.prog w = ((load ⟨b, 0, none⟩ : Sem Value) >>= fun v => pure (60, v)).run Try.prog w := by kernel_rfl
theorem method_swap' (w : World) (b : Nat) : (method 210 52 (.pointer (some ⟨b, 0, none⟩)) "Swap").run Try.prog w = ((load ⟨b, 0, none⟩ : Sem Value) >>= fun v => pure (61, v)).run Try.prog w := by kernel_rfl
theorem method_len' (w : World) (b : Nat) : (method 210 52 (.pointer (some ⟨b, 0, none⟩)) "Len").run Try.prog w = ((load ⟨b, 0, none⟩ : Sem Value) >>= fun v => pure (59, v)).run Try.prog w := by kernel_rfl
theorem method_push (w : World) (b : Nat) : (method 210 52 (.pointer (some ⟨b, 0, none⟩)) "Push").run Try.prog w = .ok (63, .pointer (some ⟨b, 0, none⟩)) w := by kernel_rfl
theorem method_pop (w : World) (b : Nat) : (method 210 52 (.pointer (some ⟨b, 0, none⟩)) "Pop").run Try.prog w = .ok (62, .pointer (some ⟨b, 0, none⟩)) w := by kernel_rfl
/-- The interface value's pointer leads to a slice of entries that the call owns. -/
structure HpAt (w : World) (B pb : Nat) (c : Array Value) (T : TypeId) (g cap : Nat) (l : List E3) : Prop where
  p : blk w pb = some (.cells c T (0, 0))
  c0 : c[0]? = some (.slice (some ⟨g, 0, none⟩) l.length cap)
  en : EnAt w B (.slice (some ⟨g, 0, none⟩) l.length cap) l
  ne : g ≠ pb
theorem HpAt.cell (h : HpAt w B pb c T g cap l) : w.cell? ⟨pb, 0, none⟩ = some (.slice (some ⟨g, 0, none⟩) l.length cap) := cell_of h.p h.c0
theorem HpAt.less (h : HpAt w B pb c T g cap l) : (method 210 52 (.pointer (some ⟨pb, 0, none⟩)) "Less").run Try.prog w = .ok (60, .slice (some ⟨g, 0, none⟩) l.length cap) w := by
  rw [method_less', method_load _ _ _ _ _ h.cell]
theorem HpAt.swap (h : HpAt w B pb c T g cap l) : (method 210 52 (.pointer (some ⟨pb, 0, none⟩)) "Swap").run Try.prog w = .ok (61, .slice (some ⟨g, 0, none⟩) l.length cap) w := by
  rw [method_swap', method_load _ _ _ _ _ h.cell]
theorem HpAt.len (h : HpAt w B pb c T g cap l) : (method 210 52 (.pointer (some ⟨pb, 0, none⟩)) "Len").run Try.prog w = .ok (59, .slice (some ⟨g, 0, none⟩) l.length cap) w := by
  rw [method_len', method_load _ _ _ _ _ h.cell]
theorem HpAt.keep {w' : World} (h : HpAt w B pb c T g cap l) (hF : Fr [] w w') : HpAt w' B pb c T g cap l :=
  ⟨hF.at h.p (by simp), h.c0, own_fr h.en hF (by simp), h.ne⟩
theorem HpAt.swapped {w' : World} (h : HpAt w B pb c T g cap l) (i j : Nat) (hF : Fr [g] w w') (hE : EnAt w' B (.slice (some ⟨g, 0, none⟩) l.length cap) (swapL l i j)) : HpAt w' B pb c T g cap (swapL l i j) :=
  ⟨hF.at h.p (by simpa using Ne.symm h.ne), by rw [len_swapL]; exact h.c0, by rw [len_swapL]; exact hE, h.ne⟩
theorem up_c (w : World) (n : Nat) (hl : l.length = n) (j : Nat) (hj : j < n) (h : HpAt w B pb c T g cap l) (hu : UpInv ltE (nth l) n j) (hn : n ≤ 1000000) :
    Calls Try.prog 17 #[.iface 52 (.pointer (some ⟨pb, 0, none⟩)), .int .i64 (j : Int)] w fun e w' => e = .returned (.tuple #[]) ∧ ∃ l', l'.Perm l ∧ HeapF ltE (nth l') n ∧ HpAt w' B pb c T g cap l' ∧ Fr [g] w w' := by
  have H := Lib.hid h
  have U := Lib.hid hu
  have HL := Lib.hid hl
  clear h hu hl
  go_enter Try.func17, Try.ntmps17
  go_wp2
  go_loopw [1] (fun x wr => ∃ (j : Nat) (l' : List E3), j < n ∧ x = .int .i64 j ∧ Hid (l'.Perm l) ∧ Hid (UpInv ltE (nth l') n j) ∧ Hid (HpAt wr B pb c T g cap l') ∧ Fr [g] w wr) (fun x _ => (intOf x).toNat)
  case atStart => exact ⟨j, l, hj, rfl, Lib.hid (.refl _), U, H, Fr.refl _ _⟩
  case round =>
    obtain ⟨j, l', hj, rfl, hP, hU, hH, hF⟩ := hrel
    by_cases h0 : j = 0
    · subst h0
      go_wp2
      go_end0
      exact ⟨rfl, l', hP.out, hU.out.exit (fun h => by omega), hH.out, hF⟩
    · have hll : l'.length = n := hP.out.length_eq.trans HL.out
      have hpar : ((j : Int) - 1) / 2 = ((j - 1) / 2 : Nat) := by omega
      have ML := Lib.hid (hH.out.less)
      rw [hll] at ML
      have LC := Lib.hid (less_c wr hH.out.en j ((j - 1) / 2) (by omega) (by omega))
      rw [hll] at LC
      have hne : (((j - 1) / 2 : Nat) : Int) ≠ (j : Int) := by omega
      obtain ⟨i, hi⟩ : ∃ i, i = (j - 1) / 2 := ⟨_, rfl⟩
      have HI := Lib.hid hi
      rw [← hi] at hpar LC hne
      have hij : i < j := by omega
      have hb : ((i : Int) == (j : Int)) = false := by simpa using hne
      clear hi hne
      have MLo := ML.out
      cases hlt : ltE (nth l' j) (nth l' i) with
      | false =>
        rw [hlt] at LC
        have HLT := Lib.hid hlt
        clear hlt
        go_wp2_with fail
        refine LC.out.mono ?_
        rintro e w1 ⟨rfl, hF1⟩
        clear MLo
        go_wp2
        go_end0
        exact ⟨rfl, l', hP.out, hU.out.exit (fun _ => by rw [← HI.out]; exact HLT.out), hH.out.keep hF1, hF.trans hF1 (by simp)⟩
      | true =>
        rw [hlt] at LC
        have HLT := Lib.hid hlt
        clear hlt
        go_wp2_with fail
        refine LC.out.mono ?_
        rintro e w1 ⟨rfl, hF1⟩
        clear MLo
        have H1 := Lib.hid (hH.out.keep hF1)
        have MS := H1.out.swap
        rw [hll] at MS
        have SC := Lib.hid (swap_c w1 H1.out.en i j (by omega) (by omega))
        rw [hll] at SC
        go_wp2_with fail
        refine SC.out.mono ?_
        rintro e w2 ⟨rfl, hE2, hF2⟩
        clear MS
        have H2 := Lib.hid (H1.out.swapped i j hF2 (by rw [hll]; exact hE2))
        have P2 : Hid ((swapL l' i j).Perm l) := Lib.hid ((swapL_perm l' i j (by omega) (by omega)).trans hP.out)
        have U2 : Hid (UpInv ltE (nth (swapL l' i j)) n i) := Lib.hid (by
          have := hU.out.step ordE (by omega) hj (by rw [← HI.out]; exact HLT.out)
          rw [← HI.out] at this
          exact this.congr (by omega) (fun k _ => nth_swapL l' i j k (by omega) (by omega)))
        have F2 : Fr [g] w w2 := (hF.trans hF1 (by simp)).same hF2
        clear hE2 hF2 hF1
        go_wp2
        go_roundw
        case rel => exact ⟨i, swapL l' i j, by omega, rfl, P2, U2, H2, F2⟩
        case measure => simp [intOf]; omega
def DownDone (w : World) (B pb : Nat) (c : Array Value) (T : TypeId) (g cap : Nat) (l : List E3) (n : Nat) (e : Ending) (w' : World) : Prop :=
  ∃ r, e = .returned (.bool r) ∧ ∃ l', l'.Perm l ∧ HeapF ltE (nth l') n ∧ (∀ k, n ≤ k → nth l' k = nth l k) ∧ HpAt w' B pb c T g cap l' ∧ Fr [g] w w'
set_option maxHeartbeats 1000000 in
theorem down_c (w : World) (n N : Nat) (hl : l.length = N) (hnN : n ≤ N) (h : HpAt w B pb c T g cap l) (hu : DnInv ltE (nth l) n 0) (hn : N ≤ 1000000) :
    Calls Try.prog 21 #[.iface 52 (.pointer (some ⟨pb, 0, none⟩)), .int .i64 0, .int .i64 (n : Int)] w (DownDone w B pb c T g cap l n) := by
  have H := Lib.hid h
  have U := Lib.hid hu
  have HL := Lib.hid hl
  clear h hu hl
  go_enter Try.func21, Try.ntmps21
  go_wp2
  go_loopw [7] (fun x wr => ∃ (i : Nat) (l' : List E3), i ≤ N ∧ x = .int .i64 i ∧ Hid (l'.Perm l) ∧ Hid (DnInv ltE (nth l') n i) ∧ Hid (∀ k, n ≤ k → nth l' k = nth l k) ∧ Hid (HpAt wr B pb c T g cap l') ∧ Fr [g] w wr) (fun x _ => N + 1 - (intOf x).toNat)
  case atStart => exact ⟨0, l, by omega, rfl, Lib.hid (.refl _), U, Lib.hid (fun _ _ => rfl), H, Fr.refl _ _⟩
  case round =>
    obtain ⟨i, l', hiN, rfl, hP, hU, hK, hH, hF⟩ := hrel
    have hll : l'.length = N := hP.out.length_eq.trans HL.out
    by_cases hA : n ≤ 2 * i + 1
    · go_wp2
      go_ret
      refine ⟨_, rfl, l', hP.out, hU.out.exit (fun c h0 hc hp => by omega), hK.out, hH.out, hF⟩
    by_cases hB : 2 * i + 2 < n
    · have LC := Lib.hid (less_c wr hH.out.en (2 * i + 1 + 1) (2 * i + 1) (by omega) (by omega))
      rw [hll] at LC
      have ML := hH.out.less
      rw [hll] at ML
      cases hb1 : ltE (nth l' (2 * i + 1 + 1)) (nth l' (2 * i + 1)) with
      | true =>
        rw [hb1] at LC
        have HM : Hid (∀ c, 0 < c → c < n → (c - 1) / 2 = i → ltE (nth l' c) (nth l' (2 * i + 1 + 1)) = false) := Lib.hid (fun c h0 hc hp => by
          have : c = 2 * i + 1 ∨ c = 2 * i + 1 + 1 := by omega
          rcases this with rfl | rfl
          · exact ordE.asym _ _ hb1
          · exact ordE.rf _)
        clear hb1
        go_wp2_with fail
        refine LC.out.mono ?_
        rintro e wA ⟨rfl, hF1⟩
        clear ML
        have HX := Lib.hid (hH.out.keep hF1)
        have FX : Hid (Fr [g] w wA) := Lib.hid (hF.trans hF1 (by simp))
        clear hF1 LC
        have hjs : (2 * i + 1 + 1) < N := by omega
        have par : ((2 * i + 1 + 1) - 1) / 2 = i := by omega
        have LC2 := Lib.hid (less_c wA HX.out.en (2 * i + 1 + 1) i (by omega) (by omega))
        rw [hll] at LC2
        have ML2 := HX.out.less
        rw [hll] at ML2
        cases hb2 : ltE (nth l' (2 * i + 1 + 1)) (nth l' i) with
        | false =>
          rw [hb2] at LC2
          have HB2 := Lib.hid hb2
          clear hb2
          go_wp2_with fail
          refine LC2.out.mono ?_
          rintro e wB ⟨rfl, hF9⟩
          clear ML2
          go_wp2
          go_ret
          refine ⟨_, rfl, l', hP.out, hU.out.exit ?_, hK.out, HX.out.keep hF9, FX.out.trans hF9 (by simp)⟩
          intro c h0 hc hp
          exact ordE.tr _ _ _ HB2.out (HM.out c h0 hc hp)
        | true =>
          rw [hb2] at LC2
          have HB2 := Lib.hid hb2
          clear hb2
          go_wp2_with fail
          refine LC2.out.mono ?_
          rintro e wB ⟨rfl, hF9⟩
          clear ML2
          have HY := Lib.hid (HX.out.keep hF9)
          have FY : Hid (Fr [g] w wB) := Lib.hid (FX.out.trans hF9 (by simp))
          have MS := HY.out.swap
          rw [hll] at MS
          have SC := Lib.hid (swap_c wB HY.out.en i (2 * i + 1 + 1) (by omega) (by omega))
          rw [hll] at SC
          clear hF9
          go_wp2_with fail
          refine SC.out.mono ?_
          rintro e wC ⟨rfl, hE2, hF8⟩
          clear MS
          have H2 := Lib.hid (HY.out.swapped i (2 * i + 1 + 1) hF8 (by rw [hll]; exact hE2))
          have P2 : Hid ((swapL l' i (2 * i + 1 + 1)).Perm l) := Lib.hid ((swapL_perm l' i (2 * i + 1 + 1) (by omega) (by omega)).trans hP.out)
          have U2 : Hid (DnInv ltE (nth (swapL l' i (2 * i + 1 + 1))) n (2 * i + 1 + 1)) := Lib.hid ((hU.out.step ordE par (by omega) (by omega) HB2.out HM.out).congr (fun k _ => nth_swapL l' i (2 * i + 1 + 1) k (by omega) (by omega)))
          have K2 : Hid (∀ k, n ≤ k → nth (swapL l' i (2 * i + 1 + 1)) k = nth l k) := Lib.hid (fun k hk => by
            rw [nth_swapL l' i (2 * i + 1 + 1) k (by omega) (by omega)]; unfold swapF; rw [if_neg (by omega), if_neg (by omega)]; exact hK.out k hk)
          have F2 : Fr [g] w wC := FY.out.same hF8
          clear hE2 hF8
          go_wp2
          go_roundw
          case rel => exact ⟨(2 * i + 1 + 1), swapL l' i (2 * i + 1 + 1), by omega, by go_num, P2, U2, K2, H2, F2⟩
          case measure => simp [intOf]; omega
      | false =>
        rw [hb1] at LC
        have HM : Hid (∀ c, 0 < c → c < n → (c - 1) / 2 = i → ltE (nth l' c) (nth l' (2 * i + 1)) = false) := Lib.hid (fun c h0 hc hp => by
          have : c = 2 * i + 1 ∨ c = 2 * i + 1 + 1 := by omega
          rcases this with rfl | rfl
          · exact ordE.rf _
          · exact hb1)
        clear hb1
        go_wp2_with fail
        refine LC.out.mono ?_
        rintro e wA ⟨rfl, hF1⟩
        clear ML
        have HX := Lib.hid (hH.out.keep hF1)
        have FX : Hid (Fr [g] w wA) := Lib.hid (hF.trans hF1 (by simp))
        clear hF1 LC
        have hjs : (2 * i + 1) < N := by omega
        have par : ((2 * i + 1) - 1) / 2 = i := by omega
        have LC2 := Lib.hid (less_c wA HX.out.en (2 * i + 1) i (by omega) (by omega))
        rw [hll] at LC2
        have ML2 := HX.out.less
        rw [hll] at ML2
        cases hb2 : ltE (nth l' (2 * i + 1)) (nth l' i) with
        | false =>
          rw [hb2] at LC2
          have HB2 := Lib.hid hb2
          clear hb2
          go_wp2_with fail
          refine LC2.out.mono ?_
          rintro e wB ⟨rfl, hF9⟩
          clear ML2
          go_wp2
          go_ret
          refine ⟨_, rfl, l', hP.out, hU.out.exit ?_, hK.out, HX.out.keep hF9, FX.out.trans hF9 (by simp)⟩
          intro c h0 hc hp
          exact ordE.tr _ _ _ HB2.out (HM.out c h0 hc hp)
        | true =>
          rw [hb2] at LC2
          have HB2 := Lib.hid hb2
          clear hb2
          go_wp2_with fail
          refine LC2.out.mono ?_
          rintro e wB ⟨rfl, hF9⟩
          clear ML2
          have HY := Lib.hid (HX.out.keep hF9)
          have FY : Hid (Fr [g] w wB) := Lib.hid (FX.out.trans hF9 (by simp))
          have MS := HY.out.swap
          rw [hll] at MS
          have SC := Lib.hid (swap_c wB HY.out.en i (2 * i + 1) (by omega) (by omega))
          rw [hll] at SC
          clear hF9
          go_wp2_with fail
          refine SC.out.mono ?_
          rintro e wC ⟨rfl, hE2, hF8⟩
          clear MS
          have H2 := Lib.hid (HY.out.swapped i (2 * i + 1) hF8 (by rw [hll]; exact hE2))
          have P2 : Hid ((swapL l' i (2 * i + 1)).Perm l) := Lib.hid ((swapL_perm l' i (2 * i + 1) (by omega) (by omega)).trans hP.out)
          have U2 : Hid (DnInv ltE (nth (swapL l' i (2 * i + 1))) n (2 * i + 1)) := Lib.hid ((hU.out.step ordE par (by omega) (by omega) HB2.out HM.out).congr (fun k _ => nth_swapL l' i (2 * i + 1) k (by omega) (by omega)))
          have K2 : Hid (∀ k, n ≤ k → nth (swapL l' i (2 * i + 1)) k = nth l k) := Lib.hid (fun k hk => by
            rw [nth_swapL l' i (2 * i + 1) k (by omega) (by omega)]; unfold swapF; rw [if_neg (by omega), if_neg (by omega)]; exact hK.out k hk)
          have F2 : Fr [g] w wC := FY.out.same hF8
          clear hE2 hF8
          go_wp2
          go_roundw
          case rel => exact ⟨(2 * i + 1), swapL l' i (2 * i + 1), by omega, by go_num, P2, U2, K2, H2, F2⟩
          case measure => simp [intOf]; omega
    · have HM : Hid (∀ c, 0 < c → c < n → (c - 1) / 2 = i → ltE (nth l' c) (nth l' (2 * i + 1)) = false) := Lib.hid (fun c h0 hc hp => by
        have : c = 2 * i + 1 := by omega
        subst this
        exact ordE.rf _)
      have HX := hH
      have FX : Hid (Fr [g] w wr) := Lib.hid hF
      have hjs : (2 * i + 1) < N := by omega
      have par : ((2 * i + 1) - 1) / 2 = i := by omega
      have LC2 := Lib.hid (less_c wr HX.out.en (2 * i + 1) i (by omega) (by omega))
      rw [hll] at LC2
      have ML2 := HX.out.less
      rw [hll] at ML2
      cases hb2 : ltE (nth l' (2 * i + 1)) (nth l' i) with
      | false =>
        rw [hb2] at LC2
        have HB2 := Lib.hid hb2
        clear hb2
        go_wp2_with fail
        refine LC2.out.mono ?_
        rintro e wB ⟨rfl, hF9⟩
        clear ML2
        go_wp2
        go_ret
        refine ⟨_, rfl, l', hP.out, hU.out.exit ?_, hK.out, HX.out.keep hF9, FX.out.trans hF9 (by simp)⟩
        intro c h0 hc hp
        exact ordE.tr _ _ _ HB2.out (HM.out c h0 hc hp)
      | true =>
        rw [hb2] at LC2
        have HB2 := Lib.hid hb2
        clear hb2
        go_wp2_with fail
        refine LC2.out.mono ?_
        rintro e wB ⟨rfl, hF9⟩
        clear ML2
        have HY := Lib.hid (HX.out.keep hF9)
        have FY : Hid (Fr [g] w wB) := Lib.hid (FX.out.trans hF9 (by simp))
        have MS := HY.out.swap
        rw [hll] at MS
        have SC := Lib.hid (swap_c wB HY.out.en i (2 * i + 1) (by omega) (by omega))
        rw [hll] at SC
        clear hF9
        go_wp2_with fail
        refine SC.out.mono ?_
        rintro e wC ⟨rfl, hE2, hF8⟩
        clear MS
        have H2 := Lib.hid (HY.out.swapped i (2 * i + 1) hF8 (by rw [hll]; exact hE2))
        have P2 : Hid ((swapL l' i (2 * i + 1)).Perm l) := Lib.hid ((swapL_perm l' i (2 * i + 1) (by omega) (by omega)).trans hP.out)
        have U2 : Hid (DnInv ltE (nth (swapL l' i (2 * i + 1))) n (2 * i + 1)) := Lib.hid ((hU.out.step ordE par (by omega) (by omega) HB2.out HM.out).congr (fun k _ => nth_swapL l' i (2 * i + 1) k (by omega) (by omega)))
        have K2 : Hid (∀ k, n ≤ k → nth (swapL l' i (2 * i + 1)) k = nth l k) := Lib.hid (fun k hk => by
          rw [nth_swapL l' i (2 * i + 1) k (by omega) (by omega)]; unfold swapF; rw [if_neg (by omega), if_neg (by omega)]; exact hK.out k hk)
        have F2 : Fr [g] w wC := FY.out.same hF8
        clear hE2 hF8
        go_wp2
        go_roundw
        case rel => exact ⟨(2 * i + 1), swapL l' i (2 * i + 1), by omega, by go_num, P2, U2, K2, H2, F2⟩
        case measure => simp [intOf]; omega
end Go.Proofs.Ytdaoaddpbibnmaa
