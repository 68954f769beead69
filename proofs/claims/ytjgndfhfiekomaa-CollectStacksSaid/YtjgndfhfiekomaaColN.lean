/- Collecting: how many of an object's fields count. -/
import Derived.Test.YtjgndfhfiekomaaColM
namespace Go.Proofs.Ytjgndfhfiekomaa
open Go.ChangeShapes Go.WideShapes Go.RowKit Go.Maps
variable {w w' : World} {c : Tk} {m n : Nat} {cl : Int → Int} {wv : Value} {T : Tr}
def kdI (A : Ar) (m : Nat) (x : Int) : Int := ((hAt A m x).map fun h => (h.kind : Int)).getD (-1)
def countF (k n u : Int) : Int :=
  if 16 ≤ k ∧ k < 32 then 0 else
  if k ≠ 15 ∨ n < 2 then n else
  if u % 8 ≠ 0 ∨ wVal u < 0 then 2 else 2 + min (wVal u) (n - 2)
def countedF (A : Ar) (m : Nat) (x : Int) : Int := countF (kdI A m x) (szI A m x) (getF A m x 1).1
theorem kdI_b (wd : T.A.Wd) {x : Int} (x0 : 0 ≤ x) : -1 ≤ kdI T.A m x ∧ kdI T.A m x < 32 := by
  unfold kdI
  cases ho : hAt T.A m x with
  | none => simp
  | some o => have := (hAt_bd wd x0 ho).2.1; simp; omega
theorem getF_w {A : Ar} (wd : A.Wd) (m : Nat) (x i : Int) : 0 ≤ (getF A m x i).1 ∧ (getF A m x i).1 < 18446744073709551616 := by
  unfold getF
  cases hAt A m x with
  | none => simp
  | some o =>
    simp only
    split
    · simp
    · exact wd.at _
set_option maxRecDepth 10000 in
set_option maxHeartbeats 4000000 in
theorem counted_c (h : TrAt w c m n cl wv T) (x : Int) (x0 : 0 ≤ x) (x1 : x < 18446744073709551616) :
    Calls Try.prog 137 #[.pointer (some ⟨c.tb, 0, none⟩), .int .u64 x] w fun e w' => e = .returned (.int .i64 (countedF T.A m x)) ∧ Fr [] w w' := by
  have CS := Lib.hid (fun wa (hF : Fr [] w wa) => osize_c wa (h.h.keep hF) h.ok h.wd x x0 x1)
  have CK := Lib.hid (fun wa (hF : Fr [] w wa) => okind_c wa (h.h.keep hF) h.ok h.wd x x0 x1)
  change Hid (∀ wa, _ → Calls _ _ _ _ fun e w' => e = .returned (.int .i64 (szI T.A m x)) ∧ Fr [] wa w') at CS
  change Hid (∀ wa, _ → Calls _ _ _ _ fun e w' => e = .returned (.int .i64 (kdI T.A m x)) ∧ Fr [] wa w') at CK
  have CG := Lib.hid (fun wa (hF : Fr [] w wa) => oget_c wa (h.h.keep hF) h.ok h.wd x 1 x0 x1 (by omega))
  have hzb := szI_b (m := m) h.wd x0
  have hkb := kdI_b (m := m) h.wd x0
  have hub := getF_w h.wd m x 1
  have k0 := h.c0
  have KC := Lib.hid (fun wa (hF : Fr [] w wa) => (h.keep hF).c0)
  unfold countedF
  generalize szI T.A m x = z at *
  generalize kdI T.A m x = k at *
  generalize getF T.A m x 1 = gu at *
  obtain ⟨u, ue⟩ := gu
  simp only [] at hub CG ⊢
  have CU := Lib.hid (fun wa => kind_c u wa hub.1 hub.2)
  have CV := Lib.hid (fun wa => value_c u wa hub.1 hub.2)
  have hvb : -1152921504606846976 ≤ wVal u ∧ wVal u ≤ 2305843009213693952 := by unfold wVal; split <;> omega
  have EC : Hid (∀ v, v = countF k z u → v = countF k z u) := Lib.hid (fun v h => h)
  have EF := Lib.hid (show ∀ v : Int, v = (if 16 ≤ k ∧ k < 32 then 0 else if k ≠ 15 ∨ z < 2 then z else if u % 8 ≠ 0 ∨ wVal u < 0 then 2 else 2 + min (wVal u) (z - 2)) → v = countF k z u from fun v h => h)
  generalize countF k z u = cf at *
  generalize wVal u = uv at *
  clear h
  go_enter Try.func137, Try.ntmps137
  go_wp2_with fail
  go_region_held3 (fun W => W.cell? ⟨c.tb, 0, none⟩ = some (.pointer (some ⟨c.hb, 0, none⟩))) (with_reducible first | assumption | exact KC.out _ GF | exact KC.out _ (Fr.refl _ _).drew) (first | (go_at_call 29; refine (CK.out _ (by repeat (first | exact Fr.refl _ _ | exact GF | apply Fr.drew))).mono ?_; rintro e w2 ⟨rfl, F2⟩; have GF : Fr [] w w2 := Fr.same (by repeat (first | exact Fr.refl _ _ | exact GF | apply Fr.drew)) F2) | (go_at_call 30; refine (CS.out _ (by repeat (first | exact Fr.refl _ _ | exact GF | apply Fr.drew))).mono ?_; rintro e w2 ⟨rfl, F2⟩; have GF : Fr [] w w2 := Fr.same (by repeat (first | exact Fr.refl _ _ | exact GF | apply Fr.drew)) F2))
  have GF := Lib.hid GF
  have k1 := KC.out _ GF.out
  have RC := raw_c w2 k
  clear CS CK KC F2 k0
  by_cases hr : 16 ≤ k ∧ k < 32
  · have hd : decide (16 ≤ k ∧ k < 32) = true := by simpa using hr
    rw [hd] at RC
    have hv := Lib.hid (show (0 : Int) = cf from EF.out _ (by rw [if_pos hr]))
    clear EF EC CG CU CV hr
    go_wp2_with (go_at_call 71; refine RC.mono ?_; rintro e w' ⟨rfl, rfl⟩)
    go_ret
    exact ⟨ret_int (by have := hv.out; omega), GF.out⟩
  · have hd : decide (16 ≤ k ∧ k < 32) = false := by simpa using hr
    rw [hd] at RC
    rw [if_neg hr] at EF
    by_cases hk : k = 15
    · have hkb' : (k == 15) = true := by simpa using hk
      by_cases hz : z < 2
      · have hzd : decide (z < 2) = true := by simpa using hz
        have hv := Lib.hid (show z = cf from EF.out _ (by rw [if_pos (.inr hz)]))
        clear EF EC CG CU CV hr
        subst hk
        go_wp2_with (go_at_call 71; refine RC.mono ?_; rintro e w' ⟨rfl, rfl⟩)
        go_ret
        exact ⟨ret_int (by have := hv.out; omega), GF.out⟩
      · have hzd : decide (z < 2) = false := by simpa using hz
        rw [if_neg (by omega)] at EF
        have CG1 := CG.out _ GF.out
        subst hk
        clear hr CG EC
        by_cases hu : u % 8 = 0
        · have hub' : (u % 8 == 0) = true := by simpa using hu
          by_cases hn : uv < 0
          · have hv := Lib.hid (show (2 : Int) = cf from EF.out _ (by rw [if_pos (.inr hn)]))
            have hnd : decide (uv < 0) = true := by simpa using hn
            clear EF
            go_wp2_with (go_at_call 71; refine RC.mono ?_; rintro e w' ⟨rfl, rfl⟩)
            refine CG1.mono ?_
            rintro e w3 ⟨rfl, F3⟩
            go_wp2_with (first | (go_at_call 81; refine (CU.out _).mono ?_; rintro e w' ⟨rfl, rfl⟩) | (go_at_call 82; refine (CV.out _).mono ?_; rintro e w' ⟨rfl, rfl⟩))
            all_goals (try go_wp2)
            all_goals go_ret
            all_goals exact ⟨ret_int (by have := hv.out; omega), GF.out.same F3⟩
          · have hv := Lib.hid (show 2 + min uv (z - 2) = cf from EF.out _ (by rw [if_neg (by omega)]))
            have hnd : decide (uv < 0) = false := by simpa using hn
            clear EF
            go_wp2_with (go_at_call 71; refine RC.mono ?_; rintro e w' ⟨rfl, rfl⟩)
            refine CG1.mono ?_
            rintro e w3 ⟨rfl, F3⟩
            go_wp2_with (first | (go_at_call 81; refine (CU.out _).mono ?_; rintro e w' ⟨rfl, rfl⟩) | (go_at_call 82; refine (CV.out _).mono ?_; rintro e w' ⟨rfl, rfl⟩))
            all_goals (try go_wp2)
            all_goals go_ret
            all_goals exact ⟨ret_int (by have := hv.out; omega), GF.out.same F3⟩
        · have hub' : (u % 8 == 0) = false := by simpa using hu
          have hv := Lib.hid (show (2 : Int) = cf from EF.out _ (by rw [if_pos (.inl hu)]))
          clear EF
          go_wp2_with (go_at_call 71; refine RC.mono ?_; rintro e w' ⟨rfl, rfl⟩)
          refine CG1.mono ?_
          rintro e w3 ⟨rfl, F3⟩
          go_wp2_with (first | (go_at_call 81; refine (CU.out _).mono ?_; rintro e w' ⟨rfl, rfl⟩) | (go_at_call 82; refine (CV.out _).mono ?_; rintro e w' ⟨rfl, rfl⟩))
          go_ret
          exact ⟨ret_int (by have := hv.out; omega), GF.out.same F3⟩
    · have hkb' : (k == 15) = false := by simpa using hk
      have hv := Lib.hid (show z = cf from EF.out _ (by rw [if_pos (.inl hk)]))
      clear EF EC CG CU CV hr
      go_wp2_with (go_at_call 71; refine RC.mono ?_; rintro e w' ⟨rfl, rfl⟩)
      go_ret
      exact ⟨ret_int (by have := hv.out; omega), GF.out⟩
end Go.Proofs.Ytjgndfhfiekomaa
