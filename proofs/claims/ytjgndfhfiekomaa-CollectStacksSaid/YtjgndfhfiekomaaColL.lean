/- Collecting: a word's object that did not move: was it met? -/
import Derived.Test.YtjgndfhfiekomaaColK
namespace Go.Proofs.Ytjgndfhfiekomaa
open Go.ChangeShapes Go.WideShapes Go.RowKit Go.Maps
variable {w w' : World} {c : Tk} {m n : Nat} {cl : Int → Int} {wv : Value} {T : Tr}
set_option maxRecDepth 10000 in
set_option maxHeartbeats 2000000 in
theorem follow_old (h : TrAt w c m n cl wv T) (hB : c.B ≤ w.heap.size) (x : Int) (x0 : 0 ≤ x) (x1 : x < 18446744073709551616) (hx : x % 8 = 1) (hy : movedF T.A m x = none)
    (ho : szI T.A m x < 0 ∨ (T.seen.length : Int) ≤ wVal x ∨ T.seen[(wVal x).toNat]?.getD true = true) :
    Calls Try.prog 88 #[.pointer (some ⟨c.tb, 0, none⟩), .int .u64 x] w (FwDone c m n cl w (followT cl m T x)) := by
  have E : Hid (∀ w', Fr [] w w' → FwDone c m n cl w (followT cl m T x) (.returned (.int .u64 x)) w') := Lib.hid (by
    intro w' hF
    unfold followT
    rw [if_neg (by simpa using hx), hy]
    simp only [if_pos ho]
    exact ⟨rfl, ⟨wv, h.keep hF⟩, FB.nil hF hB⟩)
  have CK := Lib.hid (kind_c x w x0 x1)
  have CM := Lib.hid (omoved_c w h.h h.ok h.wd x x0 x1)
  have CV := Lib.hid (fun wa => value_c x wa x0 x1)
  have CS := Lib.hid (fun wa (hF : Fr [] w wa) => osize_c wa (h.h.keep hF) h.ok h.wd x x0 x1)
  change Hid (∀ wa, _ → Calls _ _ _ _ fun e w' => e = .returned (.int .i64 (szI T.A m x)) ∧ Fr [] wa w') at CS
  obtain ⟨a, ha⟩ : ∃ a : Nat, wVal x = a := ⟨(x / 8).toNat, by rw [val1 x hx]; omega⟩
  have hab : a ≤ 2305843009213693952 := by have := val1 x hx; omega
  rw [ha] at CV ho
  rw [Int.toNat_natCast] at ho
  have KC := Lib.hid (fun wa (hF : Fr [] w wa) => show wa.cell? ⟨c.tb, 0, none⟩ = some (.pointer (some ⟨c.hb, 0, none⟩)) ∧ wa.cell? ⟨c.tb, 4, none⟩ = some (.slice (some ⟨c.sb, 0, none⟩) T.seen.length T.seen.length) from ⟨(h.keep hF).c0, (h.keep hF).c4⟩)
  have KS := Lib.hid (fun wa (hF : Fr [] w wa) (hi : a < T.seen.length) => (h.keep hF).cs hi)
  have hsl : (T.seen.length : Int) ≤ 1048576 := by have := h.sl; have := h.ok.m2; omega
  have k0 := h.c0
  rw [hy] at CM
  have hzb := szI_b (m := m) h.wd x0
  obtain ⟨N, hN⟩ : ∃ N : Nat, N = T.seen.length := ⟨_, rfl⟩
  obtain ⟨sn, hsn⟩ : ∃ s, s = T.seen[a]?.getD true := ⟨_, rfl⟩
  rw [← hN] at KC KS ho hsl
  rw [← hsn] at ho KS
  generalize szI T.A m x = z at *
  generalize followT cl m T x = r at *
  clear h hB hy hN hsn ha
  go_enter Try.func88, Try.ntmps88
  go_wp2_with (go_at_call 81; refine CK.out.mono ?_; rintro e w' ⟨rfl, rfl⟩)
  refine CM.out.mono ?_
  rintro e w1 ⟨rfl, F1⟩
  have K1 := KC.out _ F1
  simp only [wordVal]
  clear CM CK
  go_wp2_with fail
  go_region_held3 (fun W => W.cell? ⟨c.tb, 0, none⟩ = some (.pointer (some ⟨c.hb, 0, none⟩)) ∧ W.cell? ⟨c.tb, 4, none⟩ = some (.slice (some ⟨c.sb, 0, none⟩) N N)) (with_reducible first | assumption | exact KC.out _ (by assumption) | exact KC.out _ (F1.same (Fr.refl _ _).drew)) (first | (go_at_call 82; refine (CV.out _).mono ?_; rintro e w2 ⟨rfl, rfl⟩) | (go_at_call 30; refine (CS.out _ (Fr.same F1 (by repeat (first | exact Fr.refl _ _ | apply Fr.drew)))).mono ?_; rintro e w2 ⟨rfl, F2⟩; have F3 : Fr [] w w2 := F1.same (Fr.same (by repeat (first | exact Fr.refl _ _ | apply Fr.drew)) F2)))
  have F3 := Lib.hid F3
  obtain ⟨q0, q4⟩ := KC.out _ F3.out
  have q5 := KS.out _ F3.out
  clear F1 F2 K1 k0 CV CS KC KS
  rcases Int.lt_or_le z 0 with hz | hz
  · have hzb' : decide (z < 0) = true := by simpa using hz
    go_wp2
    go_ret
    exact E.out _ F3.out
  · have hzb' : decide (z < 0) = false := by simp; omega
    rcases Nat.lt_or_ge a N with ha | ha
    · have hs : sn = true := by rcases ho with h | h | h; omega; omega; exact h
      have q6 := q5 ha
      subst hs
      clear ho q5
      go_wp2
      go_ret
      exact E.out _ F3.out
    · clear ho q5
      go_wp2
      go_ret
      exact E.out _ F3.out
end Go.Proofs.Ytjgndfhfiekomaa
