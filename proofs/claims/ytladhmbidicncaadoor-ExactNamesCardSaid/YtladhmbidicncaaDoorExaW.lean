/- Exact: which numbers can be. -/
import Derived.Test.YtladhmbidicncaaDoorExaV
namespace Go.Proofs.YtladhmbidicncaaDoor
open Go.ChangeShapes Go.WideShapes Go.RowKit
variable {w w' w2 wr : World} {a b : Option Addr} {cap cap2 : Nat} {L M : List Nat} {B : Nat}
theorem lims_iff (hl : Lim L) : lims (val L) = L ↔ Top L := ⟨fun h => by rw [← h]; exact top_lims _, lims_val hl⟩
set_option maxRecDepth 100000 in
set_option maxHeartbeats 2000000 in
theorem eright_c (w : World) (s : Bool) (len : Nat) (h : InA w a len cap L) : Calls Tryd.prog 60 #[.agg #[.bool s, .slice a len cap]] w fun e w' => e = .returned (.bool (rightP s L)) ∧ Fr [] w w' := by
  have F0 : Hid (Fr [] w (w.alloc (.cells #[.bool s, .slice a len cap] 52))) := Lib.hid ((Fr.refl [] w).alloc _)
  have P : Hid (Bx (w.alloc (.cells #[.bool s, .slice a len cap] 52)) w.heap.size (.bool s) (.slice a len cap)) := Lib.hid (Bx.new _ _ _)
  have hn := h.len
  have hmx : (len : Int) ≤ 9223372036854775807 := by
    have h1 := h.le
    have h2 := h.cm
    unfold maxLen at h2
    omega
  by_cases h0 : len = 0
  · have hL : L = [] := List.length_eq_zero_iff.1 (by omega)
    have D : Hid (∀ W, Fr [] w W → (Ending.returned (.bool (!s)) = .returned (.bool (rightP s L)) ∧ Fr [] w W)) := Lib.hid (fun W hF => ⟨by
      have e : rightP s L = !s := by rw [hL]; unfold rightP; cases s <;> rfl
      rw [e], hF⟩)
    subst h0
    clear h hL hn hmx
    go_enter Tryd.func60, Tryd.ntmps60
    go_wp2
    go_ret
    exact D.out _ F0.out
  · have hz : ((len : Int) == 0) = false := by rw [beq_eq_false_iff_ne]; omega
    have hz2 : ¬ (len : Int) = 0 := by omega
    by_cases h64 : len ≤ 64
    · have hI : (len : Int) ≤ 64 := by omega
      obtain ⟨i, hi⟩ : ∃ i, len = i + 1 := ⟨len - 1, by omega⟩
      have hiL : i < L.length := by omega
      have hIn := h.in (by omega)
      obtain ⟨b, o, rfl, hbl, hc⟩ := (hIn.keep F0.out).at hiL
      have D : Hid (∀ W g, (decide (L[i]?.getD 0 = 0)) = !g → Fr [] w W → (Ending.returned (.bool g) = .returned (.bool (rightP s L)) ∧ Fr [] w W)) := Lib.hid (fun W g e hF => ⟨by
        have e1 : rightP s L = g := by
          unfold rightP
          rw [decide_eq_true (show L.length ≤ 64 by omega), decide_eq_false (show ¬ L.length = 0 by omega)]
          have e2 : decide (lims (val L) = L) = g := by
            rw [Bool.eq_iff_iff, decide_eq_true_eq, lims_iff h.lim]
            have e3 : Top L ↔ L[i]?.getD 0 ≠ 0 := by
              constructor
              · intro t; exact t i (by omega)
              · intro t j hj
                have : j = i := by omega
                rw [this]; exact t
            rw [e3]
            cases g <;> simp at e <;> simp [e]
          rw [e2]; simp
        rw [e1], hF⟩)
      have e1 : (len : Int) - 1 = (i : Int) := by omega
      have e2 : (i : Int) < (len : Int) := by omega
      have e3 : (0 : Int) ≤ (i : Int) := by omega
      obtain ⟨x, hx⟩ : ∃ x, x = L[i]?.getD 0 := ⟨_, rfl⟩
      rw [← hx] at hc D
      clear h hIn hn hi hiL hx h64 h0 hmx
      by_cases hx0 : x = 0
      · have DX := Lib.hid (fun W hF => D.out W false (by rw [hx0]; rfl) hF)
        have hxb : ((x : Int) == 0) = true := by rw [hx0]; rfl
        have hxI : (x : Int) = 0 := by omega
        clear hx0 D
        go_enter Tryd.func60, Tryd.ntmps60
        go_wp2
        go_ret
        exact DX.out _ F0.out
      · have DX := Lib.hid (fun W hF => D.out W true (by simp [hx0]) hF)
        have hxb : ((x : Int) == 0) = false := by rw [beq_eq_false_iff_ne]; omega
        have hxI : ¬ (x : Int) = 0 := by omega
        have HN : Hid (((x : Int) != 0) = true) := Lib.hid (by rw [bne_iff_ne]; omega)
        clear hx0 D
        go_enter Tryd.func60, Tryd.ntmps60
        go_wp2
        go_ret
        refine ⟨?_, F0.out⟩
        show Ending.returned (.bool ((x : Int) != 0)) = _
        rw [HN.out]
        exact (DX.out _ F0.out).1
    · have hI : ¬ (len : Int) ≤ 64 := by omega
      have D : Hid (∀ W, Fr [] w W → (Ending.returned (.bool false) = .returned (.bool (rightP s L)) ∧ Fr [] w W)) := Lib.hid (fun W hF => ⟨by
        have e : rightP s L = false := by unfold rightP; rw [decide_eq_false (show ¬ L.length ≤ 64 by omega)]; rfl
        rw [e], hF⟩)
      clear h hn h64 h0
      go_enter Tryd.func60, Tryd.ntmps60
      go_wp2
      go_ret
      exact D.out _ F0.out
end Go.Proofs.YtladhmbidicncaaDoor
