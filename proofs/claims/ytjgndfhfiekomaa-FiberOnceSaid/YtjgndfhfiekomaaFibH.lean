/- Fibers: segments grown, room for a frame. -/
import Derived.Test.YtjgndfhfiekomaaFibG
namespace Go.Proofs.Ytjgndfhfiekomaa
open Go.ChangeShapes Go.WideShapes Go.RowKit
variable {w0 w w1 w' : World} {c : Sk} {A A' : Ar} {top : Int} {last : Value}
/-- The first words of a segment are those of another one. -/
def growN (A : Ar) (m : Nat) (to seg : Int) : Nat → Ar
  | 0 => A
  | k + 1 => stF (growN A m to seg k) m to (2 + k) (gtF (growN A m to seg k) m seg (2 + k))
def grownF (A : Ar) (m : Nat) (seg need : Int) : Ar × Option Int :=
  match (segF A m (gtF A m seg 0) (min 238 (max (need + nmF A m seg 1) (2 * rmF A m seg)))).2 with
  | none => ((segF A m (gtF A m seg 0) (min 238 (max (need + nmF A m seg 1) (2 * rmF A m seg)))).1, none)
  | some x => (stF (growN (segF A m (gtF A m seg 0) (min 238 (max (need + nmF A m seg 1) (2 * rmF A m seg)))).1 m x seg (nmF A m seg 1).toNat) m x 1 (smW (nmF A m seg 1)), some x)
theorem segF_w (wd : A.Wd) {m : Nat} {prev room x : Int} (h : (segF A m prev room).2 = some x) : W64 x := by
  unfold segF at h
  cases ho : (makeF A m 15 (2 + room)).2 with
  | none => rw [ho] at h; cases h
  | some y =>
    rw [ho] at h
    simp at h
    exact h ▸ (makeF_wd wd m 15 (2 + room)).2 y ho
set_option maxHeartbeats 1000000 in
theorem kgrown_c (h : St w0 w c A top last) (seg need : Int) (hs : W64 seg) (n0 : 0 ≤ need) (n1 : need ≤ 1000) (u0 : 0 ≤ nmF A c.m seg 1) (u1 : nmF A c.m seg 1 ≤ 1000) : Calls Try.prog 141 #[.pointer (some ⟨c.kb, 0, none⟩), .int .u64 seg, .int .i64 need] w fun e w' => e = .returned (wordVal (grownF A c.m seg need).2) ∧ St w0 w' c (grownF A c.m seg need).1 top last := by
  have rb0 : 0 ≤ rmF A c.m seg := by unfold rmF; omega
  have rb1 : rmF A c.m seg ≤ 9007199254740992 := by have := szF_b h.a.wd (m := c.m) hs; unfold rmF; omega
  obtain ⟨u, hu⟩ : ∃ u : Nat, nmF A c.m seg 1 = (u : Int) := ⟨(nmF A c.m seg 1).toNat, by omega⟩
  have H := Lib.hid h
  have HS := Lib.hid hs
  have hgw := h.gw seg 0
  have CU := Lib.hid (kused_c h seg hs)
  have CG := Lib.hid (fun w1 (h1 : St w0 w1 c A top last) => kget_c h1 seg 0 hs (I64.of (by omega)))
  have CR := Lib.hid (fun w1 (h1 : St w0 w1 c A top last) => kroom_c h1 seg hs)
  rw [hu] at CU
  obtain ⟨sz, hsz⟩ : ∃ sz, sz = min 238 (max (need + (u : Int)) (2 * rmF A c.m seg)) := ⟨_, rfl⟩
  have CS := Lib.hid (fun w1 (h1 : St w0 w1 c A top last) => ksegment_c h1 (gtF A c.m seg 0) sz hgw (by omega) (by omega))
  have GR : Hid (grownF A c.m seg need = match (segF A c.m (gtF A c.m seg 0) sz).2 with
    | none => ((segF A c.m (gtF A c.m seg 0) sz).1, none)
    | some x => (stF (growN (segF A c.m (gtF A c.m seg 0) sz).1 c.m x seg u) c.m x 1 (smW (u : Int)), some x)) := Lib.hid (by unfold grownF; rw [hu, ← hsz]; rfl)
  have SW : Hid (∀ x, (segF A c.m (gtF A c.m seg 0) sz).2 = some x → W64 x) := Lib.hid (fun x hx => segF_w h.a.wd hx)
  rw [hu] at u0 u1
  generalize rmF A c.m seg = r at *
  generalize gtF A c.m seg 0 = gw at *
  have u1' : u ≤ 1000 := by omega
  have q : (¬ need + (u : Int) < 2 * r ∧ need + (u : Int) < 238 ∧ sz = need + (u : Int)) ∨ (¬ need + (u : Int) < 2 * r ∧ ¬ need + (u : Int) < 238 ∧ sz = 238) ∨ (need + (u : Int) < 2 * r ∧ 2 * r < 238 ∧ sz = 2 * r) ∨ (need + (u : Int) < 2 * r ∧ ¬ 2 * r < 238 ∧ sz = 238) := by omega
  clear h hs hu hsz
  cases ho : (segF A c.m gw sz).2 with
  | none =>
    rw [ho] at GR CS
    rw [GR.out]
    simp only [wordVal] at CS
    clear ho GR SW
    generalize (segF A c.m gw sz).1 = A1 at *
    rcases q with ⟨q1, q2, rfl⟩ | ⟨q1, q2, rfl⟩ | ⟨q1, q2, rfl⟩ | ⟨q1, q2, rfl⟩
    all_goals
      go_enter Try.func141, Try.ntmps141
      go_wp2_with fail
      refine CU.out.mono ?_
      rintro e w1 ⟨rfl, h1⟩
      go_wp2_with fail
      refine (CG.out _ h1).mono ?_
      rintro e w2 ⟨rfl, h2⟩
      go_wp2_with fail
      refine (CR.out _ h2).mono ?_
      rintro e w3 ⟨rfl, h3⟩
      go_wp2_with fail
      refine (CS.out _ h3).mono ?_
      rintro e w4 ⟨rfl, h4⟩
      clear CU CG CR CS h1 h2 h3
      go_wp2
      go_ret2
      exact ⟨rfl, h4⟩
  | some x =>
    rw [ho] at GR CS
    rw [GR.out]
    simp only [wordVal] at CS
    have hx := Lib.hid (SW.out x ho)
    clear ho GR SW
    generalize (segF A c.m gw sz).1 = A1 at *
    rcases q with ⟨q1, q2, rfl⟩ | ⟨q1, q2, rfl⟩ | ⟨q1, q2, rfl⟩ | ⟨q1, q2, rfl⟩
    all_goals
      go_enter Try.func141, Try.ntmps141
      go_wp2_with fail
      refine CU.out.mono ?_
      rintro e w1 ⟨rfl, h1⟩
      go_wp2_with fail
      refine (CG.out _ h1).mono ?_
      rintro e w2 ⟨rfl, h2⟩
      go_wp2_with fail
      refine (CR.out _ h2).mono ?_
      rintro e w3 ⟨rfl, h3⟩
      go_wp2_with fail
      refine (CS.out _ h3).mono ?_
      rintro e w4 ⟨rfl, h4⟩
      clear CU CG CR CS h1 h2 h3
      have h4 : Hid (St w0 w4 c (growN A1 c.m x seg 0) top last) := Lib.hid h4
      go_wp2_with fail
      go_loopw [35] (fun y wr => ∃ k : Nat, k ≤ u ∧ y = .int .i64 (k : Int) ∧ Hid (St w0 wr c (growN A1 c.m x seg k) top last)) (fun y _ => u - (intOf y).toNat)
      case atStart => exact ⟨0, Nat.zero_le _, rfl, h4⟩
      case round =>
        obtain ⟨k, hk, rfl, hS⟩ := hrel
        clear h4
        by_cases hlt : k < u
        · have CG := Lib.hid (kget_c hS.out seg (2 + (k : Int)) HS.out (I64.of (by omega)))
          have CT := Lib.hid (fun w1 (h1 : St w0 w1 c (growN A1 c.m x seg k) top last) => kset_c h1 x (2 + (k : Int)) (gtF (growN A1 c.m x seg k) c.m seg (2 + (k : Int))) hx.out (I64.of (by omega)) (h1.gw _ _))
          have FIN : Hid (∀ w2, St w0 w2 c (stF (growN A1 c.m x seg k) c.m x (2 + (k : Int)) (gtF (growN A1 c.m x seg k) c.m seg (2 + (k : Int)))) top last → St w0 w2 c (growN A1 c.m x seg (k + 1)) top last) := Lib.hid (fun w2 h => h)
          go_wp2_with fail
          refine CG.out.mono ?_
          rintro e w5 ⟨rfl, h5⟩
          go_wp2_with fail
          refine (CT.out _ h5).mono ?_
          rintro e w6 ⟨rfl, h6⟩
          have h6 := Lib.hid h6
          go_wp2
          go_roundw
          case rel => exact ⟨k + 1, by omega, by go_num, Lib.hid (FIN.out _ h6.out)⟩
          case measure => simp [intOf]; omega
        · have hku : k = u := by omega
          subst hku
          have CT := Lib.hid (fun w1 (h1 : St w0 w1 c (growN A1 c.m x seg k) top last) => kset_c h1 x 1 (smW (k : Int)) hx.out (I64.of (by omega)) (smW_w _))
          have h4 := hS.out
          go_wp2_with (first | (go_at_call 101; refine (small_c _ _ (by omega) (by omega)).mono ?_; rintro e w' ⟨rfl, rfl⟩) | (go_at_call 104; refine (CT.out _ h4).mono ?_; rintro e w' ⟨rfl, h7⟩))
          go_ret2
          exact ⟨rfl, h7⟩
end Go.Proofs.Ytjgndfhfiekomaa
