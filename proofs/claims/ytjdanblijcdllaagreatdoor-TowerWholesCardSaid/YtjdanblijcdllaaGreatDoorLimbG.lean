/- Limbs: a limb of the quotient, guessed. -/
import Derived.Test.YtjdanblijcdllaaGreatDoorLimbF
set_option linter.all false
namespace Go.Proofs.YtjdanblijcdllaaGreatDoor
open Go.ChangeShapes Go.WideShapes Go.RowKit
variable {w w' w2 wr : World} {a b : Option Addr} {cap cap2 : Nat} {L M : List Nat} {B : Nat}
/-- The guess from two limbs of the divisor and three of what is divided: 'T' tells the two upper ones. -/
structure GuessInv (T u2 v1 v2 q r : Nat) : Prop where
  e : q * v1 + r = T
  mx : ∀ k, k < 4294967296 → k * (v1 * 4294967296 + v2) ≤ T * 4294967296 + u2 → k ≤ q
  r1 : r < 4294967296
structure GuessOk (T u2 v1 v2 q : Nat) : Prop where
  lt : q < 4294967296
  le : q * (v1 * 4294967296 + v2) ≤ T * 4294967296 + u2
  mx : ∀ k, k < 4294967296 → k * (v1 * 4294967296 + v2) ≤ T * 4294967296 + u2 → k ≤ q
theorem guess_start {T u2 v1 v2 k : Nat} (hu2 : u2 < 4294967296) (hle : k * (v1 * 4294967296 + v2) ≤ T * 4294967296 + u2) : k * v1 ≤ T := by
  have e : k * (v1 * 4294967296 + v2) = k * v1 * 4294967296 + k * v2 := by rw [Nat.mul_add, Nat.mul_assoc]
  rw [e] at hle
  generalize k * v1 = A at *
  generalize k * v2 = C at *
  omega
theorem GuessInv.start {T u2 v1 v2 : Nat} (h1 : 0 < v1) (h2 : v1 < 4294967296) (hu2 : u2 < 4294967296) : GuessInv T u2 v1 v2 (T / v1) (T % v1) :=
  ⟨by rw [Nat.mul_comm]; exact Nat.div_add_mod _ _, fun k _ hle => (Nat.le_div_iff_mul_le h1).2 (guess_start hu2 hle), Nat.lt_trans (Nat.mod_lt _ h1) h2⟩
theorem guess_key {T q r v1 v2 : Nat} (e : q * v1 + r = T) : q * (v1 * 4294967296 + v2) + r * 4294967296 = T * 4294967296 + q * v2 := by
  subst e
  rw [Nat.mul_add, Nat.add_mul, ← Nat.mul_assoc]
  omega
theorem GuessInv.down {T u2 v1 v2 q r : Nat} (h : GuessInv T u2 v1 v2 q r) (ht : 4294967296 ≤ q ∨ r * 4294967296 + u2 < q * v2) : 0 < q ∧ (q - 1) * v1 + (r + v1) = T ∧
    (∀ k, k < 4294967296 → k * (v1 * 4294967296 + v2) ≤ T * 4294967296 + u2 → k ≤ q - 1) := by
  have hq : 0 < q := by
    rcases Nat.eq_zero_or_pos q with h0 | h0
    · subst h0; simp at ht
    · exact h0
  refine ⟨hq, ?_, fun k hk hle => ?_⟩
  · have : (q - 1) * v1 + v1 = q * v1 := by rw [← Nat.succ_mul]; congr 1; omega
    have := h.e
    omega
  · have h1 := h.mx k hk hle
    rcases Nat.lt_or_ge k q with h2 | h2
    · omega
    · have : k = q := by omega
      subst this
      have := guess_key (v2 := v2) h.e
      omega
theorem GuessInv.exit {T u2 v1 v2 q r : Nat} (h : GuessInv T u2 v1 v2 q r) (h1 : q < 4294967296) (h2 : q * v2 ≤ r * 4294967296 + u2) : GuessOk T u2 v1 v2 q := by
  refine ⟨h1, ?_, h.mx⟩
  have := guess_key (v2 := v2) h.e
  omega
/-- The rest is too great: it is left. -/
theorem guess_break {T u2 v1 v2 q r : Nat} (e : q * v1 + r = T) (mx : ∀ k, k < 4294967296 → k * (v1 * 4294967296 + v2) ≤ T * 4294967296 + u2 → k ≤ q)
    (hr : 4294967296 ≤ r) (h0 : T < v1 * 4294967296 + 4294967296) (h2 : v2 < 4294967296) : GuessOk T u2 v1 v2 q := by
  have hq : q < 4294967296 := by
    have h4 : q * v1 < 4294967296 * v1 := by omega
    exact Nat.lt_of_mul_lt_mul_right h4
  refine ⟨hq, ?_, mx⟩
  have h5 := guess_key (v2 := v2) e
  have h6 : q * v2 ≤ 4294967296 * 4294967296 := Nat.mul_le_mul (by omega) (by omega)
  have h7 : 4294967296 * 4294967296 ≤ r * 4294967296 := Nat.mul_le_mul_right _ hr
  omega
def GuessR (w : World) (T u2 v1 v2 : Nat) (e : Ending) (w' : World) : Prop := ∃ q : Nat, e = .returned (.int .u64 (q : Int)) ∧ GuessOk T u2 v1 v2 q ∧ Fr [] w w'
theorem i64w (x : Int) (y : Nat) (h : x = y) (hb : y ≤ 1000000) : IntKind.i64.wrap x = (y : Int) := by rw [h]; exact IntWalk.i64_in _ (by omega)
set_option maxHeartbeats 2000000 in
set_option maxRecDepth 100000 in
theorem lguess_w (w : World) (g gv lu cu cv N j i0 i1 i2 m1 m2 u0 u1 u2 v1 v2 : Nat)
    (c0 : w.cell? ⟨g, i0, none⟩ = some (.int .u32 (u0 : Int))) (c1 : w.cell? ⟨g, i1, none⟩ = some (.int .u32 (u1 : Int))) (c2 : w.cell? ⟨g, i2, none⟩ = some (.int .u32 (u2 : Int)))
    (d1 : w.cell? ⟨gv, m1, none⟩ = some (.int .u32 (v1 : Int))) (d2 : w.cell? ⟨gv, m2, none⟩ = some (.int .u32 (v2 : Int)))
    (e0 : i0 = j + N) (e1 : i1 + 1 = i0) (e2 : i2 + 2 = i0) (f1 : m1 + 1 = N) (f2 : m2 + 2 = N) (hlu : i0 < lu) (hlu2 : lu ≤ 100000) (hN : N ≤ 100000)
    (b0 : u0 < 4294967296) (b1 : u1 < 4294967296) (b2 : u2 < 4294967296) (b3 : v1 < 4294967296) (b4 : v2 < 4294967296) (hv1 : 0 < v1) (h01 : u0 ≤ v1) (gl : g < w.heap.size) (gvl : gv < w.heap.size) :
    Calls Tryz.prog 175 #[.slice (some ⟨g, 0, none⟩) lu cu, .slice (some ⟨gv, 0, none⟩) N cv, .int .i64 (j : Int)] w (GuessR w (u0 * 4294967296 + u1) u2 v1 v2) := by
  have s1 : IntKind.i64.wrap ((j : Int) + (N : Int)) = (i0 : Int) := i64w _ _ (by omega) (by omega)
  have s2 : IntKind.i64.wrap ((i0 : Int) - 1) = (i1 : Int) := i64w _ _ (by omega) (by omega)
  have s3 : IntKind.i64.wrap ((i0 : Int) - 2) = (i2 : Int) := i64w _ _ (by omega) (by omega)
  have s4 : IntKind.i64.wrap ((N : Int) - 1) = (m1 : Int) := i64w _ _ (by omega) (by omega)
  have s5 : IntKind.i64.wrap ((N : Int) - 2) = (m2 : Int) := i64w _ _ (by omega) (by omega)
  have E1 := or32 u0 u1 b0 b1
  have ld0 : (0 : Int) ≤ (i0 : Int) := by omega
  have ld1 : (0 : Int) ≤ (i1 : Int) := by omega
  have ld2 : (0 : Int) ≤ (i2 : Int) := by omega
  have ld3 : (0 : Int) ≤ (m1 : Int) := by omega
  have ld4 : (0 : Int) ≤ (m2 : Int) := by omega
  have lu0 : (i0 : Int) < (lu : Int) := by omega
  have lu1 : (i1 : Int) < (lu : Int) := by omega
  have lu2 : (i2 : Int) < (lu : Int) := by omega
  have lv1 : (m1 : Int) < (N : Int) := by omega
  have lv2 : (m2 : Int) < (N : Int) := by omega
  have hT : u0 * 4294967296 + u1 ≤ 18446744073709551615 := by omega
  have hT2 : u0 * 4294967296 + u1 < v1 * 4294967296 + 4294967296 := by omega
  obtain ⟨T, hTe⟩ : ∃ T, T = u0 * 4294967296 + u1 := ⟨_, rfl⟩
  rw [← hTe] at E1 hT hT2 ⊢
  have G0 : GuessInv T u2 v1 v2 (T / v1) (T % v1) := GuessInv.start hv1 b3 b2
  have HT2 := Lib.hid hT2
  have KK : ∀ q r, GuessInv T u2 v1 v2 q r → q ≤ T := fun q r h => by
    have := h.e
    have h2 : q * 1 ≤ q * v1 := Nat.mul_le_mul_left _ hv1
    omega
  have KK' := Lib.hid KK
  clear KK
  have q1 : (T : Int) / (v1 : Int) = ((T / v1 : Nat) : Int) := by simp
  have q2 : (T : Int) % (v1 : Int) = ((T % v1 : Nat) : Int) := by simp
  have w0 : IntKind.u64.wrap ((T / v1 : Nat) : Int) = ((T / v1 : Nat) : Int) := by
    have h := Nat.div_le_self T v1
    generalize T / v1 = z at h ⊢
    exact wraps_u64 _ (by omega) (by omega)
  generalize T / v1 = q0 at *
  generalize T % v1 = r0 at *
  have hz : ((v1 : Int) == 0) = false := by simp; omega
  clear e0 e1 e2 f1 f2 hTe hT2
  go_enter Tryz.func175, Tryz.ntmps175
  go_wp2_with fail
  go_quiet (fail)
  go_wp2_with fail
  go_quiet (fail)
  go_wp2_with fail
  go_loopw [9, 10] (fun s9 s10 wr => ∃ q r : Nat, s9 = .int .u64 (q : Int) ∧ s10 = .int .u64 (r : Int) ∧ GuessInv T u2 v1 v2 q r ∧ Fr [] w wr) (fun x _ _ => (intOf x).toNat)
  case atStart => exact ⟨q0, r0, by first | rfl | exact congrArg _ w0, by first | rfl | exact congrArg _ q2, G0, by first | exact ((Fr.refl _ _).drewN _).drewN _ | exact (Fr.refl _ _).drewN _⟩
  case round =>
    obtain ⟨q, r, rfl, rfl, hG, hF⟩ := hrel
    have c0 : wr.cell? ⟨g, i0, none⟩ = some (.int .u32 (u0 : Int)) := by rw [cell_fr hF gl (by simp)]; exact c0
    have c2 : wr.cell? ⟨g, i2, none⟩ = some (.int .u32 (u2 : Int)) := by rw [cell_fr hF gl (by simp)]; exact c2
    have d1 : wr.cell? ⟨gv, m1, none⟩ = some (.int .u32 (v1 : Int)) := by rw [cell_fr hF gvl (by simp)]; exact d1
    have d2 : wr.cell? ⟨gv, m2, none⟩ = some (.int .u32 (v2 : Int)) := by rw [cell_fr hF gvl (by simp)]; exact d2
    have hqT := KK'.out q r hG
    have hr1 := hG.r1
    have E2 := or32 r u2 hr1 b2
    obtain ⟨R, hR⟩ : ∃ R, R = r * 4294967296 + u2 := ⟨_, rfl⟩
    have HR := Lib.hid hR
    rw [← hR] at E2
    clear hR c1
    have NEXT : Hid ((4294967296 ≤ q ∨ R < q * v2) → 0 < q ∧ (4294967296 ≤ r + v1 → GuessOk T u2 v1 v2 (q - 1)) ∧ (r + v1 < 4294967296 → GuessInv T u2 v1 v2 (q - 1) (r + v1))) := Lib.hid (fun ht => by
      obtain ⟨h1, h2, h3⟩ := hG.down (by rw [← HR.out]; exact ht)
      exact ⟨h1, fun h4 => guess_break h2 h3 h4 HT2.out b4, fun h4 => ⟨h2, h3, h4⟩⟩)
    by_cases hqB : 4294967296 ≤ q
    · have hd : decide ((4294967296 : Int) ≤ (q : Int)) = true := by simpa using (show (4294967296 : Int) ≤ (q : Int) by omega)
      obtain ⟨n1, n2, n3⟩ := NEXT.out (.inl hqB)
      have n2 := Lib.hid n2
      have n3 := Lib.hid n3
      obtain ⟨p, hp⟩ : ∃ p, p = q - 1 := ⟨_, rfl⟩
      have ep : (q : Int) - 1 = (p : Int) := by omega
      have hq0 : (0 : Int) < (q : Int) := by omega
      have hpq : p < q := by omega
      rw [← hp] at n2 n3
      clear NEXT hG hp
      by_cases hb : 4294967296 ≤ r + v1
      · have hbI : (4294967296 : Int) ≤ (r : Int) + (v1 : Int) := by omega
        have D : Hid (∀ W, Fr [] wr W → GuessR w T u2 v1 v2 (.returned (.int .u64 (p : Int))) W) := Lib.hid (fun W hW => ⟨p, rfl, n2.out hb, hF.same hW⟩)
        clear n2 n3 hb
        go_wp2_with fail
        go_quiet (fail)
        go_wp2
        go_ret
        exact D.out _ ((Fr.refl _ _).drewN _)
      · have hbb : decide ((4294967296 : Int) ≤ (r : Int) + (v1 : Int)) = false := by simp; omega
        have hbI2 : (r : Int) + (v1 : Int) < 4294967296 := by omega
        have G1 := n3.out (by omega)
        clear n2 n3 hb
        go_wp2_with fail
        go_quiet (fail)
        go_wp2
        go_roundw
        case rel => exact ⟨p, r + v1, rfl, by rw [Int.natCast_add], G1, hF.drewN _⟩
        case measure => simp [intOf]; omega
    · have hd : decide ((4294967296 : Int) ≤ (q : Int)) = false := by simp; omega
      have hql : q < 4294967296 := by omega
      obtain ⟨Q, hQ⟩ : ∃ Q, Q = q * v2 := ⟨_, rfl⟩
      have hQb : Q ≤ 18446744065119617025 := by rw [hQ]; exact Nat.le_trans (Nat.mul_le_mul (show q ≤ 4294967295 by omega) (show v2 ≤ 4294967295 by omega)) (by decide)
      have hQI : (q : Int) * (v2 : Int) = (Q : Int) := by rw [hQ]; simp
      have HQ := Lib.hid hQ
      clear hQ
      by_cases hc : R < Q
      · have hcI : (R : Int) < (Q : Int) := by omega
        have hcb : decide ((R : Int) < (Q : Int)) = true := by simpa using hcI
        obtain ⟨n1, n2, n3⟩ := NEXT.out (.inr (by rw [← HQ.out]; exact hc))
        have n2 := Lib.hid n2
        have n3 := Lib.hid n3
        obtain ⟨p, hp⟩ : ∃ p, p = q - 1 := ⟨_, rfl⟩
        have ep : (q : Int) - 1 = (p : Int) := by omega
        have hq0 : (0 : Int) < (q : Int) := by omega
        have hpq : p < q := by omega
        rw [← hp] at n2 n3
        clear NEXT hG hp
        by_cases hb : 4294967296 ≤ r + v1
        · have hbI : (4294967296 : Int) ≤ (r : Int) + (v1 : Int) := by omega
          have D : Hid (∀ W, Fr [] wr W → GuessR w T u2 v1 v2 (.returned (.int .u64 (p : Int))) W) := Lib.hid (fun W hW => ⟨p, rfl, n2.out hb, hF.same hW⟩)
          clear n2 n3 hb
          go_wp2_with fail
          go_quiet (fail)
          go_wp2
          go_ret
          exact D.out _ ((Fr.refl _ _).drewN _)
        · have hbb : decide ((4294967296 : Int) ≤ (r : Int) + (v1 : Int)) = false := by simp; omega
          have hbI2 : (r : Int) + (v1 : Int) < 4294967296 := by omega
          have G1 := n3.out (by omega)
          clear n2 n3 hb
          go_wp2_with fail
          go_quiet (fail)
          go_wp2
          go_roundw
          case rel => exact ⟨p, r + v1, rfl, by rw [Int.natCast_add], G1, hF.drewN _⟩
          case measure => simp [intOf]; omega
      · have hcI : ¬ (R : Int) < (Q : Int) := by omega
        have hcb : decide ((R : Int) < (Q : Int)) = false := by simpa using hcI
        have D : Hid (∀ W, Fr [] wr W → GuessR w T u2 v1 v2 (.returned (.int .u64 (q : Int))) W) := Lib.hid (fun W hW => ⟨q, rfl, hG.exit hql (by rw [← HQ.out, ← HR.out]; omega), hF.same hW⟩)
        clear NEXT hG
        go_wp2_with fail
        go_quiet (fail)
        go_wp2
        go_ret
        exact D.out _ ((Fr.refl _ _).drewN _)
end Go.Proofs.YtjdanblijcdllaaGreatDoor
