/- Reference 1: Trim, Big, at. -/
import Derived.Test.YtjdanblijcdllaaGreatDoorLimbK
set_option linter.all false
namespace Go.Proofs.YtjdanblijcdllaaGreatDoor
open Go.ChangeShapes Go.WideShapes Go.RowKit
variable {w w' w2 wr : World} {a b : Option Addr} {cap cap2 : Nat} {L M : List Nat} {B : Nat}
theorem r1trim_c (w : World) (h : In w a cap L) : Calls Tryz.prog 84 #[.slice a L.length cap] w (Gives w (lims (val L))) := by
  have hsm := h.sm
  cases a with
  | none =>
    have h0 : L = [] := by
      rcases h.rd with h0 | ⟨b, o, h1, _⟩
      · exact h0
      · simp at h1
    subst h0
    clear h
    obtain ⟨L, hLe⟩ : ∃ L : List Nat, L = [] := ⟨_, rfl⟩
    have HL : Hid (Lim L) := Lib.hid (by rw [hLe]; exact lim_nil)
    have N0 : Hid (Nw (w.alloc (.cells #[] 108)) w.heap.size (some ⟨w.heap.size, 0, none⟩) 0 (L.take L.length)) := Lib.hid (by rw [hLe]; exact Nw.made w 0 0 (Nat.le_refl _) (by omega) (by omega))
    have F0 : Hid (Fr [] w (w.alloc (.cells #[] 108))) := Lib.hid ((Fr.refl [] w).alloc _)
    rw [← hLe]
    rw [show L.length = 0 by rw [hLe]; rfl]
    go_enter Tryz.func84, Tryz.ntmps84
    go_wp2
    go_loopw [3] (fun x wr => ∃ (k : Nat) (a3 : Option Addr) (c3 : Nat), k ≤ L.length ∧ x = .slice a3 k c3 ∧ Hid (∀ i, k ≤ i → i < L.length → L[i]?.getD 0 = 0) ∧ Hid (Nw wr w.heap.size a3 c3 (L.take k)) ∧ Hid (Fr [] w wr)) (fun x _ => (match x with | .slice _ n _ => n | _ => 0))
    case atStart => exact ⟨L.length, _, _, Nat.le_refl _, by first | rfl | simp [hLe], Lib.hid (fun i h1 h2 => by omega), N0, F0⟩
    case round =>
      obtain ⟨k, a3, c3, hk, rfl, hz, hN, hF⟩ := hrel
      have DONE : Hid ((k = 0 ∨ L[k - 1]?.getD 0 ≠ 0) → Gives w (lims (val L)) (.returned (.slice a3 k c3)) wr) := Lib.hid (fun ht => by
        have e := trim_done HL.out k hk hz.out ht
        have h3 := hN.out
        rw [e] at h3
        have := gives_mk h3 hF.out
        rw [← e, List.length_take, Nat.min_eq_left hk, e] at this
        exact this)
      cases k with
      | zero =>
        have D := Lib.hid (DONE.out (.inl rfl))
        clear DONE hN hz hF
        go_wp2
        go_ret
        exact D.out
      | succ j =>
        have hlen : (L.take (j + 1)).length = j + 1 := by rw [List.length_take]; omega
        obtain ⟨g, rfl, hg1, hg2⟩ := hN.out.at (i := j) (by rw [hlen]; omega)
        have hgc := hN.out.cell (i := j) (by rw [hlen]; omega)
        rw [List.getElem?_take_of_lt (Nat.lt_succ_self j)] at hgc
        have hcap := hN.out.le.1
        rw [hlen] at hcap
        have hjI : (j : Int) ≤ 100000 := by (have : L.length ≤ 100000 := (by first | exact hsm | simp [hLe])); omega
        have hcapI : (j : Int) + 1 ≤ (c3 : Int) := by omega
        have N1 : Hid (Nw wr w.heap.size (some ⟨g, 0, none⟩) c3 (L.take j)) := Lib.hid (by
          have := hN.out.take j (by rw [hlen]; omega)
          rwa [List.take_take, Nat.min_eq_left (Nat.le_succ j)] at this)
        clear hlen
        by_cases hz1 : L[j]?.getD 0 = 0
        · have hz2 : Hid (∀ i, j ≤ i → i < L.length → L[i]?.getD 0 = 0) := Lib.hid (fun i h1 h2 => by
            by_cases hij : i = j
            · rw [hij]; exact hz1
            · exact hz.out i (by omega) h2)
          rw [hz1] at hgc
          clear DONE hz hz1 hN
          go_wp2
          go_roundw
          case rel => exact ⟨j, _, _, by omega, rfl, hz2, N1, hF⟩
          case measure => simp
        · have D := Lib.hid (DONE.out (.inr (by simpa using hz1)))
          generalize L[j]?.getD 0 = z at *
          have hzb : ((z : Int) == 0) = false := by simpa using hz1
          clear DONE hN hz hz1 N1
          go_wp2
          go_ret
          exact D.out
  | some ad =>
    obtain ⟨b, o, sp⟩ := ad
    obtain ⟨i0, hi, hz0, hz1, hz2⟩ := info_parts info_u32
    have HI := Lib.hid hi
    have Z0 := Lib.hid hz0
    have Z1 := Lib.hid hz1
    have Z2 := Lib.hid hz2
    clear hi hz0 hz1 hz2
    have HC : Hid (∀ j u, (lc L)[j]? = some u → (w.alloc (.cells #[] 108)).cell? ((⟨b, o, sp⟩ : Addr).add j) = some u) := Lib.hid (fun j u hu => by
      have hj : j < L.length := by
        rcases Nat.lt_or_ge j L.length with hh | hh
        · exact hh
        · rw [List.getElem?_eq_none (by rw [len_lc]; exact hh)] at hu; simp at hu
      have h2 := h.keep ((Fr.refl [] w).alloc (.cells #[] 108))
      obtain ⟨b', o', h1, hb, hc⟩ := h2.at hj
      simp only [Option.some.injEq, Addr.mk.injEq] at h1
      obtain ⟨rfl, rfl, rfl⟩ := h1
      rw [lc_get L j hj] at hu
      rw [← hu, ← hc]
      unfold Addr.add
      split
      · subst j; rfl
      · rfl)
    have HL := Lib.hid h.lim
    clear h
    go_enter Tryz.func84, Tryz.ntmps84
    go_wp2_with (at_builtin; refine wpList_append_own _ rfl _ _ 23 rfl w.heap.size 108 i0 (.int .u32 0) 1 4 Tryz.underlying23 HI.out Z0.out Z1.out Z2.out rfl (by decide) (.slice (some ⟨w.heap.size, 0, none⟩) 0 0) 0 [] rfl (World.ownsRow_made w #[] 0 (Nat.le_refl _) (Nat.zero_le _) rfl) ⟨b, o, sp⟩ L.length cap (lc L) rfl (by rw [len_lc, Nat.mul_one]) HC.out (lc_one L) (by unfold maxLen; omega) (by omega) (by simp) ?_; intro v' w1 hown hgrow _)
    have hLe : True := trivial
    rw [Nat.zero_add, List.nil_append] at hown
    obtain ⟨a', cap', rfl⟩ := own_slice hown
    have N0 : Hid (Nw w1 w.heap.size a' cap' (L.take L.length)) := Lib.hid (by rw [List.take_length]; exact Nw.of_own hown HL.out hsm)
    have F0 : Hid (Fr [] w w1) := Lib.hid (((Fr.refl [] w).alloc _).trans ((grown_fr hgrow).mono (T := [w.heap.size]) (by intro x hx; simp [Value.ownBlock] at hx; simp [hx])) (by simp))
    clear hown hgrow HC HI Z0 Z1 Z2
    go_loopw [3] (fun x wr => ∃ (k : Nat) (a3 : Option Addr) (c3 : Nat), k ≤ L.length ∧ x = .slice a3 k c3 ∧ Hid (∀ i, k ≤ i → i < L.length → L[i]?.getD 0 = 0) ∧ Hid (Nw wr w.heap.size a3 c3 (L.take k)) ∧ Hid (Fr [] w wr)) (fun x _ => (match x with | .slice _ n _ => n | _ => 0))
    case atStart => exact ⟨L.length, _, _, Nat.le_refl _, by first | rfl | simp [hLe], Lib.hid (fun i h1 h2 => by omega), N0, F0⟩
    case round =>
      obtain ⟨k, a3, c3, hk, rfl, hz, hN, hF⟩ := hrel
      have DONE : Hid ((k = 0 ∨ L[k - 1]?.getD 0 ≠ 0) → Gives w (lims (val L)) (.returned (.slice a3 k c3)) wr) := Lib.hid (fun ht => by
        have e := trim_done HL.out k hk hz.out ht
        have h3 := hN.out
        rw [e] at h3
        have := gives_mk h3 hF.out
        rw [← e, List.length_take, Nat.min_eq_left hk, e] at this
        exact this)
      cases k with
      | zero =>
        have D := Lib.hid (DONE.out (.inl rfl))
        clear DONE hN hz hF
        go_wp2
        go_ret
        exact D.out
      | succ j =>
        have hlen : (L.take (j + 1)).length = j + 1 := by rw [List.length_take]; omega
        obtain ⟨g, rfl, hg1, hg2⟩ := hN.out.at (i := j) (by rw [hlen]; omega)
        have hgc := hN.out.cell (i := j) (by rw [hlen]; omega)
        rw [List.getElem?_take_of_lt (Nat.lt_succ_self j)] at hgc
        have hcap := hN.out.le.1
        rw [hlen] at hcap
        have hjI : (j : Int) ≤ 100000 := by (have : L.length ≤ 100000 := (by first | exact hsm | simp [hLe])); omega
        have hcapI : (j : Int) + 1 ≤ (c3 : Int) := by omega
        have N1 : Hid (Nw wr w.heap.size (some ⟨g, 0, none⟩) c3 (L.take j)) := Lib.hid (by
          have := hN.out.take j (by rw [hlen]; omega)
          rwa [List.take_take, Nat.min_eq_left (Nat.le_succ j)] at this)
        clear hlen
        by_cases hz1 : L[j]?.getD 0 = 0
        · have hz2 : Hid (∀ i, j ≤ i → i < L.length → L[i]?.getD 0 = 0) := Lib.hid (fun i h1 h2 => by
            by_cases hij : i = j
            · rw [hij]; exact hz1
            · exact hz.out i (by omega) h2)
          rw [hz1] at hgc
          clear DONE hz hz1 hN
          go_wp2
          go_roundw
          case rel => exact ⟨j, _, _, by omega, rfl, hz2, N1, hF⟩
          case measure => simp
        · have D := Lib.hid (DONE.out (.inr (by simpa using hz1)))
          generalize L[j]?.getD 0 = z at *
          have hzb : ((z : Int) == 0) = false := by simpa using hz1
          clear DONE hN hz hz1 N1
          go_wp2
          go_ret
          exact D.out
end Go.Proofs.YtjdanblijcdllaaGreatDoor
