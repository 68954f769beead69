/- Limbs: trims, orders, single limbs. -/
import Derived.Test.YtjdanblijcdllaaGreatDoorLimbM
import Derived.Deep.RegionHeld3
import Derived.StillTailTactics
set_option linter.all false
namespace Go.Proofs.YtjdanblijcdllaaGreatDoor
open Go.ChangeShapes Go.WideShapes Go.RowKit
variable {w w' : World} {a b : Option Addr} {cap cap2 : Nat} {L M : List Nat} {B : Nat}
theorem clone32_any (w : World) (h : In w a cap L) (c : Nat) : Calls Tryz.prog 130 #[.slice a L.length c] w (Gives w L) := by
  have hsm := h.sm
  cases a with
  | none =>
    have h0 : L = [] := by
      rcases h.rd with h0 | ⟨b, o, h1, _⟩
      · exact h0
      · simp at h1
    subst h0
    have qn : ∀ (w : World) (a : Option Addr) (n c n' c' : Nat), (binOp .eql 23 (.slice a n c) (.slice none n' c')).run Tryz.prog w = .ok (.bool a.isNone) w := fun w a n c n' c' => Lib.run_eql_slice_nil w _ _ a n c n' c' Tryz.underlying23
    clear h
    go_enter Tryz.func130, Tryz.ntmps130
    go_wp2
    go_ret
    exact gives_mk (L := []) (Nw.nil w _) (Fr.refl _ _)
  | some ad =>
    obtain ⟨b, o, sp⟩ := ad
    obtain ⟨i0, hi, hz0, hz1, hz2⟩ := info_parts info_u32
    have HI := Lib.hid hi
    have Z0 := Lib.hid hz0
    have Z1 := Lib.hid hz1
    have Z2 := Lib.hid hz2
    clear hi hz0 hz1 hz2
    have qn : ∀ (w : World) (a : Option Addr) (n c n' c' : Nat), (binOp .eql 23 (.slice a n c) (.slice none n' c')).run Tryz.prog w = .ok (.bool a.isNone) w := fun w a n c n' c' => Lib.run_eql_slice_nil w _ _ a n c n' c' Tryz.underlying23
    have HC : Hid (∀ j u, (lc L)[j]? = some u → (w.alloc (.cells #[] 108)).cell? ((⟨b, o, sp⟩ : Addr).add j) = some u) := Lib.hid (fun j u hu => by
      have hj : j < L.length := by
        rcases Nat.lt_or_ge j L.length with hh | hh
        · exact hh
        · rw [List.getElem?_eq_none (by rw [len_lc]; exact hh)] at hu; simp at hu
      have h2 := h.keep ((Fr.refl [] w).alloc (.cells #[] 108))
      obtain ⟨b', o', h1, hb, hc⟩ := h2.at hj
      simp only [Option.some.injEq, Addr.mk.injEq] at h1
      obtain ⟨rfl, rfl, rfl⟩ := h1
      rw [lc_get L j hj] at hu
      rw [← hu, ← hc]
      unfold Addr.add
      split
      · subst j; rfl
      · rfl)
    have HL := Lib.hid h.lim
    clear h
    have hE : (#[] : Array Value).size = 0 * 1 := rfl
    go_enter Tryz.func130, Tryz.ntmps130
    go_wp2_with (at_builtin; refine wpList_append_own _ rfl _ _ 23 rfl w.heap.size 108 i0 (.int .u32 0) 1 4 Tryz.underlying23 HI.out Z0.out Z1.out Z2.out rfl (by decide) (.slice (some ⟨w.heap.size, 0, none⟩) 0 0) 0 [] rfl (World.ownsRow_made w #[] 0 (Nat.le_refl _) (Nat.zero_le _) rfl) ⟨b, o, sp⟩ L.length c (lc L) rfl (by rw [len_lc, Nat.mul_one]) HC.out (lc_one L) (by unfold maxLen; omega) (by omega) (by simp) ?_; intro v' w1 hown hgrow _)
    have D : Hid (Gives w L (.returned v') w1) := Lib.hid (by
      rw [Nat.zero_add, List.nil_append] at hown
      obtain ⟨a', cap', rfl⟩ := own_slice hown
      have hF : Fr [w.heap.size] (w.alloc (.cells #[] 108)) w1 := (grown_fr hgrow).mono (by intro x hx; simp [Value.ownBlock] at hx; simp [hx])
      exact gives_mk (Nw.of_own hown HL.out hsm) (((Fr.refl [] w).alloc _).trans hF (by simp)))
    clear hown hgrow
    go_wp2
    go_ret
    exact D.out
/-- The same of a slice that is cut behind some. -/
theorem clone32_c (w : World) (h : In w a cap L) (n c : Nat) (hn : L.length = n) : Calls Tryz.prog 130 #[.slice a n c] w (Gives w L) := by
  subst hn; exact clone32_any w h c
theorem ltrim_c (w : World) (h : In w a cap L) : Calls Tryz.prog 85 #[.slice a L.length cap] w (Gives w (lims (val L))) := by
  have hle := h.le
  have hcm := h.cm
  have hsm := h.sm
  unfold maxLen at hcm
  have H := Lib.hid h
  clear h
  go_enter Tryz.func85, Tryz.ntmps85
  go_wp2
  go_loopw [3] (fun x wr => ∃ k : Nat, k ≤ L.length ∧ x = .int .i64 k ∧ Hid (∀ i, k ≤ i → i < L.length → L[i]?.getD 0 = 0) ∧ Hid (Fr [] w wr)) (fun x _ => (intOf x).toNat)
  case atStart => exact ⟨L.length, Nat.le_refl _, rfl, Lib.hid (fun i h1 h2 => by omega), Lib.hid (Fr.refl _ _)⟩
  case round =>
    obtain ⟨k, hk, rfl, hz, hF⟩ := hrel
    have HK := Lib.hid (H.out.keep hF.out)
    have DONE : Hid ((k = 0 ∨ L[k - 1]?.getD 0 ≠ 0) → Calls Tryz.prog 130 #[.slice a k cap] wr (Gives w (lims (val L)))) := Lib.hid (fun ht => by
      have e := trim_done H.out.lim k hk hz.out ht
      have h3 := HK.out.take k
      rw [e] at h3
      refine (clone32_c wr h3 k cap (by rw [← e]; simp; omega)).mono ?_
      rintro e' w3 ⟨a', cap', rfl, hN, hF3⟩
      exact gives_mk (hN.base hF.out.size) (hF.out.same hF3))
    by_cases h0 : k = 0
    · subst h0
      have d0 := Lib.hid (DONE.out (.inl rfl))
      clear DONE HK H
      go_wp2_with fail
      refine d0.out.mono ?_
      rintro e w3 ⟨a', cap', rfl, hN, hF3⟩
      have D := Lib.hid (gives_mk hN hF3)
      clear hN hF3
      go_wp2
      go_ret
      exact D.out
    · have hk1 : k - 1 < L.length := by omega
      obtain ⟨b, o, rfl, hb, hc⟩ := HK.out.at hk1
      have hi0 : (0 : Int) ≤ (k : Int) - 1 := by omega
      have ek : ((k : Int) - 1) = ((k - 1 : Nat) : Int) := by omega
      have hc1 : wr.cell? ⟨b, o + (k - 1), none⟩ = some (.int .u32 ((L[k - 1]?.getD 0 : Nat) : Int)) := hc
      have EK := Lib.hid ek
      clear ek hc
      obtain ⟨j, rfl⟩ : ∃ j, k = j + 1 := ⟨k - 1, by omega⟩
      simp only [Nat.add_sub_cancel] at hc1
      by_cases hz1 : L[j]?.getD 0 = 0
      · have hz2 : Hid (∀ i, j ≤ i → i < L.length → L[i]?.getD 0 = 0) := Lib.hid (fun i h1 h2 => by
          by_cases hij : i = j
          · rw [hij]; exact hz1
          · exact hz.out i (by omega) h2)
        rw [hz1] at hc1
        clear DONE HK hz hz1 EK
        go_wp2
        go_roundw
        case rel => exact ⟨j, by omega, by go_num, hz2, hF⟩
        case measure => simp [intOf]
      · have d0 := Lib.hid (DONE.out (.inr (by simpa using hz1)))
        generalize L[j]?.getD 0 = z at *
        have hzb : ((z : Int) == 0) = false := by simpa using hz1
        clear DONE HK H hz hz1 EK
        go_wp2_with fail
        refine d0.out.mono ?_
        rintro e w3 ⟨a', cap', rfl, hN, hF3⟩
        have D := Lib.hid (gives_mk hN hF3)
        clear hN hF3
        go_wp2
        go_ret
        exact D.out
end Go.Proofs.YtjdanblijcdllaaGreatDoor
