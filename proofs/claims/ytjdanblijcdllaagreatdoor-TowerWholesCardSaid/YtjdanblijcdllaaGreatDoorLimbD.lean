/- Limbs: differences. -/
import Derived.Test.YtjdanblijcdllaaGreatDoorLimbC
set_option linter.all false
namespace Go.Proofs.YtjdanblijcdllaaGreatDoor
open Go.ChangeShapes Go.WideShapes Go.RowKit
variable {w w' w2 wr : World} {a b : Option Addr} {cap cap2 : Nat} {L M : List Nat} {B : Nat}
/-- So many limbs of a difference, and what is borrowed. -/
structure SubInv (n m : Nat) (C : List Nat) (k b : Nat) : Prop where
  len : C.length = (lims n).length
  v : val (C.take k) + val ((lims m).take k) = val ((lims n).take k) + 4294967296 ^ k * b
  dr : C.drop k = (lims n).drop k
  b1 : b ≤ 1
theorem SubInv.start (n m : Nat) : SubInv n m (lims n) 0 0 := ⟨rfl, by simp [val], rfl, by omega⟩
theorem SubInv.step {n m k b : Nat} {C : List Nat} (h : SubInv n m C k b) (hk : k < (lims n).length) :
    SubInv n m (C.set k (((lims n)[k]?.getD 0 + 4294967296 - (lims m)[k]?.getD 0 - b) % 4294967296)) (k + 1) (bw ((lims n)[k]?.getD 0) ((lims m)[k]?.getD 0) b) := by
  have hx := lim_get (lim_lims n) k
  have hy := lim_get (lim_lims m) k
  have hb := h.b1
  refine ⟨by simp [h.len], ?_, ?_, bw_le _ _ _⟩
  · rw [take_set_succ _ _ _ (by rw [h.len]; exact hk), val_snoc, val_take_succ (lims m) k, val_take_succ (lims n) k, Nat.pow_succ]
    have e : (C.take k).length = k := by simp [h.len]; omega
    rw [e]
    refine sub_step (w := b) h.v ?_
    unfold bw
    split <;> omega
  · rw [drop_set_succ, ← List.drop_drop, h.dr, List.drop_drop]
theorem SubInv.done {n m b : Nat} {C : List Nat} (h : SubInv n m C (lims n).length b) (hC : Lim C) (hmn : m ≤ n) : val C = n - m := by
  have hv := h.v
  have h1 : C.take (lims n).length = C := List.take_of_length_le (by rw [h.len]; exact Nat.le_refl _)
  have h2 : (lims m).take (lims n).length = lims m := List.take_of_length_le (lims_len_le hmn)
  have h3 : (lims n).take (lims n).length = lims n := List.take_of_length_le (Nat.le_refl _)
  rw [h1, h2, h3, val_lims, val_lims] at hv
  have hlt := val_lt hC
  rw [h.len] at hlt
  have hb := h.b1
  generalize 4294967296 ^ (lims n).length = P at *
  rcases (show b = 0 ∨ b = 1 by omega) with rfl | rfl <;> omega
/-- What a difference gives. -/
def SubR (w : World) (n m : Nat) (e : Ending) (w' : World) : Prop :=
  if n < m then e = .returned (.tuple #[.slice none 0 0, .bool false]) ∧ Fr [] w w'
  else ∃ a cap, e = .returned (.tuple #[.slice a (lims (n - m)).length cap, .bool true]) ∧ Nw w' w.heap.size a cap (lims (n - m)) ∧ Fr [] w w'
set_option maxHeartbeats 1000000 in
set_option maxRecDepth 100000 in
theorem lsub_c (w : World) (ha : In w a cap L) (hb : In w b cap2 M) : Calls Tryz.prog 151 #[.slice a L.length cap, .slice b M.length cap2] w (SubR w (val L) (val M)) := by
  have HA := Lib.hid ha
  have HB := Lib.hid hb
  clear ha hb
  generalize hn : val L = n at *
  generalize hm : val M = m at *
  have HN := Lib.hid hn
  have HM := Lib.hid hm
  clear hn hm
  by_cases hlt : n < m
  · have HC : Hid (cmpN n m = -1) := Lib.hid (by unfold cmpN; rw [if_pos hlt])
    have D : Hid (∀ w6, Fr [] w w6 → SubR w n m (.returned (.tuple #[.slice none 0 0, .bool false])) w6) := Lib.hid (fun w6 h6 => by unfold SubR; rw [if_pos hlt]; exact ⟨rfl, h6⟩)
    clear hlt
    go_enter Tryz.func151, Tryz.ntmps151
    go_wp2_with fail
    refine (ltrim_c w HA.out).mono ?_
    rintro e w1 ⟨a1, c1, rfl, N1, F1⟩
    rw [HN.out] at N1 ⊢
    have HB1 := Lib.hid (HB.out.keep F1)
    have N1 := Lib.hid N1
    have F1 := Lib.hid F1
    go_wp2_with fail
    refine (ltrim_c w1 HB1.out).mono ?_
    rintro e w2 ⟨a2, c2, rfl, N2, F2⟩
    rw [HM.out] at N2 ⊢
    have X := Lib.hid (N1.out.keep F2).in
    have Y := Lib.hid N2.in
    have FF := Lib.hid (F1.out.same F2)
    clear N2 F2 N1 F1 HB1 HA HB
    go_wp2_with fail
    refine (order_c w2 _ _ X.out Y.out).mono ?_
    rintro e w3 ⟨rfl, F3⟩
    rw [HC.out]
    have E := Lib.hid (D.out w3 (FF.out.same F3))
    clear F3
    go_wp2
    go_ret2
    exact E.out
  · have hge : m ≤ n := by omega
    have HC : Hid (cmpN n m = 0 ∨ cmpN n m = 1) := Lib.hid (by unfold cmpN; rw [if_neg hlt]; split; exact .inr rfl; exact .inl rfl)
    have D : Hid (∀ a6 c6 w6, Nw w6 w.heap.size a6 c6 (lims (n - m)) → Fr [] w w6 → SubR w n m (.returned (.tuple #[.slice a6 (lims (n - m)).length c6, .bool true])) w6) := Lib.hid (fun a6 c6 w6 h1 h6 => by unfold SubR; rw [if_neg hlt]; exact ⟨a6, c6, rfl, h1, h6⟩)
    clear hlt
    go_enter Tryz.func151, Tryz.ntmps151
    go_wp2_with fail
    refine (ltrim_c w HA.out).mono ?_
    rintro e w1 ⟨a1, c1, rfl, N1, F1⟩
    rw [HN.out] at N1 ⊢
    have HB1 := Lib.hid (HB.out.keep F1)
    have N1 := Lib.hid N1
    have F1 := Lib.hid F1
    go_wp2_with fail
    refine (ltrim_c w1 HB1.out).mono ?_
    rintro e w2 ⟨a2, c2, rfl, N2, F2⟩
    rw [HM.out] at N2 ⊢
    have X := Lib.hid (N1.out.keep F2)
    have Y := Lib.hid N2
    have FF := Lib.hid (F1.out.same F2)
    have hs1 := F1.out.size
    have LT : Hid (∀ g, a1 = some ⟨g, 0, none⟩ → 0 < (lims n).length → g < w1.heap.size) := Lib.hid (fun g hg h0 => by
      obtain ⟨g', hg', _, h3⟩ := N1.out.at h0
      rw [hg] at hg'; simp only [Option.some.injEq, Addr.mk.injEq, and_true] at hg'; rw [hg']; exact h3)
    clear N2 F2 N1 F1 HB1 HA HB
    go_wp2_with fail
    refine (order_c w2 _ _ X.out.in Y.out.in).mono ?_
    rintro e w3 ⟨rfl, F3⟩
    have X := Lib.hid (X.out.keep F3)
    have Y := Lib.hid (Y.out.keep F3)
    have FF := Lib.hid (FF.out.same F3)
    clear F3
    rcases HC.out with hc | hc
    all_goals
      rw [hc]
      clear hc
      go_wp2_with fail
      have hsm := X.out.sm
      go_loopw [18, 7, 6] (fun s18 _ s6 wr => ∃ (C : List Nat) (k bo : Nat), k ≤ (lims n).length ∧ s18 = .int .i64 (k : Int) ∧ s6 = .int .u32 (bo : Int) ∧ SubInv n m C k bo ∧ Hid (Nw wr w.heap.size a1 c1 C) ∧ Hid (Nw wr w1.heap.size a2 c2 (lims m)) ∧ Hid (Fr [] w wr)) (fun x _ _ _ => (lims n).length - (intOf x).toNat)
      case atStart => exact ⟨_, 0, 0, by omega, rfl, rfl, SubInv.start n m, X, Y, FF⟩
      case round =>
        obtain ⟨C, k, bo, hk, rfl, rfl, hV, hN, hY, hF⟩ := hrel
        have HLEN := Lib.hid hV.len
        by_cases hlt : k < (lims n).length
        · obtain ⟨g, rfl, hg1, hg2⟩ := hN.out.at (i := k) (by rw [HLEN.out]; exact hlt)
          have hgl := LT.out g rfl (by omega)
          have cx := hN.out.cell (i := k) (by rw [HLEN.out]; exact hlt)
          have fx := hN.out.free k
          have ex : Hid (C[k]? = (lims n)[k]?) := Lib.hid (drop_get hV.dr)
          rw [ex.out] at cx
          have bx := lim_get (lim_lims n) k
          have by_ := lim_get (lim_lims m) k
          have hb1 := hV.b1
          have CY := Lib.hid (fun W (hW : Fr [] wr W) => lat_c W (hY.out.keep hW).in k)
          obtain ⟨x, hx⟩ : ∃ x, x = (lims n)[k]?.getD 0 := ⟨_, rfl⟩
          obtain ⟨y, hy⟩ : ∃ y, y = (lims m)[k]?.getD 0 := ⟨_, rfl⟩
          have VS : Hid (SubInv n m (C.set k ((x + 4294967296 - y - bo) % 4294967296)) (k + 1) (bw x y bo)) := Lib.hid (by rw [hx, hy]; exact hV.step hlt)
          rw [← hx] at cx bx
          rw [← hy] at CY by_
          have hz : (x + 4294967296 - y - bo) % 4294967296 < 4294967296 := Nat.mod_lt _ (by decide)
          have CS := Lib.hid (fun W => sub32_c x y bo W bx by_ hb1)
          generalize (x + 4294967296 - y - bo) % 4294967296 = z at *
          generalize bw x y bo = bo2 at *
          have V1 := VS.out
          have NS := Lib.hid (hN.out.set k z hz)
          have YS := Lib.hid (hY.out.fr (w' := wr.setCell ⟨g, k, none⟩ (.int .u32 (z : Int))) (S := [g]) ((Fr.refl [g] wr).setCell (by simp) _) (by
            intro q hq hm
            simp only [List.mem_singleton] at hm
            have := (hY.out.own.lt q hq).1
            omega))
          have FS : Hid (Fr [] w (wr.setCell ⟨g, k, none⟩ (.int .u32 (z : Int)))) := Lib.hid (hF.out.setCell (.inr hg1) _)
          have kk1 : (k : Int) < ((lims n).length : Int) := by omega
          have kk0 : (0 : Int) ≤ (k : Int) := by omega
          have f0 : Fr [] wr wr.drew := (Fr.refl _ _).drew
          clear hx hy bx by_ VS hV hN hY hF ex hz
          go_wp2_with fail
          go_region_with (first | (go_at_call 145; refine (CY.out _ f0).mono ?_; rintro e w' ⟨rfl, rfl⟩) | (go_at_call 179; refine (CS.out _).mono ?_; rintro e w' ⟨rfl, rfl⟩))
          all_goals
            go_wp2
            go_roundw
            case rel => exact ⟨C.set k z, k + 1, bo2, by omega, by go_num, rfl, V1, Lib.hid (NS.out.keep (by first | exact (Fr.refl _ _).drew | exact Fr.refl _ _)), Lib.hid (YS.out.keep (by first | exact (Fr.refl _ _).drew | exact Fr.refl _ _)), Lib.hid (FS.out.same (by first | exact (Fr.refl _ _).drew | exact Fr.refl _ _))⟩
            case measure => simp [intOf]; omega
        · have hkl : k = (lims n).length := by omega
          have HV : Hid (val C = n - m) := Lib.hid (by subst hkl; exact hV.done hN.out.lim hge)
          have CT := Lib.hid (ltrim_c wr hN.out.in)
          rw [HV.out, HLEN.out] at CT
          clear hV hkl
          go_wp2_with fail
          refine CT.out.mono ?_
          rintro e w6 ⟨a6, c6, rfl, N6, F6⟩
          have E := Lib.hid (D.out a6 c6 w6 (N6.base hF.out.size) (hF.out.same F6))
          clear N6 F6
          go_wp2
          go_ret2
          exact E.out
end Go.Proofs.YtjdanblijcdllaaGreatDoor
