/- Limbs: sums, differences, products. -/
import Derived.Test.YtjdanblijcdllaaGreatDoorLimbB
import Derived.Deep.AppendLies
import Derived.Deep.RegionLaw
set_option linter.all false
namespace Go.Proofs.YtjdanblijcdllaaGreatDoor
open Go.ChangeShapes Go.WideShapes Go.RowKit
variable {w w' w2 wr : World} {a b : Option Addr} {cap cap2 : Nat} {L M : List Nat} {B : Nat}
/-- One limb more behind a list of the call's own. -/
theorem app_step {o : Obj} (hN : Nw wr B a cap L) (F : Fr [] w2 wr) (hB : w2.heap.size ≤ B) {z : Nat} (hz : z < 4294967296) (hs : L.length < 100000) {g5 cap5 : Nat} {w5 : World}
    (own5 : w5.ownsRow B 108 1 (.slice (some ⟨g5, 0, none⟩) (L.length + 1) cap5) (L.length + 1) (lc L ++ [.int .u32 (z : Int)])) (gr5 : (wr.alloc o).grownBy w5 (Value.ownBlock (.slice a L.length cap))) :
    Nw w5 B (some ⟨g5, 0, none⟩) cap5 (L ++ [z]) ∧ Fr [] w2 w5 := by
  constructor
  · refine Nw.of_own (n := L.length + 1) ?_ (lim_append.2 ⟨hN.lim, lim_cons.2 ⟨hz, lim_nil⟩⟩) (by simp; omega)
    rw [lc_append]; exact own5
  · have hg := grown_fr gr5
    refine (F.alloc o).trans hg ?_
    intro x hx
    right
    have := (hN.own.lt x (by simpa using hx)).1
    omega
theorem nw_alloc (hN : Nw wr B a cap L) (o : Obj) : (wr.alloc o).ownsRow B 108 1 (.slice a L.length cap) L.length (lc L) := (hN.keep ((Fr.refl [] _).alloc o)).own
/-- What a capped function gives. -/
def CapR (w : World) (g : Bool) (n : Nat) (e : Ending) (w' : World) : Prop :=
  match g with
  | true => ∃ a cap, e = .returned (.tuple #[.slice a (lims n).length cap, .int .i64 0]) ∧ Nw w' w.heap.size a cap (lims n) ∧ Fr [] w w'
  | false => e = .returned (.tuple #[.slice none 0 0, .int .i64 11]) ∧ Fr [] w w'
theorem capR_mono {w w0 : World} {g : Bool} {n : Nat} {e : Ending} {w' : World} (h : CapR w g n e w') (hF : Fr [] w0 w) : CapR w0 g n e w' := by
  cases g with
  | true => obtain ⟨a, cap, h1, h2, h3⟩ := h; exact ⟨a, cap, h1, h2.base hF.size, hF.same h3⟩
  | false => exact ⟨h.1, hF.same h.2⟩
def fits (n : Nat) : Bool := decide (n < 4294967296 ^ 64)
theorem fits_len (n : Nat) : fits n = decide ((lims n).length ≤ 64) := by unfold fits; rw [decide_eq_decide, len_lims]
theorem fits_le {n m : Nat} (h : n ≤ m) (hm : fits m = true) : fits n = true := by
  unfold fits at *; simp only [decide_eq_true_eq] at *; exact Nat.lt_of_le_of_lt h hm
theorem capR_of {n : Nat} {e : Ending} (h : CapRes w n e w') : CapR w (fits n) n e w' := by
  unfold CapRes at h
  unfold fits
  by_cases hn : n < 4294967296 ^ 64
  · rw [if_pos hn] at h; rw [decide_eq_true hn]; exact h
  · rw [if_neg hn] at h; rw [decide_eq_false hn]; exact h
theorem capped_c (w : World) (ha : In w a cap L) : Calls Tryz.prog 146 #[.slice a L.length cap] w (CapR w (fits (val L)) (val L)) :=
  (lcapped_c w ha).mono fun _ _ h => capR_of h
/-- So many limbs of a sum, and what is carried. -/
def AddInv (n m : Nat) (out : List Nat) (cy : Nat) : Prop := val out + 4294967296 ^ out.length * cy = val ((lims n).take out.length) + val ((lims m).take out.length)
theorem AddInv.start (n m : Nat) : AddInv n m [] 0 := by simp [AddInv, val]
theorem AddInv.step {n m cy : Nat} {out : List Nat} (h : AddInv n m out cy) :
    AddInv n m (out ++ [((lims n)[out.length]?.getD 0 + (lims m)[out.length]?.getD 0 + cy) % 4294967296]) (((lims n)[out.length]?.getD 0 + (lims m)[out.length]?.getD 0 + cy) / 4294967296) := by
  unfold AddInv at h ⊢
  rw [List.length_append, List.length_singleton, val_snoc, val_take_succ (lims n) out.length, val_take_succ (lims m) out.length, Nat.pow_succ]
  exact add_step h
theorem AddInv.done {n m cy : Nat} {out : List Nat} (h : AddInv n m out cy) (h1 : (lims n).length ≤ out.length) (h2 : (lims m).length ≤ out.length) : val (out ++ [cy]) = n + m := by
  unfold AddInv at h
  rw [val_snoc, h, List.take_of_length_le h1, List.take_of_length_le h2, val_lims, val_lims]
set_option maxHeartbeats 1000000 in
set_option maxRecDepth 100000 in
theorem ladd_c (w : World) (ha : In w a cap L) (hb : In w b cap2 M) : Calls Tryz.prog 96 #[.slice a L.length cap, .slice b M.length cap2] w (CapR w (fits (val L + val M)) (val L + val M)) := by
  have HA := Lib.hid ha
  have HB := Lib.hid hb
  clear ha hb
  generalize hn : val L = n at *
  generalize hm : val M = m at *
  have HN := Lib.hid hn
  have HM := Lib.hid hm
  clear hn hm
  by_cases hbig : (lims n).length ≤ 64 ∧ (lims m).length ≤ 64
  · obtain ⟨hx, hy⟩ := hbig
    have bx : decide (64 < (lims n).length) = false := by simpa using hx
    have by_ : decide (64 < (lims m).length) = false := by simpa using hy
    have BX := Lib.hid bx
    have BY := Lib.hid by_
    clear bx by_
    have MK : ∀ W : World, (Instr.makeSlice 23 (.int .i64 0) (.int .i64 (((lims n).length : Int) + (lims m).length + 1))).run Tryz.prog W = .ok (.slice (some ⟨W.heap.size, 0, none⟩) 0 ((lims n).length + (lims m).length + 1)) (W.alloc (.cells (lc (nils ((lims n).length + (lims m).length + 1))).toArray 108)) := fun W => by
      have := run_u32s W 0 ((lims n).length + (lims m).length + 1) (by omega) (by omega)
      simpa using this
    go_enter Tryz.func96, Tryz.ntmps96
    go_wp2_with fail
    refine (ltrim_c w HA.out).mono ?_
    rintro e w1 ⟨a1, c1, rfl, N1, F1⟩
    rw [HN.out] at N1 ⊢
    have HB1 := Lib.hid (HB.out.keep F1)
    have N1 := Lib.hid N1
    have F1 := Lib.hid F1
    go_wp2_with fail
    refine (ltrim_c w1 HB1.out).mono ?_
    rintro e w2 ⟨a2, c2, rfl, N2, F2⟩
    rw [HM.out] at N2 ⊢
    have X := Lib.hid (N1.out.keep F2).in
    have Y := Lib.hid N2.in
    have FF := Lib.hid (F1.out.same F2)
    clear N2 F2 N1 F1 HB1 HA HB
    go_wp2_with fail
    refine (lbig_c _ _ _ _).mono ?_
    rintro e w' ⟨rfl, rfl⟩
    rw [BX.out]
    go_wp2_with fail
    refine (lbig_c _ _ _ _).mono ?_
    rintro e w' ⟨rfl, rfl⟩
    rw [BY.out]
    go_wp2_with fail
    all_goals
      obtain ⟨i0, hi, hz0, hz1, hz2⟩ := info_parts info_u32
      have HI := Lib.hid hi
      have Z0 := Lib.hid hz0
      have Z1 := Lib.hid hz1
      have Z2 := Lib.hid hz2
      clear hi hz0 hz1 hz2
      have N0 : Hid (Nw (w2.alloc (.cells (lc (nils ((lims n).length + (lims m).length + 1))).toArray 108)) w2.heap.size (some ⟨w2.heap.size, 0, none⟩) ((lims n).length + (lims m).length + 1) []) := Lib.hid (Nw.made w2 0 _ (Nat.le_refl _) (by omega) (by omega))
      have F0 : Hid (Fr [] w2 (w2.alloc (.cells (lc (nils ((lims n).length + (lims m).length + 1))).toArray 108))) := Lib.hid ((Fr.refl [] _).alloc _)
      obtain ⟨K, hK1, hK2, hK3⟩ : ∃ K, (lims n).length ≤ K ∧ (lims m).length ≤ K ∧ (K ≤ (lims n).length ∨ K ≤ (lims m).length) := ⟨max (lims n).length (lims m).length, by omega, by omega, by omega⟩
      go_loopw [33, 8, 9, 10, 6, 7] (fun s33 _ _ _ s6 s7 wr => ∃ (out : List Nat) (ao : Option Addr) (co cy : Nat), out.length ≤ K ∧ s33 = .int .i64 (out.length : Int) ∧ s6 = .slice ao out.length co ∧ s7 = .int .u32 (cy : Int) ∧ cy ≤ 1 ∧ AddInv n m out cy ∧ Hid (Nw wr w2.heap.size ao co out) ∧ Hid (Fr [] w2 wr)) (fun x _ _ _ _ _ _ => K - (intOf x).toNat)
      case atStart => exact ⟨[], _, _, 0, by simp, rfl, rfl, rfl, by omega, AddInv.start n m, N0, F0⟩
      case round =>
        obtain ⟨out, ao, co, cy, ho, rfl, rfl, rfl, hcy, hV, hN, hF⟩ := hrel
        by_cases hlt : out.length < K
        · (try have t1 : out.length < (lims m).length := by omega)
          (try have t2 : out.length < (lims n).length := by omega)
          have X1 := Lib.hid (X.out.keep hF.out)
          have Y1 := Lib.hid (Y.out.keep hF.out)
          have bx := lim_get (lim_lims n) out.length
          have by_ := lim_get (lim_lims m) out.length
          have CX := Lib.hid (lat_c wr X1.out out.length)
          have CY := Lib.hid (lat_c wr Y1.out out.length)
          obtain ⟨x, hx⟩ : ∃ x, x = (lims n)[out.length]?.getD 0 := ⟨_, rfl⟩
          obtain ⟨y, hy⟩ : ∃ y, y = (lims m)[out.length]?.getD 0 := ⟨_, rfl⟩
          have VS : Hid (AddInv n m (out ++ [(x + y + cy) % 4294967296]) ((x + y + cy) / 4294967296)) := Lib.hid (by rw [hx, hy]; exact hV.step)
          rw [← hx] at CX bx
          rw [← hy] at CY by_
          have hz : (x + y + cy) % 4294967296 < 4294967296 := Nat.mod_lt _ (by decide)
          have hc2 : (x + y + cy) / 4294967296 ≤ 1 := by omega
          have CS := Lib.hid (fun W => add32_c x y cy W bx by_ hcy)
          generalize (x + y + cy) % 4294967296 = z at *
          generalize (x + y + cy) / 4294967296 = c2 at *
          have V1 := VS.out
          clear hx hy bx by_ VS hV
          go_wp2_with fail
          refine CX.out.mono ?_
          rintro e w' ⟨rfl, rfl⟩
          go_wp2_with fail
          refine CY.out.mono ?_
          rintro e w' ⟨rfl, rfl⟩
          go_wp2_with fail
          refine (CS.out _).mono ?_
          rintro e w' ⟨rfl, rfl⟩
          clear CX CY CS
          have OW := Lib.hid (nw_alloc hN.out (.cells #[.int .u32 (z : Int)] 108))
          have NW := Lib.hid (heap_alloc_new wr (.cells #[.int .u32 (z : Int)] 108))
          have hBs : w2.heap.size ≤ (wr.alloc (.cells #[.int .u32 (z : Int)] 108)).heap.size := by have := hF.out.size; rw [size_alloc]; omega
          clear X1 Y1
          go_wp2_with (at_builtin; refine wpList_append_lies _ rfl _ _ 23 rfl w2.heap.size 108 i0 (.int .u32 0) 1 4 Tryz.underlying23 HI.out Z0.out Z1.out Z2.out rfl (by omega) (.slice ao out.length co) out.length (lc out) rfl OW.out ⟨wr.heap.size, 0, none⟩ 1 1 [.int .u32 (z : Int)] rfl rfl (World.news_of_block NW.out) (by simp [Value.oneCell']) (by omega) (by unfold maxLen; omega) (by omega) hBs _ rfl ?_; intro g5 cap5 w5 own5 gr5 at5 lt5; have Q := Lib.hid (app_step hN.out hF.out (Nat.le_refl _) hz (by omega) own5 gr5); clear own5 gr5 at5)
          go_roundw
          case rel => exact ⟨out ++ [z], _, _, c2, by simp; omega, by simp, by simp, rfl, hc2, V1, Lib.hid Q.out.1, Lib.hid Q.out.2⟩
          case measure => simp [intOf]; omega
        · have t1 : ¬ out.length < (lims m).length := by omega
          have t2 : ¬ out.length < (lims n).length := by omega
          have V3 := Lib.hid (hV.done (by omega) (by omega))
          have hz : cy < 4294967296 := by omega
          have OW := Lib.hid (nw_alloc hN.out (.cells #[.int .u32 (cy : Int)] 108))
          have NW := Lib.hid (heap_alloc_new wr (.cells #[.int .u32 (cy : Int)] 108))
          have hBs : w2.heap.size ≤ (wr.alloc (.cells #[.int .u32 (cy : Int)] 108)).heap.size := by have := hF.out.size; rw [size_alloc]; omega
          clear hV
          go_wp2_with (at_builtin; refine wpList_append_lies _ rfl _ _ 23 rfl w2.heap.size 108 i0 (.int .u32 0) 1 4 Tryz.underlying23 HI.out Z0.out Z1.out Z2.out rfl (by omega) (.slice ao out.length co) out.length (lc out) rfl OW.out ⟨wr.heap.size, 0, none⟩ 1 1 [.int .u32 (cy : Int)] rfl rfl (World.news_of_block NW.out) (by simp [Value.oneCell']) (by omega) (by unfold maxLen; omega) (by omega) hBs _ rfl ?_; intro g5 cap5 w5 own5 gr5 at5 lt5; have Q := Lib.hid (app_step hN.out hF.out (Nat.le_refl _) hz (by omega) own5 gr5); clear own5 gr5 at5)
          have CC := Lib.hid (capped_c w5 Q.out.1.in)
          rw [V3.out, List.length_append] at CC
          cases hf : fits (n + m) with
          | true =>
            have D : Hid (∀ a6 c6 w6, Nw w6 w5.heap.size a6 c6 (lims (n + m)) → Fr [] w5 w6 → CapR w (fits (n + m)) (n + m) (.returned (.tuple #[.slice a6 (lims (n + m)).length c6, .int .i64 0])) w6) := Lib.hid (fun a6 c6 w6 h1 h2 => by
              rw [hf]; exact capR_mono (g := true) ⟨a6, c6, rfl, h1, h2⟩ (FF.out.same Q.out.2))
            rw [hf] at CC
            clear hf
            refine CC.out.mono ?_
            rintro e w6 ⟨a6, c6, rfl, N6, F6⟩
            have D := Lib.hid (D.out a6 c6 w6 N6 F6)
            clear N6 F6 CC Q
            go_wp2
            go_ret2
            exact D.out
          | false =>
            have D : Hid (∀ w6, Fr [] w5 w6 → CapR w (fits (n + m)) (n + m) (.returned (.tuple #[.slice none 0 0, .int .i64 11])) w6) := Lib.hid (fun w6 h2 => by
              rw [hf]; exact capR_mono (g := false) ⟨rfl, h2⟩ (FF.out.same Q.out.2))
            rw [hf] at CC
            clear hf
            refine CC.out.mono ?_
            rintro e w6 ⟨rfl, F6⟩
            have D := Lib.hid (D.out w6 F6)
            clear F6 CC Q
            go_wp2
            go_ret2
            exact D.out
  · have hf : fits (n + m) = false := by
      cases h : fits (n + m) with
      | false => rfl
      | true =>
        have h1 := fits_le (show n ≤ n + m by omega) h
        have h2 := fits_le (show m ≤ n + m by omega) h
        rw [fits_len] at h1 h2
        simp only [decide_eq_true_eq] at h1 h2
        exact absurd ⟨h1, h2⟩ hbig
    rw [hf]
    clear hf
    by_cases hx : (lims n).length ≤ 64
    · have bx : decide (64 < (lims n).length) = false := by simpa using hx
      have by_ : decide (64 < (lims m).length) = true := by simp; omega
      have BX := Lib.hid bx
      have BY := Lib.hid by_
      clear bx by_ hx hbig
      go_enter Tryz.func96, Tryz.ntmps96
      go_wp2_with fail
      refine (ltrim_c w HA.out).mono ?_
      rintro e w1 ⟨a1, c1, rfl, N1, F1⟩
      rw [HN.out] at N1 ⊢
      have HB1 := Lib.hid (HB.out.keep F1)
      have F1 := Lib.hid F1
      clear N1
      go_wp2_with fail
      refine (ltrim_c w1 HB1.out).mono ?_
      rintro e w2 ⟨a2, c2, rfl, N2, F2⟩
      rw [HM.out] at N2 ⊢
      have FF := Lib.hid (F1.out.same F2)
      clear N2 F2 F1 HB1 HA HB
      go_wp2_with fail
      refine (lbig_c _ _ _ _).mono ?_
      rintro e w' ⟨rfl, rfl⟩
      rw [BX.out]
      go_wp2_with fail
      refine (lbig_c _ _ _ _).mono ?_
      rintro e w' ⟨rfl, rfl⟩
      rw [BY.out]
      go_wp2
      go_ret2
      exact ⟨rfl, FF.out⟩
    · have bx : decide (64 < (lims n).length) = true := by simp; omega
      have BX := Lib.hid bx
      clear bx hx hbig
      go_enter Tryz.func96, Tryz.ntmps96
      go_wp2_with fail
      refine (ltrim_c w HA.out).mono ?_
      rintro e w1 ⟨a1, c1, rfl, N1, F1⟩
      rw [HN.out] at N1 ⊢
      have HB1 := Lib.hid (HB.out.keep F1)
      have F1 := Lib.hid F1
      clear N1
      go_wp2_with fail
      refine (ltrim_c w1 HB1.out).mono ?_
      rintro e w2 ⟨a2, c2, rfl, N2, F2⟩
      have FF := Lib.hid (F1.out.same F2)
      clear N2 F2 F1 HB1 HA HB
      go_wp2_with fail
      refine (lbig_c _ _ _ _).mono ?_
      rintro e w' ⟨rfl, rfl⟩
      rw [BX.out]
      go_wp2
      go_ret2
      exact ⟨rfl, FF.out⟩
end Go.Proofs.YtjdanblijcdllaaGreatDoor
