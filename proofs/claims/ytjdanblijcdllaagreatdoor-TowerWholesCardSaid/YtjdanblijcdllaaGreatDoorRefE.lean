/- Reference 1: Minus. -/
import Derived.Test.YtjdanblijcdllaaGreatDoorRefD
set_option linter.all false
namespace Go.Proofs.YtjdanblijcdllaaGreatDoor
open Go.ChangeShapes Go.WideShapes Go.RowKit
variable {w w' w2 wr : World} {a b : Option Addr} {cap cap2 : Nat} {L M : List Nat} {B : Nat}
/-- So many limbs of a difference, and what is borrowed. -/
def MinusInv (L M : List Nat) (out : List Nat) (cy : Nat) : Prop := val out + val (M.take out.length) = val (L.take out.length) + 4294967296 ^ out.length * cy
theorem MinusInv.start (L M : List Nat) : MinusInv L M [] 0 := by simp [MinusInv, val]
theorem MinusInv.step {cy : Nat} {out : List Nat} (h : MinusInv L M out cy) (hL : Lim L) (hM : Lim M) (hc : cy ≤ 1) :
    MinusInv L M (out ++ [(L[out.length]?.getD 0 + 4294967296 - M[out.length]?.getD 0 - cy) % 4294967296]) (1 - (L[out.length]?.getD 0 + 4294967296 - M[out.length]?.getD 0 - cy) / 4294967296) := by
  have hx := lim_get hL out.length
  have hy := lim_get hM out.length
  unfold MinusInv at h ⊢
  rw [List.length_append, List.length_singleton, val_snoc, val_take_succ L out.length, val_take_succ M out.length, Nat.pow_succ]
  exact sub_step (w := cy) h (by omega)
theorem MinusInv.done {out : List Nat} {cy : Nat} (h : MinusInv L M out cy) (ho : Lim out) (hc : cy ≤ 1) (h1 : L.length = out.length) (hL : Lim L) (hle : val M ≤ val L) : val out = val L - val M := by
  unfold MinusInv at h
  have hl := val_lt hL
  rw [h1] at hl
  rw [List.take_of_length_le (by omega : L.length ≤ out.length), val_cut rfl (by omega : val M < 4294967296 ^ out.length)] at h
  have := val_lt ho
  rcases Nat.lt_or_ge 0 cy with h0 | h0
  · have e : cy = 1 := by omega
    subst e
    rw [Nat.mul_one] at h
    omega
  · have e : cy = 0 := by omega
    subst e
    rw [Nat.mul_zero] at h
    omega
set_option maxRecDepth 100000 in
theorem r1minus_c (w : World) (ha : In w a cap L) (hb : In w b cap2 M) (hla : L.length ≤ 90000) (hle : val M ≤ val L) : Calls Tryz.prog 148 #[.slice a L.length cap, .slice b M.length cap2] w (Gives w (lims (val L - val M))) := by
  have HA := Lib.hid ha
  have HB := Lib.hid hb
  have HLE := Lib.hid hle
  have hsb := hb.sm
  clear ha hb hle
  obtain ⟨i0, hi, hz0, hz1, hz2⟩ := info_parts info_u32
  have HI := Lib.hid hi
  have Z0 := Lib.hid hz0
  have Z1 := Lib.hid hz1
  have Z2 := Lib.hid hz2
  clear hi hz0 hz1 hz2
  have N0 : Hid (Nw (w.alloc (.cells #[] 108)) w.heap.size (some ⟨w.heap.size, 0, none⟩) 0 []) := Lib.hid (Nw.made w 0 0 (Nat.le_refl _) (by omega) (by omega))
  have F0 : Hid (Fr [] w (w.alloc (.cells #[] 108))) := Lib.hid ((Fr.refl [] w).alloc _)
  go_enter Tryz.func148, Tryz.ntmps148
  go_wp2
  go_loopw [5, 6, 12, 7, 8] (fun s5 s6 s12 _ _ wr => ∃ (out : List Nat) (ao : Option Addr) (co cy : Nat), out.length ≤ L.length ∧ s12 = .int .i64 (out.length : Int) ∧ s5 = .slice ao out.length co ∧ s6 = .int .u64 (cy : Int) ∧ cy ≤ 1 ∧ MinusInv L M out cy ∧ Hid (Nw wr w.heap.size ao co out) ∧ Hid (Fr [] w wr)) (fun _ _ x _ _ _ => L.length - (intOf x).toNat)
  case atStart => exact ⟨[], _, _, 0, by simp, rfl, rfl, rfl, by omega, MinusInv.start L M, N0, F0⟩
  case round =>
    obtain ⟨out, ao, co, cy, ho, rfl, rfl, rfl, hcy, hV, hN, hF⟩ := hrel
    by_cases t1 : out.length < L.length
    · have X1 := Lib.hid (HA.out.keep (hF.out))
      have Y1 := Lib.hid (HB.out.keep (hF.out))
      have bx := lim_get HA.out.lim out.length
      have by_ := lim_get HB.out.lim out.length
      have CX := Lib.hid (r1at_c wr X1.out out.length)
      have CY := Lib.hid (r1at_c wr Y1.out out.length)
      have VS := Lib.hid (hV.step HA.out.lim HB.out.lim hcy)
      generalize L[out.length]?.getD 0 = x at *
      generalize M[out.length]?.getD 0 = y at *
      go_wp2_with fail
      refine CX.out.mono ?_
      rintro e w' ⟨rfl, rfl⟩
      go_wp2_with fail
      refine CY.out.mono ?_
      rintro e w' ⟨rfl, rfl⟩
      clear CX CY X1 Y1 hV
      have hz : (x + 4294967296 - y - cy) % 4294967296 < 4294967296 := Nat.mod_lt _ (by decide)
      have hc2 : (x + 4294967296 - y - cy) / 4294967296 ≤ 1 := by omega
      have e1 : ((x : Int) + 4294967296 - y - cy) % 4294967296 = (((x + 4294967296 - y - cy) % 4294967296 : Nat) : Int) := by omega
      have e2 : ((x : Int) + 4294967296 - y - cy) / 4294967296 = (((x + 4294967296 - y - cy) / 4294967296 : Nat) : Int) := by omega
      generalize (x + 4294967296 - y - cy) % 4294967296 = z at *
      generalize (x + 4294967296 - y - cy) / 4294967296 = c2 at *
      have e3 : (1 : Int) - (c2 : Int) = ((1 - c2 : Nat) : Int) := by omega
      have V1 := VS.out
      have OW := Lib.hid (nw_alloc hN.out (.cells #[.int .u32 (z : Int)] 108))
      have NW := Lib.hid (heap_alloc_new wr (.cells #[.int .u32 (z : Int)] 108))
      have hBs : w.heap.size ≤ (wr.alloc (.cells #[.int .u32 (z : Int)] 108)).heap.size := by have := hF.out.size; rw [size_alloc]; omega
      clear VS
      go_wp2_with (at_builtin; refine wpList_append_lies _ rfl _ _ 23 rfl w.heap.size 108 i0 (.int .u32 0) 1 4 Tryz.underlying23 HI.out Z0.out Z1.out Z2.out rfl (by omega) (.slice ao out.length co) out.length (lc out) rfl OW.out ⟨wr.heap.size, 0, none⟩ 1 1 [.int .u32 (z : Int)] rfl rfl (World.news_of_block NW.out) (by simp [Value.oneCell']) (by omega) (by unfold maxLen; omega) (by omega) hBs _ rfl ?_; intro g5 cap5 w5 own5 gr5 at5 lt5; have Q := Lib.hid (app_step hN.out hF.out (Nat.le_refl _) hz (by omega) own5 gr5); clear own5 gr5 at5)
      go_roundw
      case rel => exact ⟨out ++ [z], _, _, 1 - c2, by simp; omega, by simp, by simp, by first | rfl | exact congrArg _ e3, by omega, V1, Lib.hid Q.out.1, Lib.hid Q.out.2⟩
      case measure => simp [intOf]; omega
    · have CT := Lib.hid (r1trim_c wr hN.out.in)
      have e := hV.done hN.out.lim hcy (by omega) HA.out.lim HLE.out
      rw [e] at CT
      clear hV e
      go_wp2_with fail
      refine CT.out.mono ?_
      rintro e w3 ⟨a3, c3, rfl, h3, f3⟩
      have D := Lib.hid (gives_mk (h3.base hF.out.size) (hF.out.same f3))
      clear h3 f3
      go_wp2
      go_ret
      exact D.out
end Go.Proofs.YtjdanblijcdllaaGreatDoor
