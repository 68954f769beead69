/- Reference 1: Plus. -/
import Derived.Test.YtjdanblijcdllaaGreatDoorRefC
set_option linter.all false
namespace Go.Proofs.YtjdanblijcdllaaGreatDoor
open Go.ChangeShapes Go.WideShapes Go.RowKit
variable {w w' w2 wr : World} {a b : Option Addr} {cap cap2 : Nat} {L M : List Nat} {B : Nat}
/-- So many limbs of a sum, and what is carried. -/
def PlusInv (L M : List Nat) (out : List Nat) (cy : Nat) : Prop := val out + 4294967296 ^ out.length * cy = val (L.take out.length) + val (M.take out.length)
theorem PlusInv.start (L M : List Nat) : PlusInv L M [] 0 := by simp [PlusInv, val]
theorem PlusInv.step {cy : Nat} {out : List Nat} (h : PlusInv L M out cy) :
    PlusInv L M (out ++ [(L[out.length]?.getD 0 + M[out.length]?.getD 0 + cy) % 4294967296]) ((L[out.length]?.getD 0 + M[out.length]?.getD 0 + cy) / 4294967296) := by
  unfold PlusInv at h ⊢
  rw [List.length_append, List.length_singleton, val_snoc, val_take_succ L out.length, val_take_succ M out.length, Nat.pow_succ]
  exact add_step h
theorem PlusInv.done {out : List Nat} (h : PlusInv L M out 0) (h1 : L.length ≤ out.length) (h2 : M.length ≤ out.length) : val out = val L + val M := by
  unfold PlusInv at h
  rw [List.take_of_length_le h1, List.take_of_length_le h2] at h
  simpa using h
set_option maxRecDepth 100000 in
theorem r1plus_c (w : World) (ha : In w a cap L) (hb : In w b cap2 M) (hla : L.length ≤ 90000) (hlb : M.length ≤ 90000) : Calls Tryz.prog 113 #[.slice a L.length cap, .slice b M.length cap2] w (Gives w (lims (val L + val M))) := by
  have HA := Lib.hid ha
  have HB := Lib.hid hb
  clear ha hb
  obtain ⟨i0, hi, hz0, hz1, hz2⟩ := info_parts info_u32
  have HI := Lib.hid hi
  have Z0 := Lib.hid hz0
  have Z1 := Lib.hid hz1
  have Z2 := Lib.hid hz2
  clear hi hz0 hz1 hz2
  obtain ⟨K, hK1, hK2, hK3⟩ : ∃ K, L.length ≤ K ∧ M.length ≤ K ∧ K ≤ 90000 := ⟨max L.length M.length, by omega, by omega, by omega⟩
  have N0 : Hid (Nw (w.alloc (.cells #[] 108)) w.heap.size (some ⟨w.heap.size, 0, none⟩) 0 []) := Lib.hid (Nw.made w 0 0 (Nat.le_refl _) (by omega) (by omega))
  have F0 : Hid (Fr [] w (w.alloc (.cells #[] 108))) := Lib.hid ((Fr.refl [] w).alloc _)
  go_enter Tryz.func113, Tryz.ntmps113
  go_wp2
  go_loopw [5, 6, 7, 8] (fun s5 s6 s7 _ wr => ∃ (out : List Nat) (ao : Option Addr) (co cy : Nat), out.length ≤ K + 1 ∧ (out.length = K + 1 → cy = 0) ∧ s7 = .int .i64 (out.length : Int) ∧ s5 = .slice ao out.length co ∧ s6 = .int .u64 (cy : Int) ∧ cy ≤ 1 ∧ PlusInv L M out cy ∧ Hid (Nw wr w.heap.size ao co out) ∧ Hid (Fr [] w wr)) (fun _ _ x _ _ => K + 1 - (intOf x).toNat)
  case atStart => exact ⟨[], _, _, 0, by simp, by simp, rfl, rfl, rfl, by omega, PlusInv.start L M, N0, F0⟩
  case round =>
    obtain ⟨out, ao, co, cy, ho, hoz, rfl, rfl, rfl, hcy, hV, hN, hF⟩ := hrel
    have SPLIT : out.length < L.length ∨ (¬ out.length < L.length ∧ out.length < M.length) ∨ (¬ out.length < L.length ∧ ¬ out.length < M.length ∧ 0 < cy) ∨ (¬ out.length < L.length ∧ ¬ out.length < M.length ∧ cy = 0) := by omega
    rcases SPLIT with t1 | ⟨t1, t2⟩ | ⟨t1, t2, t3⟩ | ⟨t1, t2, rfl⟩
    case inr.inr.inr =>
      have CT := Lib.hid (r1trim_c wr hN.out.in)
      have e := hV.done (by omega) (by omega)
      rw [e] at CT
      clear hV e
      go_wp2_with fail
      refine CT.out.mono ?_
      rintro e w3 ⟨a3, c3, rfl, h3, f3⟩
      have D := Lib.hid (gives_mk (h3.base hF.out.size) (hF.out.same f3))
      clear h3 f3
      go_wp2
      go_ret
      exact D.out
    all_goals
      have hlen : out.length ≤ K := by
        rcases Nat.lt_or_ge K out.length with hh | hh
        · have := hoz (by omega); omega
        · exact hh
      have X1 := Lib.hid (HA.out.keep (hF.out))
      have Y1 := Lib.hid (HB.out.keep (hF.out))
      have bx := lim_get HA.out.lim out.length
      have by_ := lim_get HB.out.lim out.length
      have CX := Lib.hid (r1at_c wr X1.out out.length)
      have CY := Lib.hid (r1at_c wr Y1.out out.length)
      have VS := Lib.hid hV.step
      have hC : out.length = K → L[out.length]?.getD 0 = 0 ∧ M[out.length]?.getD 0 = 0 := fun h => by
        rw [List.getElem?_eq_none (by omega), List.getElem?_eq_none (by omega)]; exact ⟨rfl, rfl⟩
      generalize L[out.length]?.getD 0 = x at *
      generalize M[out.length]?.getD 0 = y at *
      go_wp2_with fail
      refine CX.out.mono ?_
      rintro e w' ⟨rfl, rfl⟩
      go_wp2_with fail
      refine CY.out.mono ?_
      rintro e w' ⟨rfl, rfl⟩
      clear CX CY X1 Y1 hV
      have hz : (x + y + cy) % 4294967296 < 4294967296 := Nat.mod_lt _ (by decide)
      have hc2 : (x + y + cy) / 4294967296 ≤ 1 := by omega
      have hcz : out.length + 1 = K + 1 → (x + y + cy) / 4294967296 = 0 := fun h => by have := hC (by omega); omega
      have e1 : ((x : Int) + y + cy) % 4294967296 = (((x + y + cy) % 4294967296 : Nat) : Int) := by omega
      have e2 : ((x : Int) + y + cy) / 4294967296 = (((x + y + cy) / 4294967296 : Nat) : Int) := by omega
      generalize (x + y + cy) % 4294967296 = z at *
      generalize (x + y + cy) / 4294967296 = c2 at *
      have V1 := VS.out
      have OW := Lib.hid (nw_alloc hN.out (.cells #[.int .u32 (z : Int)] 108))
      have NW := Lib.hid (heap_alloc_new wr (.cells #[.int .u32 (z : Int)] 108))
      have hBs : w.heap.size ≤ (wr.alloc (.cells #[.int .u32 (z : Int)] 108)).heap.size := by have := hF.out.size; rw [size_alloc]; omega
      clear VS hC
      go_wp2_with (at_builtin; refine wpList_append_lies _ rfl _ _ 23 rfl w.heap.size 108 i0 (.int .u32 0) 1 4 Tryz.underlying23 HI.out Z0.out Z1.out Z2.out rfl (by omega) (.slice ao out.length co) out.length (lc out) rfl OW.out ⟨wr.heap.size, 0, none⟩ 1 1 [.int .u32 (z : Int)] rfl rfl (World.news_of_block NW.out) (by simp [Value.oneCell']) (by omega) (by unfold maxLen; omega) (by omega) hBs _ rfl ?_; intro g5 cap5 w5 own5 gr5 at5 lt5; have Q := Lib.hid (app_step hN.out hF.out (Nat.le_refl _) hz (by omega) own5 gr5); clear own5 gr5 at5)
      go_roundw
      case rel => exact ⟨out ++ [z], _, _, c2, by simp; omega, by simp; omega, by simp, by simp, congrArg _ e2, hc2, V1, Lib.hid Q.out.1, Lib.hid Q.out.2⟩
      case measure => simp [intOf]; omega
end Go.Proofs.YtjdanblijcdllaaGreatDoor
