/- What each tied law's frame asks: the row's condition gives the table; a world that meets it; slices and strings opened. -/
import Derived.Test.YtladhmbidicncaaDoorLimbX
import Derived.Test.YtladhmbidicncaaDoorTie
import Derived.Test.YtladhmbidicncaaDoorCards
import Derived.LaidMore
import Derived.LaidHandle
import Derived.MakeChecks
import Derived.Stop.Joined
import Derived.Stop.LaidErr
import Derived.Lib.LaidTab
import Derived.SevenTiedAt
import Derived.JoinedOf
import Derived.ChangeVars
namespace Go.Proofs.YtladhmbidicncaaDoor
open Go.ChangeShapes Go.WideShapes Go.RowKit
/-- What the rows list. -/
def listed {H : Type} : List (String × DataW H) := [("math/bits.deBruijn32tab", Rows.laid_math_bits_deBruijn32tab), ("math/bits.deBruijn64tab", Rows.laid_math_bits_deBruijn64tab), ("internal/strconv.uint64pow10", Rows.laid_internal_strconv_uint64pow10)]
theorem own : ownKnob Tryd.prog.godebug = none := by kernel_rfl
theorem laidOut : laidOutB Tryd.prog = true := by kernel_rfl
theorem gTab0 : ((Tryd.prog).globalNamed "internal/strconv.uint64pow10").bind (fun g => ((Tryd.prog).globals[g]?).map (·.type)) = some 129 := by kernel_rfl
theorem gTab : ∃ g, (Tryd.prog).globalNamed "internal/strconv.uint64pow10" = some g ∧ ((Tryd.prog).globals[g]?).map (·.type) = some 129 := by
  have h := gTab0
  cases hg : (Tryd.prog).globalNamed "internal/strconv.uint64pow10" with
  | none => rw [hg] at h; simp at h
  | some g => rw [hg] at h; exact ⟨g, rfl, h⟩
theorem tab_of_laid {W : World} (h : laidMetH Tryd.prog listed W) : Tab W := by
  rw [MakeChecks.laidMetH_plain _ _ _ (by kernel_rfl)] at h
  have h2 := h.tail.tail
  obtain ⟨g, hg, hgt⟩ := gTab
  exact Lib.tabIs_of_head hg hgt Tryd.underlying129 Tryd.underlying35 (by kernel_rfl) (by kernel_rfl) h2
theorem door_met (os : Os) (args : Array Value) : laidMetH Tryd.prog listed ((World.doorLaid Tryd.prog 24 os).forCall (fun _ _ => 0) ⟨#[], args, []⟩).memory :=
  laidMetH_of_parts3 (fuel := 8) (laidMet_of_run' 8 (by kernel_rfl) (by kernel_rfl)) (by kernel_rfl) (by kernel_rfl)
/-- A slice that reads as limbs, however long. -/
structure InA (w : World) (a : Option Addr) (len cap : Nat) (L : List Nat) : Prop where
  len : L.length = len
  rd : L = [] ∨ ∃ b o, a = some ⟨b, o, none⟩ ∧ b < w.heap.size ∧ ∀ i, i < L.length → w.cell? ⟨b, o + i, none⟩ = some (.int .u32 ((L[i]?.getD 0 : Nat) : Int))
  lim : Lim L
  le : L.length ≤ cap
  cm : cap ≤ maxLen
theorem InA.in {w : World} {a : Option Addr} {len cap : Nat} {L : List Nat} (h : InA w a len cap L) (hs : len ≤ 100000) : In w a cap L := ⟨h.rd, h.lim, h.le, h.cm, by rw [h.len]; exact hs⟩
theorem wf_u32 {z : Int} (h : (Lit.int .u32 z).wf = true) : 0 ≤ z ∧ z < 4294967296 := by
  simp [Lit.wf, IntKind.min, IntKind.max, IntKind.bits, IntKind.signed] at h
  omega
section
variable {H : Type} {enc : TypeId × Value → H} {W : World} {d : DataW H} {p : List MemPlace}
theorem open_u32s {a : Option Addr} {len cap : Nat} (h : DataW.Trod enc Tryd.prog W 0 (fun _ => true) true 22 (.slice a len cap) d p) : ∃ L : List Nat, InA W a len cap L := by
  obtain ⟨zs, h1, h2, h3, h4, h5⟩ := open_int_slice Tryd.underlying22 Tryd.underlying38 (by kernel_rfl) h
  have hz : ∀ n ∈ zs, 0 ≤ n ∧ n < 4294967296 := fun n hn => wf_u32 (h2 n hn)
  refine ⟨zs.map Int.toNat, ⟨by simp [h1], ?_, ?_, by simpa [h1] using h3, h4⟩⟩
  · rcases h5 with h5 | ⟨b, o, e1, e2, e3⟩
    · left
      have : zs = [] := List.length_eq_zero_iff.1 (by omega)
      rw [this]; rfl
    · right
      refine ⟨b, o, e1, e2, fun i hi => ?_⟩
      have hi' : i < zs.length := by simpa using hi
      rw [e3 i (by omega), List.getElem?_map, List.getElem?_eq_getElem hi']
      have := hz _ (List.getElem_mem hi')
      simp only [Option.map_some, Option.getD_some]
      rw [Int.toNat_of_nonneg this.1]
  · intro z hz'
    obtain ⟨n, hn, rfl⟩ := List.mem_map.1 hz'
    have := hz n hn
    omega
end
end Go.Proofs.YtladhmbidicncaaDoor
