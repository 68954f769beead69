/- What each tied law's frame asks: the row's condition gives the table; a world that meets it; slices and strings opened. -/
import Derived.Test.YtjdanblijcdllaaGreatDoorLimbX
import Derived.Test.YtjdanblijcdllaaGreatDoorTie
import Derived.Test.YtjdanblijcdllaaGreatDoorCards
import Derived.LaidMore
import Derived.LaidHandle
import Derived.MakeChecks
import Derived.Stop.Joined
import Derived.Stop.LaidErr
import Derived.Lib.LaidTab
import Derived.SevenTiedAt
import Derived.JoinedOf
import Derived.ChangeVars
import Derived.Lay
import Derived.LaidOnce
import Derived.Lib.LaidU8
set_option linter.all false
namespace Go.Proofs.YtjdanblijcdllaaGreatDoor
open Go.ChangeShapes Go.WideShapes Go.RowKit
/-- What Tower's rows list. -/
def listed : List (String × DataW Unit) := [("math/bits.deBruijn32tab", Rows.laid_math_bits_deBruijn32tab), ("math/bits.deBruijn64tab", Rows.laid_math_bits_deBruijn64tab), ("internal/strconv.optimize", Rows.laid_internal_strconv_optimize), ("internal/strconv.uint64pow10", Rows.laid_internal_strconv_uint64pow10), ("strconv.ErrRange", Rows.laid_strconv_ErrRange), ("strconv.ErrSyntax", Rows.laid_strconv_ErrSyntax), ("internal/strconv.leftcheats", Rows.laid_internal_strconv_leftcheats), ("internal/strconv.pow10Tab", Rows.laid_internal_strconv_pow10Tab)]
/-- What Flo's rows list. -/
def listedF : List (String × DataW Unit) := [("math/bits.deBruijn32tab", Rows.laid_math_bits_deBruijn32tab), ("math/bits.deBruijn64tab", Rows.laid_math_bits_deBruijn64tab), ("internal/strconv.float32info", Rows.laid_internal_strconv_float32info), ("internal/strconv.float64info", Rows.laid_internal_strconv_float64info), ("internal/strconv.optimize", Rows.laid_internal_strconv_optimize), ("internal/strconv.powtab", Rows.laid_internal_strconv_powtab), ("internal/strconv.float64pow10", Rows.laid_internal_strconv_float64pow10), ("internal/strconv.float32pow10", Rows.laid_internal_strconv_float32pow10), ("internal/strconv.uint64pow10", Rows.laid_internal_strconv_uint64pow10), ("strconv.ErrRange", Rows.laid_strconv_ErrRange), ("strconv.ErrSyntax", Rows.laid_strconv_ErrSyntax), ("internal/strconv.leftcheats", Rows.laid_internal_strconv_leftcheats), ("internal/strconv.pow10Tab", Rows.laid_internal_strconv_pow10Tab)]
theorem own : ownKnob Tryz.prog.godebug = none := by kernel_rfl
theorem laidOut : laidOutB Tryz.prog = true := by kernel_rfl
theorem tab_of_reads {W : World} (h : Lib.VarReads Tryz.prog W "internal/strconv.uint64pow10" Rows.laid_internal_strconv_uint64pow10) : Tab W := by
  obtain ⟨g, t, cs, fuel, p, hg, hty, hvar, hd⟩ := h
  obtain rfl := Option.some.inj ((show Tryz.prog.globalNamed "internal/strconv.uint64pow10" = some 7 by kernel_rfl).symm.trans hg)
  obtain rfl := Option.some.inj ((show (Tryz.prog.globals[7]?).map (·.type) = some 238 by kernel_rfl).symm.trans hty)
  show W.var? Tryz.prog _ = _
  rw [hvar, ← Lib.cells_of_tab Tryz.underlying238 Tryz.underlying46 (by kernel_rfl) (by kernel_rfl) hd]
theorem listed_met (os : Os) (args : Array Value) : laidMet Tryz.prog listed ((World.laidAll Tryz.prog os listed).forCall (fun _ _ => 0) ⟨#[], args, []⟩).memory := laidMet_laidAll args (by kernel_rfl) (by kernel_rfl)
theorem listedF_met (os : Os) (args : Array Value) : laidMet Tryz.prog listedF ((World.laidAll Tryz.prog os listedF).forCall (fun _ _ => 0) ⟨#[], args, []⟩).memory := laidMet_laidAll args (by kernel_rfl) (by kernel_rfl)
/-- A slice that reads as limbs, however long. -/
structure InA (w : World) (a : Option Addr) (len cap : Nat) (L : List Nat) : Prop where
  len : L.length = len
  rd : L = [] ∨ ∃ b o, a = some ⟨b, o, none⟩ ∧ b < w.heap.size ∧ ∀ i, i < L.length → w.cell? ⟨b, o + i, none⟩ = some (.int .u32 ((L[i]?.getD 0 : Nat) : Int))
  lim : Lim L
  le : L.length ≤ cap
  cm : cap ≤ maxLen
theorem InA.in {w : World} {a : Option Addr} {len cap : Nat} {L : List Nat} (h : InA w a len cap L) (hs : len ≤ 100000) : In w a cap L := ⟨h.rd, h.lim, h.le, h.cm, by rw [h.len]; exact hs⟩
theorem wf_u32 {z : Int} (h : (Lit.int .u32 z).wf = true) : 0 ≤ z ∧ z < 4294967296 := by
  simp [Lit.wf, IntKind.min, IntKind.max, IntKind.bits, IntKind.signed] at h
  omega
section
variable {H : Type} {enc : TypeId × Value → H} {W : World} {d : DataW H} {p : List MemPlace}
theorem open_u32s {a : Option Addr} {len cap : Nat} (h : DataW.Trod enc Tryz.prog W 0 (fun _ => true) true 23 (.slice a len cap) d p) : ∃ L : List Nat, InA W a len cap L := by
  obtain ⟨zs, h1, h2, h3, h4, h5⟩ := open_int_slice Tryz.underlying23 Tryz.underlying108 (by kernel_rfl) h
  have hz : ∀ n ∈ zs, 0 ≤ n ∧ n < 4294967296 := fun n hn => wf_u32 (h2 n hn)
  refine ⟨zs.map Int.toNat, ⟨by simp [h1], ?_, ?_, by simpa [h1] using h3, h4⟩⟩
  · rcases h5 with h5 | ⟨b, o, e1, e2, e3⟩
    · left
      have : zs = [] := List.length_eq_zero_iff.1 (by omega)
      rw [this]; rfl
    · right
      refine ⟨b, o, e1, e2, fun i hi => ?_⟩
      have hi' : i < zs.length := by simpa using hi
      rw [e3 i (by omega), List.getElem?_map, List.getElem?_eq_getElem hi']
      have := hz _ (List.getElem_mem hi')
      simp only [Option.map_some, Option.getD_some]
      rw [Int.toNat_of_nonneg this.1]
  · intro z hz'
    obtain ⟨n, hn, rfl⟩ := List.mem_map.1 hz'
    have := hz n hn
    omega
end
end Go.Proofs.YtjdanblijcdllaaGreatDoor
