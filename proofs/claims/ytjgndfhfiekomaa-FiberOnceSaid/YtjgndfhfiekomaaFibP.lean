/- Fibers: which handles a label. -/
import Derived.Test.YtjgndfhfiekomaaFibO
namespace Go.Proofs.Ytjgndfhfiekomaa
open Go.ChangeShapes Go.WideShapes Go.RowKit
variable {w0 w w1 w' : World} {c : Sk} {A A' : Ar} {top : Int} {last : Value}
/-- The field in which stands what a handler does for a label (with fuel; from the k-th label on). -/
def hdF (A : Ar) (m : Nat) (h label : Int) : Nat → Nat → Option Nat
  | 0, _ => none
  | n + 1, k => if 2 + 2 * (k : Int) + 1 < szF A m h then (if gtF A m h (2 + 2 * (k : Int)) = label then some (2 + 2 * k + 1) else hdF A m h label n (k + 1)) else none
def hlVal : Option Nat → Value
  | none => .tuple #[.int .i64 0, .bool false]
  | some i => .tuple #[.int .i64 (i : Int), .bool true]
set_option maxHeartbeats 1000000 in
theorem khandles_c (h : St w0 w c A top last) (hh label : Int) (hw : W64 hh) (_ : W64 label) (fuel : Nat) (hfu : szF A c.m hh ≤ 2 * (fuel : Int) + 3) (hf2 : fuel ≤ 1000) : Calls Try.prog 150 #[.pointer (some ⟨c.kb, 0, none⟩), .int .u64 hh, .int .u64 label] w fun e w' => e = .returned (hlVal (hdF A c.m hh label fuel 0)) ∧ St w0 w' c A top last := by
  have k0 := h.k0
  have CV := Lib.hid (vheap_c h)
  have CZ := Lib.hid (osize_s h hh hw)
  have HZ : Hid (szF A c.m hh ≤ 2 * (fuel : Int) + 3) := Lib.hid hfu
  obtain ⟨R, hR⟩ : ∃ R, R = hdF A c.m hh label fuel 0 := ⟨_, rfl⟩
  rw [← hR]
  have HR : Hid (hdF A c.m hh label fuel 0 = R) := Lib.hid hR.symm
  have CG : Hid (∀ wr, St w0 wr c A top last → ∀ k : Nat, k ≤ 2000 → _) := Lib.hid (fun wr h k hk => kget_c h hh (2 + 2 * (k : Int)) hw (I64.of (by omega)))
  have HS : Hid (∀ n k, hdF A c.m hh label (n + 1) k = if 2 + 2 * (k : Int) + 1 < szF A c.m hh then (if gtF A c.m hh (2 + 2 * (k : Int)) = label then some (2 + 2 * k + 1) else hdF A c.m hh label n (k + 1)) else none) := Lib.hid (fun n k => rfl)
  have szl : szF A c.m hh ≤ 3000 := by omega
  obtain ⟨sz, hsz⟩ : ∃ sz, sz = szF A c.m hh := ⟨_, rfl⟩
  rw [← hsz] at CZ HZ HS szl
  have sz0 : -1 ≤ sz := by rw [hsz]; exact (szF_b h.a.wd hw).1
  clear hR hsz hfu h hw
  go_enter Try.func150, Try.ntmps150
  go_wp2_with fail
  refine CV.out.mono ?_
  rintro e w' ⟨rfl, rfl⟩
  go_wp2_with fail
  refine CZ.out.mono ?_
  rintro e w1 ⟨rfl, h1⟩
  have h1 := Lib.hid h1
  clear CV CZ k0
  go_wp2_with fail
  go_loopg [9] fuel (fun j y wr => ∃ k : Nat, y = .int .i64 (2 + 2 * (k : Int)) ∧ Hid (hdF A c.m hh label j k = R ∧ j + k = fuel) ∧ Hid (St w0 wr c A top last))
  case atStart => exact ⟨0, rfl, Lib.hid ⟨HR.out, by omega⟩, h1⟩
  case round =>
    obtain ⟨k, rfl, hE, hS⟩ := hrel
    clear h1 HR
    have hk : k ≤ 1000 := by have := hE.out.2; omega
    by_cases hlt : 2 + 2 * (k : Int) + 1 < sz
    · obtain ⟨j, hj⟩ : ∃ j, gk = j + 1 := ⟨gk - 1, by have := hE.out.2; have := HZ.out; omega⟩
      have E := hE.out.1
      rw [hj, HS.out, if_pos hlt] at E
      have HJ := Lib.hid hj
      have HJ2 : Hid (j + (k + 1) = fuel) := Lib.hid (by have := hE.out.2; omega)
      have CGk := Lib.hid (CG.out _ hS.out k (by omega))
      clear hj CG hE
      by_cases hl : gtF A c.m hh (2 + 2 * (k : Int)) = label
      · have hlb : (gtF A c.m hh (2 + 2 * (k : Int)) == label) = true := by simpa using hl
        rw [if_pos hl] at E
        have E2 := Lib.hid E
        generalize gtF A c.m hh (2 + 2 * (k : Int)) = gv at *
        clear E hl
        go_wp2_with fail
        refine CGk.out.mono ?_
        rintro e w2 ⟨rfl, h2⟩
        go_wp2
        go_ret2
        exact ⟨by rw [← E2.out]; simp [hlVal], h2⟩
      · have hlb : (gtF A c.m hh (2 + 2 * (k : Int)) == label) = false := by simpa using hl
        rw [if_neg hl] at E
        have E2 : Hid (hdF A c.m hh label j (k + 1) = R ∧ j + (k + 1) = fuel) := Lib.hid ⟨E, HJ2.out⟩
        generalize gtF A c.m hh (2 + 2 * (k : Int)) = gv at *
        clear E hl
        go_wp2_with fail
        refine CGk.out.mono ?_
        rintro e w2 ⟨rfl, h2⟩
        have h2 := Lib.hid h2
        go_wp2_with fail
        go_roundg j
        case measure => have := HJ.out; omega
        case rel => exact ⟨k + 1, congrArg (Value.int .i64) (by omega), E2, h2⟩
    · have E2 : Hid (R = none) := Lib.hid (by
        have E := hE.out.1
        cases gk with
        | zero => exact E.symm
        | succ j => rw [HS.out, if_neg hlt] at E; exact E.symm)
      clear hE CG
      go_wp2
      go_ret2
      exact ⟨by rw [E2.out]; rfl, hS.out⟩
end Go.Proofs.Ytjgndfhfiekomaa
