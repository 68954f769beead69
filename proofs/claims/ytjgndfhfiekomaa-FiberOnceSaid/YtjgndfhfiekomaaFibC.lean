/- Fibers: objects of some fields; segments; where the topmost frame is. -/
import Derived.Test.YtjgndfhfiekomaaFibB
namespace Go.Proofs.Ytjgndfhfiekomaa
open Go.ChangeShapes Go.WideShapes Go.RowKit
variable {w0 w w1 w' : World} {c : Sk} {A A' : Ar} {top : Int} {last : Value}
/-- The first fields of an object are set, one after the other. -/
def setN (A : Ar) (m : Nat) (x : Int) (ws : List Int) : Nat → Ar
  | 0 => A
  | k + 1 => stF (setN A m x ws k) m x k (ws[k]?.getD 0)
def objF (A : Ar) (m : Nat) (kind : Int) (ws : List Int) : Ar × Option Int :=
  match (makeF A m kind ws.length).2 with
  | none => ((makeF A m kind ws.length).1, none)
  | some x => (setN (makeF A m kind ws.length).1 m x ws ws.length, some x)
/-- A slice of words, as it is read, away from the stack's memory. -/
def FdAt (w : World) (c : Sk) (a : Option Addr) (ws : List Int) : Prop := ws = [] ∨ ∃ b o, a = some ⟨b, o, none⟩ ∧ b < w.heap.size ∧ b ∉ c.own ∧ ∀ i, i < ws.length → w.cell? ⟨b, o + i, none⟩ = some (.int .u64 (ws[i]?.getD 0))
theorem FdAt.keep {a : Option Addr} {ws : List Int} (h : FdAt w c a ws) (hF : Fr c.own w w') : FdAt w' c a ws := by
  rcases h with h | ⟨b, o, h1, h2, h3, h4⟩
  · exact .inl h
  · exact .inr ⟨b, o, h1, Nat.lt_of_lt_of_le h2 hF.size, h3, fun i hi => by
      rw [← h4 i hi]
      exact World.cell?_of_block (w := w) (hF.block b h2 h3)⟩
theorem w64_nth {ws : List Int} (h : ∀ x, x ∈ ws → W64 x) (k : Nat) : W64 (ws[k]?.getD 0) := by
  cases hx : ws[k]? with
  | none => exact w64_0
  | some x => exact h x (List.mem_of_getElem? hx)
theorem vraw_c (h : St w0 w c A top last) (kind : Int) (ws : List Int) (hws : ∀ x, x ∈ ws → W64 x) (a : Option Addr) (n cap : Nat) (hf : FdAt w c a ws) (hn : ws.length = n) (hns : n ≤ 1000) :
    Calls Try.prog 144 #[.pointer (some ⟨c.sb, 0, none⟩), .int .i64 kind, .slice a n cap] w fun e w' => e = .returned (wordVal (objF A c.m kind ws).2) ∧ St w0 w' c (objF A c.m kind ws).1 top last := by
  have s0 := h.s0
  have CM := Lib.hid (omake_s h.base kind (n : Int))
  have WX := Lib.hid (makeF_wd h.a.wd c.m kind (n : Int)).2
  have H := Lib.hid h
  have HF := Lib.hid hf
  have HN := Lib.hid hn
  have HW := Lib.hid hws
  have OB : Hid (objF A c.m kind ws = match (makeF A c.m kind n).2 with | none => ((makeF A c.m kind n).1, none) | some x => (setN (makeF A c.m kind n).1 c.m x ws n, some x)) := Lib.hid (by unfold objF; rw [hn])
  clear h hf hn hws
  cases ho : (makeF A c.m kind n).2 with
  | none =>
    rw [ho] at CM OB
    rw [OB.out]
    clear ho OB WX
    go_enter Try.func144, Try.ntmps144
    go_wp2_with fail
    refine CM.out.mono ?_
    rintro e w1 ⟨rfl, h1⟩
    simp only [wordVal]
    go_wp2
    go_ret2
    exact ⟨rfl, H.out.join h1⟩
  | some x =>
    rw [ho] at CM OB
    rw [OB.out]
    have hx := Lib.hid (WX.out x ho)
    clear ho OB WX
    generalize (makeF A c.m kind (n : Int)).1 = A1 at *
    go_enter Try.func144, Try.ntmps144
    go_wp2_with fail
    refine CM.out.mono ?_
    rintro e w1 ⟨rfl, h1⟩
    have h1 : Hid (St w w1 c (setN A1 c.m x ws 0) top last) := Lib.hid h1
    simp only [wordVal]
    clear CM
    go_wp2_with fail
    go_loopw [27] (fun y wr => ∃ k : Nat, k ≤ n ∧ y = .int .i64 (k : Int) ∧ Hid (St w wr c (setN A1 c.m x ws k) top last)) (fun y _ => n - (intOf y).toNat)
    case atStart => exact ⟨0, Nat.zero_le _, rfl, h1⟩
    case round =>
      obtain ⟨k, hk, rfl, hS⟩ := hrel
      clear h1
      by_cases hlt : k < n
      · have hr := HF.out.keep hS.out.fr
        rcases hr with hr | ⟨b, o, rfl, _, _, hb⟩
        · have := HN.out; rw [hr] at this; simp at this; omega
        have d0 := hb k (by rw [HN.out]; exact hlt)
        have s1 := hS.out.s0
        have CS := Lib.hid (oset_s hS.out x (k : Int) (ws[k]?.getD 0) hx.out (I64.of (by omega)) (w64_nth HW.out k))
        have FIN : Hid (∀ w2, St w w2 c (stF (setN A1 c.m x ws k) c.m x (k : Int) (ws[k]?.getD 0)) top last → St w w2 c (setN A1 c.m x ws (k + 1)) top last) := Lib.hid (fun w2 h => h)
        obtain ⟨y, hy⟩ : ∃ y, y = ws[k]?.getD 0 := ⟨_, rfl⟩
        rw [← hy] at d0 CS FIN
        clear hy hb
        go_wp2_with fail
        refine CS.out.mono ?_
        rintro e w2 ⟨⟨z, rfl⟩, h2⟩
        have h2 := Lib.hid h2
        go_wp2
        go_roundw
        case rel => exact ⟨k + 1, by omega, by go_num, Lib.hid (FIN.out _ h2.out)⟩
        case measure => simp [intOf]; omega
      · have hkn : k = n := by omega
        subst hkn
        go_wp2
        go_ret2
        exact ⟨rfl, H.out.join hS.out⟩
end Go.Proofs.Ytjgndfhfiekomaa
