/- Fibers: found; resumptions once more. -/
import Derived.Test.YtjgndfhfiekomaaFibQ
namespace Go.Proofs.Ytjgndfhfiekomaa
open Go.ChangeShapes Go.WideShapes Go.RowKit
variable {w0 w w1 w' : World} {c : Sk} {A A' : Ar} {top : Int} {last : Value}
theorem St.drewN (h : St w0 w c A top last) (n : Nat) : St w0 (w.drewN n) c A top last := h.keep ((Fr.refl _ _).drewN n)
def findVal' (A : Ar) (m : Nat) (f : Int) : Option (Nat × Nat) → Value
  | none => .tuple #[.int .i64 0, .int .u64 45, .bool false]
  | some (u, i) => .tuple #[.int .i64 (u : Int), .int .u64 (gtF A m (gtF A m f 3) (i : Int)), .bool true]
set_option maxRecDepth 100000 in
set_option maxHeartbeats 2000000 in
theorem kfind_none (h : St w0 w c A top (.pointer none)) (label : Int) (hlab : W64 label) (hl3 : label % 8 ≠ 3) (fuel : Nat) (R : Option (Nat × Nat)) (f : Int) (hf : W64 f) (hR : srF A c.m label fuel top 0 = some R) (hok : srOk A c.m fuel top = true) (hfu : fuel ≤ 1000)
    (hd : ∀ u i, R = some (u, i) → u ≤ 1000 ∧ i ≤ 1000 ∧ dnF A c.m u top = some f) :
    Calls Try.prog 96 #[.pointer (some ⟨c.kb, 0, none⟩), .int .u64 label] w fun e w' => e = .returned (findVal' A c.m f R) ∧ St w0 w' c A top (.pointer none) := by
  have k3 := h.k3
  have CS : Hid (∀ wa, St w0 wa c A top (.pointer none) → _) := Lib.hid (fun wa ha => ksearch_c ha label hlab fuel R hR hok hfu)
  have CK : Hid (∀ wa, _) := Lib.hid (fun wa => kind_c label wa hlab.1 hlab.2)
  have hlb : (label % 8 == 3) = false := by simpa using hl3
  have OW : Hid (∀ (wa wb : World) (up fld : Int) (ok : Bool) (g : Nat), g ∉ c.all → FnAt wa g top label up fld ok → Fr c.own wa wb → FnAt wb g top label up fld ok) := Lib.hid (fun wa wb up fld ok g hg hb hF => hF.at hb (fun hm => hg (own_all hm)))
  have HD := Lib.hid hd
  have HF := Lib.hid hf
  clear hR hok hl3 hd hf
  go_enter Try.func96, Try.ntmps96
  go_wp2
  go_quiet (fail)
  have hq := h.drewN nq
  have hga : Hid (w.heap.size ∉ c.all) := Lib.hid (fun hx => by have := h.all_lt _ hx; omega)
  go_wp2_with fail
  refine (CS.out _ hq).mono ?_
  rintro e w1 ⟨rfl, h1, hm⟩
  simp only [show (w.drewN nq).heap.size = w.heap.size from rfl] at hm
  replace hm := Lib.hid hm
  have k2 := h1.k2
  clear k3 CS h hq
  cases R with
  | none =>
    obtain ⟨up, hB⟩ := hm.out
    have x4 := hB.c4
    have H1 := Lib.hid h1
    clear hm hB HD HF OW hga h1
    cases hrem : c.rem with
    | false =>
      rw [hrem] at k2
      clear hrem
      go_wp2_with (first | (go_at_call 98; refine (nothing_c _).mono ?_; rintro e w' ⟨rfl, rfl⟩))
      go_ret3
      exact ⟨rfl, H1.out⟩
    | true =>
      rw [hrem] at k2
      clear hrem
      go_wp2_with (first | (go_at_call 81; refine (CK.out _).mono ?_; rintro e w' ⟨rfl, rfl⟩) | (first | (go_at_call 98; refine (nothing_c _).mono ?_; rintro e w' ⟨rfl, rfl⟩)))
      go_ret3
      exact ⟨rfl, H1.out⟩
  | some x =>
    obtain ⟨u, i⟩ := x
    have hB : FnAt w1 w.heap.size top label u i true := hm.out
    obtain ⟨hu, hi, hdn⟩ := HD.out u i rfl
    have x4 := hB.c4
    have x2 := hB.c2
    have CDN : Hid (Calls Try.prog 110 #[.pointer (some ⟨c.kb, 0, none⟩), .int .i64 (u : Int)] w1 fun e w' => e = .returned (.tuple #[.int .u64 f, .bool (!lowF A c.m f)]) ∧ St w1 w' c A top (.pointer none)) := Lib.hid (by
      have := kdown_c h1.base u (by omega)
      rw [hdn] at this; exact this)
    have CHN : Hid (∀ wa, St w1 wa c A top (.pointer none) → _) := Lib.hid (fun wa ha => khandler_c ha f HF.out)
    have CGN : Hid (∀ w3 wa, St w3 wa c A top (.pointer none) → _) := Lib.hid (fun w3 wa ha => kget_c (w0 := w3) ha (gtF A c.m f 3) (i : Int) (ha.gw _ _) (I64.of (by omega)))
    have H1 := Lib.hid h1
    have HB := Lib.hid hB
    clear hm hB HD hdn h1
    have step : Hid (∀ w2, St w1 w2 c A top (.pointer none) → FnAt w2 w.heap.size top label u i true) := Lib.hid (fun w2 h2 => OW.out _ _ _ _ _ _ hga.out HB.out h2.fr)
    have KE : Hid (∀ w3 wb, St w1 w3 c A top (.pointer none) → Fr c.own w3 wb → wb.cell? ⟨w.heap.size, 2, none⟩ = some (.int .i64 (u : Int)) ∧ wb.cell? ⟨w.heap.size, 3, none⟩ = some (.int .i64 (i : Int))) := Lib.hid (fun w3 wb h3 hF => by
      have := OW.out _ _ _ _ _ _ hga.out (step.out _ h3) hF
      exact ⟨this.c2, this.c3⟩)
    clear OW hga
    cases hrem : c.rem with
    | false =>
      rw [hrem] at k2
      clear hrem CK
      go_wp2_with (go_at_call 110; refine CDN.out.mono ?_; rintro e w2 ⟨rfl, h2⟩)
      clear x4 x2 k2 CDN HB
      go_wp2_with fail
      refine (CHN.out _ h2).mono ?_
      rintro e w3 ⟨rfl, h3⟩
      have hz := h3.base
      have hzd := h3.base.drew
      obtain ⟨z2, z3⟩ := KE.out w3 w3 h3 (Fr.refl _ _)
      have H3 := Lib.hid h3
      have CG3 := Lib.hid (CGN.out w3)
      clear CHN h2 CGN
      go_wp2
      go_region_held3 (fun w_ => w_.cell? ⟨w.heap.size, 2, none⟩ = some (.int .i64 (u : Int)) ∧ w_.cell? ⟨w.heap.size, 3, none⟩ = some (.int .i64 (i : Int))) (with_reducible first | exact KE.out _ _ h3 h9.fr | exact KE.out _ _ h3 (Fr.refl _ _) | exact KE.out _ _ h3 (Fr.refl _ _).drew) (first | (go_at_call 102; refine Calls.mono (CG3.out _ (by first | exact hzd | exact hz)) ?_; rintro e w9 ⟨rfl, h9⟩))
      all_goals
        go_wp2
        go_ret3
        exact ⟨rfl, (H1.out.join H3.out).join h9⟩
    | true =>
      rw [hrem] at k2
      clear hrem
      go_wp2_with (first | (go_at_call 81; refine (CK.out _).mono ?_; rintro e w' ⟨rfl, rfl⟩) | (go_at_call 110; refine CDN.out.mono ?_; rintro e w2 ⟨rfl, h2⟩))
      clear x4 x2 k2 CDN HB
      go_wp2_with fail
      refine (CHN.out _ h2).mono ?_
      rintro e w3 ⟨rfl, h3⟩
      have hz := h3.base
      have hzd := h3.base.drew
      obtain ⟨z2, z3⟩ := KE.out w3 w3 h3 (Fr.refl _ _)
      have H3 := Lib.hid h3
      have CG3 := Lib.hid (CGN.out w3)
      clear CHN h2 CGN
      go_wp2
      go_region_held3 (fun w_ => w_.cell? ⟨w.heap.size, 2, none⟩ = some (.int .i64 (u : Int)) ∧ w_.cell? ⟨w.heap.size, 3, none⟩ = some (.int .i64 (i : Int))) (with_reducible first | exact KE.out _ _ h3 h9.fr | exact KE.out _ _ h3 (Fr.refl _ _) | exact KE.out _ _ h3 (Fr.refl _ _).drew) (first | (go_at_call 102; refine Calls.mono (CG3.out _ (by first | exact hzd | exact hz)) ?_; rintro e w9 ⟨rfl, h9⟩))
      all_goals
        go_wp2
        go_ret3
        exact ⟨rfl, (H1.out.join H3.out).join h9⟩
end Go.Proofs.Ytjgndfhfiekomaa
