/- Fibers: which fiber handles a label. -/
import Derived.Test.YtjgndfhfiekomaaFibP
namespace Go.Proofs.Ytjgndfhfiekomaa
open Go.ChangeShapes Go.WideShapes Go.RowKit
variable {w0 w w1 w' : World} {c : Sk} {A A' : Ar} {top : Int} {last : Value}
def Sk.all (c : Sk) : List Nat := [c.kb, c.sb, c.rb, c.hb, c.b, c.wb, c.lb]
theorem St.all_lt (h : St w0 w c A top last) : ∀ x, x ∈ c.all → x < w.heap.size := by
  intro x hx
  unfold Sk.all at hx
  simp only [List.mem_cons, List.not_mem_nil, or_false] at hx
  rcases hx with rfl | rfl | rfl | rfl | rfl | rfl | rfl
  · exact lt_size h.a.k
  · exact lt_size h.a.s
  · exact lt_size h.a.r
  · exact lt_size h.a.h.p
  · exact lt_size h.a.h.ar.hb
  · exact lt_size h.a.h.ar.hw
  · exact lt_size h.a.h.ar.hl
/-- A block of the call's own changes. -/
theorem St.other (h : St w0 w c A top last) (g : Nat) (hg : w0.heap.size ≤ g) (hn : g ∉ c.all) (hF : Fr [g] w w') : St w0 w' c A top last := by
  have key : ∀ x, x ∈ c.all → x ∉ [g] := fun x hx hm => by
    simp only [List.mem_cons, List.not_mem_nil, or_false] at hm
    subst hm; exact hn hx
  have a1 : c.kb ∈ c.all := by simp [Sk.all]
  have a2 : c.sb ∈ c.all := by simp [Sk.all]
  have a3 : c.rb ∈ c.all := by simp [Sk.all]
  have a4 : c.hb ∈ c.all := by simp [Sk.all]
  have a5 : c.b ∈ c.all := by simp [Sk.all]
  have a6 : c.wb ∈ c.all := by simp [Sk.all]
  have a7 : c.lb ∈ c.all := by simp [Sk.all]
  exact ⟨⟨hF.at h.a.k (key _ a1), hF.at h.a.s (key _ a2), hF.at h.a.r (key _ a3), h.a.h.fr hF (key _ a4) (key _ a5) (key _ a6) (key _ a7), h.a.ok, h.a.wd, h.a.t, h.a.ap⟩, h.fr.trans hF (fun x hx => by
    simp only [List.mem_cons, List.not_mem_nil, or_false] at hx
    subst hx; exact .inr hg)⟩
theorem own_all {x : Nat} (h : x ∈ c.own) : x ∈ c.all := by
  unfold Sk.own at h; unfold Sk.all
  simp only [List.mem_cons, List.not_mem_nil, or_false] at h ⊢
  rcases h with h | h | h | h | h <;> simp [h]
/-- What was found. -/
def FnAt (w : World) (g : Nat) (f label up fld : Int) (ok : Bool) : Prop := blk w g = some (.cells #[.int .u64 f, .int .u64 label, .int .i64 up, .int .i64 fld, .bool ok] 193 (0, 0))
def srF (A : Ar) (m : Nat) (label : Int) : Nat → Int → Nat → Option (Option (Nat × Nat))
  | 0, _, _ => none
  | n + 1, f, up =>
    if f % 8 = 1 then
      (if hasF A m f = true then
        (match hdF A m (gtF A m f 3) label 200 0 with
        | some i => some (some (up, i))
        | none => srF A m label n (gtF A m f 0) (up + 1))
      else srF A m label n (gtF A m f 0) (up + 1))
    else some none
def srOk (A : Ar) (m : Nat) : Nat → Int → Bool
  | 0, _ => true
  | n + 1, f => if f % 8 = 1 then decide (szF A m (gtF A m f 3) ≤ 400) && srOk A m n (gtF A m f 0) else true
def SrDone (w0 w : World) (c : Sk) (A : Ar) (top : Int) (last : Value) (label : Int) (R : Option (Nat × Nat)) (e : Ending) (w' : World) : Prop :=
  e = .returned (.pointer (some ⟨w.heap.size, 0, none⟩)) ∧ St w0 w' c A top last ∧ (match R with
    | some (u, i) => FnAt w' w.heap.size top label u i true
    | none => ∃ up, FnAt w' w.heap.size top label up 0 false)
def SrM (R : Option (Nat × Nat)) (up fld : Int) (ok : Bool) : Prop := match R with | some (u, i) => up = (u : Int) ∧ fld = (i : Int) ∧ ok = true | none => fld = 0 ∧ ok = false
theorem FnAt.c2 {g : Nat} {f label up fld : Int} {ok : Bool} (h : FnAt w g f label up fld ok) : w.cell? ⟨g, 2, none⟩ = some (.int .i64 up) := cell_of h rfl
theorem FnAt.c3 {g : Nat} {f label up fld : Int} {ok : Bool} (h : FnAt w g f label up fld ok) : w.cell? ⟨g, 3, none⟩ = some (.int .i64 fld) := cell_of h rfl
theorem FnAt.c4 {g : Nat} {f label up fld : Int} {ok : Bool} (h : FnAt w g f label up fld ok) : w.cell? ⟨g, 4, none⟩ = some (.bool ok) := cell_of h rfl
theorem FnAt.f {g : Nat} {f label up fld : Int} {ok : Bool} (h : FnAt w g f label up fld ok) (i : Nat) : w.frozen? ⟨g, i, none⟩ = false := free_of h
theorem FnAt.up' {g : Nat} {f label up fld : Int} {ok : Bool} (h : FnAt w g f label up fld ok) (z : Int) : FnAt (w.setCell ⟨g, 2, none⟩ (.int .i64 z)) g f label z fld ok := by
  unfold FnAt at h ⊢; rw [blk_set, if_pos rfl, h]; rfl
theorem FnAt.two {g : Nat} {f label up fld : Int} {ok : Bool} (h : FnAt w g f label up fld ok) (z : Int) (b : Bool) : FnAt ((w.setCell ⟨g, 3, none⟩ (.int .i64 z)).setCell ⟨g, 4, none⟩ (.bool b)) g f label up z b := by
  unfold FnAt at h ⊢; rw [blk_set, if_pos rfl, blk_set, if_pos rfl, h]; rfl
set_option maxRecDepth 100000 in
set_option maxHeartbeats 2000000 in
theorem ksearch_c (h : St w0 w c A top last) (label : Int) (hlab : W64 label) (fuel : Nat) (R : Option (Nat × Nat)) (hR : srF A c.m label fuel top 0 = some R) (hok : srOk A c.m fuel top = true) (hfu : fuel ≤ 1000) :
    Calls Try.prog 138 #[.pointer (some ⟨c.kb, 0, none⟩), .int .u64 label] w (SrDone w0 w c A top last label R) := by
  have CT : Hid (∀ w1, St w w1 c A top last → _) := Lib.hid (fun w1 h1 => ktop_c h1)
  have ht := Lib.hid h.tw
  have hs0 := h.base
  have H0 := Lib.hid h
  have hga : Hid (w.heap.size ∉ c.all) := Lib.hid (fun hm => by have := h.all_lt _ hm; omega)
  have h1 : Hid (St w (w.alloc (.cells #[.int .u64 top, .int .u64 label, .int .i64 0, .int .i64 0, .bool false] 193)) c A top last) := Lib.hid (hs0.alloc _)
  have b1 : Hid (FnAt (w.alloc (.cells #[.int .u64 top, .int .u64 label, .int .i64 0, .int .i64 0, .bool false] 193)) w.heap.size top label ((0 : Nat) : Int) 0 false) := Lib.hid (by unfold FnAt; rw [blk_alloc, if_pos rfl]; rfl)
  have HR : Hid (srF A c.m label fuel top 0 = some R ∧ srOk A c.m fuel top = true) := Lib.hid ⟨hR, hok⟩
  have D : Hid (∀ w2 up fld ok, St w w2 c A top last → FnAt w2 w.heap.size top label up fld ok → SrM R up fld ok → SrDone w0 w c A top last label R (.returned (.pointer (some ⟨w.heap.size, 0, none⟩))) w2) := Lib.hid (fun w2 up fld ok hS hB hm => by
    refine ⟨rfl, H0.out.join hS, ?_⟩
    unfold SrM at hm
    cases R with
    | none => obtain ⟨rfl, rfl⟩ := hm; exact ⟨up, hB⟩
    | some x => obtain ⟨u, i⟩ := x; obtain ⟨rfl, rfl, rfl⟩ := hm; exact hB)
  have KP : Hid (∀ wa wb up fld ok, St wa wb c A top last → FnAt wa w.heap.size top label up fld ok → FnAt wb w.heap.size top label up fld ok) := Lib.hid (fun wa wb up fld ok hS hB => hS.fr.at hB (fun hm => hga.out (own_all hm)))
  clear h hR hok
  obtain ⟨gb, hgb⟩ : ∃ gb, gb = w.heap.size := ⟨_, rfl⟩
  have HGB := Lib.hid hgb
  go_enter Try.func138, Try.ntmps138
  go_wp2_with (go_at_call 103; refine (CT.out _ (by first | exact hs0 | exact h1.out)).mono ?_; rintro e w' ⟨rfl, rfl⟩)
  rw [← hgb] at b1 D KP hga ⊢
  clear hgb CT hs0
  go_loopg [6] fuel (fun j s6 wr => ∃ (f : Int) (n : Nat), s6 = .int .u64 f ∧ Hid (W64 f) ∧ Hid (srF A c.m label j f n = some R ∧ srOk A c.m j f = true ∧ n + j ≤ 1000) ∧ Hid (St w wr c A top last) ∧ Hid (FnAt wr gb top label (n : Int) 0 false))
  case atStart => exact ⟨top, 0, rfl, ht, Lib.hid ⟨HR.out.1, HR.out.2, by omega⟩, h1, b1⟩
  case round =>
    obtain ⟨f, n, rfl, hf, hE, hS, hB⟩ := hrel
    clear HR h1 b1
    obtain ⟨j, hj⟩ : ∃ j, gk = j + 1 := by
      cases gk with
      | zero => have := hE.out.1; simp [srF] at this
      | succ j => exact ⟨j, rfl⟩
    have HJ := Lib.hid hj
    obtain ⟨E, O, hn⟩ := hE.out
    rw [hj] at E O
    have hn1 : n ≤ 1000 := by omega
    have hnj : Hid (n + 1 + j ≤ 1000) := Lib.hid (by omega)
    unfold srF at E
    unfold srOk at O
    have CK := Lib.hid (kind_c f wr hf.out.1 hf.out.2)
    have G2 := Lib.hid (hS.out.gw f 0)
    have OT : Hid (∀ wa wb, St w wa c A top last → Fr [gb] wa wb → St w wb c A top last) := Lib.hid (fun wa wb ha hF => ha.other gb (by rw [HGB.out]; exact Nat.le_refl _) hga.out hF)
    have BS : Hid (∀ wa wb up fld ok, FnAt wa gb top label up fld ok → Fr c.own wa wb → FnAt wb gb top label up fld ok) := Lib.hid (fun wa wb up fld ok hb hF => hF.at hb (fun hm => hga.out (own_all hm)))
    have CH := Lib.hid (khandler_c hS.out.base f hf.out)
    clear hj hE hn hga KP
    by_cases hp : f % 8 = 1
    · have hpb : (f % 8 == 1) = true := by simpa using hp
      rw [if_pos hp] at E O
      simp only [Bool.and_eq_true, decide_eq_true_eq] at O
      cases hh : hasF A c.m f with
      | false =>
        rw [hh] at CH
        rw [hh, if_neg Bool.false_ne_true] at E
        have E2 : Hid (srF A c.m label j (gtF A c.m f 0) (n + 1) = some R ∧ srOk A c.m j (gtF A c.m f 0) = true ∧ n + 1 + j ≤ 1000) := Lib.hid ⟨E, O.2, hnj.out⟩
        clear E O hp hh
        go_wp2_with fail
        refine CK.out.mono ?_
        rintro e w' ⟨rfl, rfl⟩
        go_wp2_with fail
        refine CH.out.mono ?_
        rintro e w2 ⟨rfl, h2⟩
        have h2j := Lib.hid (hS.out.join h2)
        have hB2 := Lib.hid (BS.out _ _ _ _ _ hB.out h2.fr)
        clear h2 CK CH hS hB
        have x2 := hB2.out.c2
        have xf := hB2.out.f 2
        have B3 := Lib.hid (hB2.out.up' ((n : Int) + 1))
        have h3 := Lib.hid (OT.out _ _ h2j.out ((Fr.refl [gb] w2).setCell (b := gb) (i := 2) (by simp) (.int .i64 ((n : Int) + 1))))
        go_wp2_with fail
        refine (kget_c h3.out.base f 0 hf.out (I64.of (by omega))).mono ?_
        rintro e w4 ⟨rfl, h4⟩
        have h4j := Lib.hid (h3.out.join h4)
        have B4 : Hid (FnAt w4 gb top label ((n + 1 : Nat) : Int) 0 false) := Lib.hid (by have := BS.out _ _ _ _ _ B3.out h4.fr; rwa [show ((n + 1 : Nat) : Int) = (n : Int) + 1 by omega])
        go_wp2_with fail
        go_roundg j
        case measure => have := HJ.out; omega
        case rel => exact ⟨_, n + 1, rfl, G2, E2, h4j, B4⟩
      | true =>
        rw [hh] at CH
        rw [hh, if_pos rfl] at E
        have CHL : Hid (∀ wa, St w wa c A top last → _) := Lib.hid (fun wa ha => khandles_c ha.base (gtF A c.m f 3) label (ha.gw _ _) hlab 200 (by have := O.1; omega) (by omega))
        cases hx : hdF A c.m (gtF A c.m f 3) label 200 0 with
        | some i =>
          rw [hx] at CHL E
          simp only [hlVal] at CHL
          have hm : Hid (SrM R (n : Int) (i : Int) true) := Lib.hid (by simp at E; rw [← E]; exact ⟨rfl, rfl, rfl⟩)
          clear E O hp hh hx
          go_wp2_with fail
          refine CK.out.mono ?_
          rintro e w' ⟨rfl, rfl⟩
          go_wp2_with fail
          refine CH.out.mono ?_
          rintro e w2 ⟨rfl, h2⟩
          have h2j := Lib.hid (hS.out.join h2)
          have hB2 := Lib.hid (BS.out _ _ _ _ _ hB.out h2.fr)
          clear h2 CK CH hS hB
          go_wp2_with fail
          refine (CHL.out _ h2j.out).mono ?_
          rintro e w3 ⟨rfl, h3⟩
          have h3j := Lib.hid (h2j.out.join h3)
          have hB3 := Lib.hid (BS.out _ _ _ _ _ hB2.out h3.fr)
          have x3 := hB3.out.c3
          have x4 := hB3.out.c4
          have xf3 := hB3.out.f 3
          have xf4 := hB3.out.f 4
          have B4 := Lib.hid (hB3.out.two (i : Int) true)
          have h4 := Lib.hid (OT.out _ _ h3j.out (((Fr.refl [gb] w3).setCell (b := gb) (i := 3) (by simp) (.int .i64 (i : Int))).setCell (b := gb) (i := 4) (by simp) (.bool true)))
          have y4 := B4.out.c4
          clear h3 h2j hB2
          go_wp2
          go_ret
          exact D.out _ _ _ _ h4.out B4.out hm.out
        | none =>
          rw [hx] at CHL E
          simp only [hlVal] at CHL
          have E2 : Hid (srF A c.m label j (gtF A c.m f 0) (n + 1) = some R ∧ srOk A c.m j (gtF A c.m f 0) = true ∧ n + 1 + j ≤ 1000) := Lib.hid ⟨E, O.2, hnj.out⟩
          clear E O hp hh hx
          go_wp2_with fail
          refine CK.out.mono ?_
          rintro e w' ⟨rfl, rfl⟩
          go_wp2_with fail
          refine CH.out.mono ?_
          rintro e w2 ⟨rfl, h2⟩
          have h2j := Lib.hid (hS.out.join h2)
          have hB2 := Lib.hid (BS.out _ _ _ _ _ hB.out h2.fr)
          clear h2 CK CH hS hB
          go_wp2_with fail
          refine (CHL.out _ h2j.out).mono ?_
          rintro e w3 ⟨rfl, h3⟩
          have h3j := Lib.hid (h2j.out.join h3)
          have hB3 := Lib.hid (BS.out _ _ _ _ _ hB2.out h3.fr)
          have x3 := hB3.out.c3
          have x4 := hB3.out.c4
          have xf3 := hB3.out.f 3
          have xf4 := hB3.out.f 4
          have B5 := Lib.hid (hB3.out.two 0 false)
          have h5 := Lib.hid (OT.out _ _ h3j.out (((Fr.refl [gb] w3).setCell (b := gb) (i := 3) (by simp) (.int .i64 0)).setCell (b := gb) (i := 4) (by simp) (.bool false)))
          have y4 := B5.out.c4
          have y2 := B5.out.c2
          have yf := B5.out.f 2
          have B6 := Lib.hid (B5.out.up' ((n : Int) + 1))
          have h6 := Lib.hid (OT.out _ _ h5.out ((Fr.refl [gb] _).setCell (b := gb) (i := 2) (by simp) (.int .i64 ((n : Int) + 1))))
          clear h3 h2j hB2
          go_wp2_with fail
          refine (kget_c h6.out.base f 0 hf.out (I64.of (by omega))).mono ?_
          rintro e w4 ⟨rfl, h4⟩
          have h4j := Lib.hid (h6.out.join h4)
          have B4 : Hid (FnAt w4 gb top label ((n + 1 : Nat) : Int) 0 false) := Lib.hid (by have := BS.out _ _ _ _ _ B6.out h4.fr; rwa [show ((n + 1 : Nat) : Int) = (n : Int) + 1 by omega])
          go_wp2_with fail
          go_roundg j
          case measure => have := HJ.out; omega
          case rel => exact ⟨_, n + 1, rfl, G2, E2, h4j, B4⟩
    · have hpb : (f % 8 == 1) = false := by simpa using hp
      rw [if_neg hp] at E
      have hm : Hid (SrM R (n : Int) 0 false) := Lib.hid (by simp at E; rw [← E]; exact ⟨rfl, rfl⟩)
      clear E O hp
      go_wp2_with fail
      refine CK.out.mono ?_
      rintro e w' ⟨rfl, rfl⟩
      go_wp2
      go_ret
      exact D.out _ _ _ _ hS.out hB.out hm.out
end Go.Proofs.Ytjgndfhfiekomaa
