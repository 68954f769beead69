/- Fibers: objects, fibers, segments; where the topmost frame is. -/
import Derived.Test.YtjgndfhfiekomaaFibC
import Derived.Deep.RegionHeld3
namespace Go.Proofs.Ytjgndfhfiekomaa
open Go.ChangeShapes Go.WideShapes Go.RowKit
variable {w0 w w1 w' : World} {c : Sk} {A A' : Ar} {top : Int} {last : Value}
theorem vobject_c (h : St w0 w c A top last) (kind : Int) (hk : kind < 16) (ws : List Int) (hws : ∀ x, x ∈ ws → W64 x) (a : Option Addr) (n cap : Nat) (hf : FdAt w c a ws) (hn : ws.length = n) (hns : n ≤ 1000) :
    Calls Try.prog 106 #[.pointer (some ⟨c.sb, 0, none⟩), .int .i64 kind, .slice a n cap] w fun e w' => e = .returned (wordVal (objF A c.m kind ws).2) ∧ St w0 w' c (objF A c.m kind ws).1 top last := by
  have CR := Lib.hid (vraw_c h kind ws hws a n cap hf hn hns)
  have RW : Hid (∀ w, Calls Try.prog 71 #[.int .i64 kind] w fun e w' => e = .returned (.bool false) ∧ w = w') := Lib.hid (fun w => by
    have := raw_c w kind
    rwa [decide_eq_false (by omega)] at this)
  clear h hws hf hn
  obtain ⟨r, hr⟩ : ∃ r, r = objF A c.m kind ws := ⟨_, rfl⟩
  rw [← hr] at CR ⊢
  obtain ⟨A1, o⟩ := r
  clear hr
  cases o with
  | none =>
    go_enter Try.func106, Try.ntmps106
    go_wp2_with fail
    refine (RW.out _).mono ?_
    rintro e w' ⟨rfl, rfl⟩
    go_wp2_with fail
    refine CR.out.mono ?_
    rintro e w1 ⟨rfl, h1⟩
    simp only [wordVal]
    go_wp2
    go_ret2
    exact ⟨rfl, h1⟩
  | some x =>
    go_enter Try.func106, Try.ntmps106
    go_wp2_with fail
    refine (RW.out _).mono ?_
    rintro e w' ⟨rfl, rfl⟩
    go_wp2_with fail
    refine CR.out.mono ?_
    rintro e w1 ⟨rfl, h1⟩
    simp only [wordVal]
    go_wp2
    go_ret2
    exact ⟨rfl, h1⟩
theorem wordVal_tuple (o : Option Int) : ∃ x b, wordVal o = .tuple #[.int .u64 x, .bool b] := by
  cases o with
  | none => exact ⟨_, _, rfl⟩
  | some x => exact ⟨_, _, rfl⟩
/-- A fiber without frames. -/
def fibF (A : Ar) (m : Nat) (below handler : Int) : Ar × Option Int := objF A m 7 [below, 45, smW (-1), handler]
theorem sk_lt (h : St w0 w c A top last) {x : Nat} (hx : x ∈ c.own) : x < w.heap.size := by
  unfold Sk.own at hx
  simp only [List.mem_cons, List.not_mem_nil, or_false] at hx
  rcases hx with rfl | rfl | rfl | rfl | rfl
  · exact lt_size h.a.k
  · exact lt_size h.a.r
  · exact lt_size h.a.h.ar.hb
  · exact lt_size h.a.h.ar.hw
  · exact lt_size h.a.h.ar.hl
/-- A row of words that the call has just made. -/
theorem fd_new (h : St w0 w c A top last) (ws : List Int) (t : TypeId) (w2 : World) (h2 : blk w2 w.heap.size = some (.cells (ws.map (Value.int .u64)).toArray t (0, 0))) : FdAt w2 c (some ⟨w.heap.size, 0, none⟩) ws :=
  .inr ⟨w.heap.size, 0, rfl, lt_size h2, fun hx => by have := sk_lt h hx; omega, fun i hi => by
    rw [Nat.zero_add]
    exact cell_of h2 (by simp [hi])⟩
set_option maxRecDepth 100000 in
theorem kfiber_c (h : St w0 w c A top last) (below handler : Int) (hb : W64 below) (hh : W64 handler) : Calls Try.prog 97 #[.pointer (some ⟨c.kb, 0, none⟩), .int .u64 below, .int .u64 handler] w fun e w' => e = .returned (wordVal (fibF A c.m below handler).2) ∧ St w0 w' c (fibF A c.m below handler).1 top last := by
  have k0 := h.k0
  have CO : Hid (∀ w2, w2 = (w.alloc (.cells #[.int .u64 below, .int .u64 45, .int .u64 (smW (-1)), .int .u64 handler] 37)).drew → Calls Try.prog 106 #[.pointer (some ⟨c.sb, 0, none⟩), .int .i64 7, .slice (some ⟨w.heap.size, 0, none⟩) 4 4] w2 fun e w' => e = .returned (wordVal (fibF A c.m below handler).2) ∧ St w0 w' c (fibF A c.m below handler).1 top last) := Lib.hid (fun w2 e => by
    have h2 : St w0 w2 c A top last := by rw [e]; exact (h.alloc _).drew
    exact vobject_c h2 7 (by omega) [below, 45, smW (-1), handler] (by
      intro x hx
      simp at hx
      rcases hx with rfl | rfl | rfl | rfl
      · exact hb
      · exact w64_45
      · exact smW_w _
      · exact hh) _ 4 4 (fd_new h _ 37 w2 (by rw [e, blk_drew, blk_alloc, if_pos rfl]; rfl)) rfl (by omega))
  have SM := fun w => small_c (-1) w (by omega) (by omega)
  have SM := Lib.hid SM
  have HK := Lib.hid h.a.k
  clear h hb hh
  obtain ⟨r, hr⟩ : ∃ r, r = fibF A c.m below handler := ⟨_, rfl⟩
  rw [← hr] at CO ⊢
  obtain ⟨A1, o⟩ := r
  clear hr
  generalize smW (-1) = sm at *
  have WV : Hid (∃ x b, wordVal o = .tuple #[.int .u64 x, .bool b]) := Lib.hid (wordVal_tuple o)
  obtain ⟨x, b, hxb⟩ := WV.out
  simp only [hxb] at CO ⊢
  clear WV hxb
  have KEEP : Hid (∀ w_, Fr [] w w_ → w_.cell? ⟨c.kb, 0, none⟩ = some (.pointer (some ⟨c.sb, 0, none⟩))) := Lib.hid (fun w_ hF => cell_of (hF.at HK.out (by simp)) rfl)
  go_enter Try.func97, Try.ntmps97
  go_wp2
  go_region_held3 (fun w_ => w_.cell? ⟨c.kb, 0, none⟩ = some (.pointer (some ⟨c.sb, 0, none⟩))) (with_reducible first | exact h1.k0 | exact KEEP.out _ (Fr.refl [] _).drew | exact KEEP.out _ ((Fr.refl [] _).alloc _).drew | exact KEEP.out _ (Fr.refl [] _)) (first | (go_at_call 98; refine Calls.mono (nothing_c _) ?_; rintro e w' ⟨rfl, rfl⟩) | (go_at_call 101; refine Calls.mono (SM.out _) ?_; rintro e w' ⟨rfl, rfl⟩) | (go_at_call 106; refine Calls.mono (CO.out _ rfl) ?_; rintro e w1 ⟨rfl, h1⟩))
  all_goals
    go_wp2
    go_ret2
    exact ⟨rfl, h1⟩
/-- A segment with room for so many words. -/
def segF (A : Ar) (m : Nat) (prev room : Int) : Ar × Option Int :=
  match (makeF A m 15 (2 + room)).2 with
  | none => ((makeF A m 15 (2 + room)).1, none)
  | some x => (stF (stF (makeF A m 15 (2 + room)).1 m x 0 prev) m x 1 (smW 0), some x)
theorem ksegment_c (h : St w0 w c A top last) (prev room : Int) (hp : W64 prev) (r0 : 0 ≤ room) (r1 : room ≤ 1000000) : Calls Try.prog 140 #[.pointer (some ⟨c.kb, 0, none⟩), .int .u64 prev, .int .i64 room] w fun e w' => e = .returned (wordVal (segF A c.m prev room).2) ∧ St w0 w' c (segF A c.m prev room).1 top last := by
  have k0 := h.k0
  have CV := Lib.hid (vheap_c h)
  have CM := Lib.hid (omake_s h 15 (2 + room))
  have WX := Lib.hid (makeF_wd h.a.wd c.m 15 (2 + room)).2
  have SG : Hid (segF A c.m prev room = match (makeF A c.m 15 (2 + room)).2 with | none => ((makeF A c.m 15 (2 + room)).1, none) | some x => (stF (stF (makeF A c.m 15 (2 + room)).1 c.m x 0 prev) c.m x 1 (smW 0), some x)) := Lib.hid rfl
  cases ho : (makeF A c.m 15 (2 + room)).2 with
  | none =>
    rw [ho] at CM SG
    rw [SG.out]
    clear ho SG WX h
    go_enter Try.func140, Try.ntmps140
    go_wp2_with fail
    refine CV.out.mono ?_
    rintro e w' ⟨rfl, rfl⟩
    go_wp2_with fail
    refine CM.out.mono ?_
    rintro e w1 ⟨rfl, h1⟩
    simp only [wordVal]
    go_wp2
    go_ret2
    exact ⟨rfl, h1⟩
  | some x =>
    rw [ho] at CM SG
    rw [SG.out]
    have hx := WX.out x ho
    clear ho SG WX h
    generalize (makeF A c.m 15 (2 + room)).1 = A1 at *
    go_enter Try.func140, Try.ntmps140
    go_wp2_with fail
    refine CV.out.mono ?_
    rintro e w' ⟨rfl, rfl⟩
    go_wp2_with fail
    refine CM.out.mono ?_
    rintro e w1 ⟨rfl, h1⟩
    simp only [wordVal]
    go_wp2_with (first | (go_at_call 104; refine (kset_c (by assumption) _ _ _ (by first | assumption | exact St.gw (by assumption) _ _ | exact St.tw (by assumption) | exact w64_45 | exact w64_0 | exact smW_w _) (by first | exact I64.of (by omega) | assumption) (by first | assumption | exact St.gw (by assumption) _ _ | exact St.tw (by assumption) | exact w64_45 | exact w64_0 | exact smW_w _)).mono ?_; rintro e w' ⟨rfl, _⟩) | (go_at_call 101; refine (small_c _ _ (by omega) (by omega)).mono ?_; rintro e w' ⟨rfl, rfl⟩))
    go_ret2
    exact ⟨rfl, by assumption⟩
/-! ### Numbers of segments -/
theorem kused_c (h : St w0 w c A top last) (x : Int) (hx : W64 x) : Calls Try.prog 100 #[.pointer (some ⟨c.kb, 0, none⟩), .int .u64 x] w fun e w' => e = .returned (.int .i64 (nmF A c.m x 1)) ∧ St w0 w' c A top last := by
  go_enter Try.func100, Try.ntmps100
  go_wp2_with (first | (go_at_call 109; refine (knum_c (by assumption) _ _ (by first | assumption | exact St.gw (by assumption) _ _ | exact St.tw (by assumption) | exact w64_45 | exact w64_0 | exact smW_w _) (by first | exact I64.of (by omega) | assumption)).mono ?_; rintro e w' ⟨rfl, _⟩))
  go_ret
  exact ⟨rfl, by assumption⟩
/-- How many words a segment has room for; 0: it is none. -/
def rmF (A : Ar) (m : Nat) (x : Int) : Int := max 0 (szF A m x - 2)
theorem kroom_c (h : St w0 w c A top last) (x : Int) (hx : W64 x) : Calls Try.prog 139 #[.pointer (some ⟨c.kb, 0, none⟩), .int .u64 x] w fun e w' => e = .returned (.int .i64 (rmF A c.m x)) ∧ St w0 w' c A top last := by
  have k0 := h.k0
  have CV := Lib.hid (vheap_c h)
  have CZ := Lib.hid (osize_s h x hx)
  obtain ⟨b1, b2⟩ := szF_b h.a.wd (m := c.m) hx
  unfold rmF
  generalize szF A c.m x = z at *
  clear h hx
  by_cases hz : z - 2 ≤ 0
  · have e1 : max 0 (z - 2) = 0 := by omega
    rw [e1]
    go_enter Try.func139, Try.ntmps139
    go_wp2_with fail
    refine CV.out.mono ?_
    rintro e w' ⟨rfl, rfl⟩
    go_wp2_with fail
    refine CZ.out.mono ?_
    rintro e w1 ⟨rfl, h1⟩
    go_wp2
    go_ret
    exact ⟨ret_int (by omega), h1⟩
  · have e1 : max 0 (z - 2) = z - 2 := by omega
    rw [e1]
    go_enter Try.func139, Try.ntmps139
    go_wp2_with fail
    refine CV.out.mono ?_
    rintro e w' ⟨rfl, rfl⟩
    go_wp2_with fail
    refine CZ.out.mono ?_
    rintro e w1 ⟨rfl, h1⟩
    go_wp2
    go_ret
    exact ⟨ret_int (by omega), h1⟩
theorem kat_c (h : St w0 w c A top last) : Calls Try.prog 108 #[.pointer (some ⟨c.kb, 0, none⟩)] w fun e w' => e = .returned (.tuple #[.int .u64 (gtF A c.m top 1), .int .i64 (2 + nmF A c.m top 2), .bool (nmF A c.m top 2 != -1)]) ∧ St w0 w' c A top last := by
  have hb := wVal_b (h.gw top 2)
  have e1 : IntKind.i64.wrap (2 + nmF A c.m top 2) = 2 + nmF A c.m top 2 := IntWalk.i64_in _ (by unfold nmF; omega)
  clear hb
  go_enter Try.func108, Try.ntmps108
  go_wp2_with (first | (go_at_call 103; refine (ktop_c (by assumption)).mono ?_; rintro e w' ⟨rfl, rfl⟩) | (go_at_call 102; refine (kget_c (by assumption) _ _ (by first | assumption | exact St.gw (by assumption) _ _ | exact St.tw (by assumption) | exact w64_45 | exact w64_0 | exact smW_w _) (by first | exact I64.of (by omega) | assumption)).mono ?_; rintro e w' ⟨rfl, _⟩) | (go_at_call 109; refine (knum_c (by assumption) _ _ (by first | assumption | exact St.gw (by assumption) _ _ | exact St.tw (by assumption) | exact w64_45 | exact w64_0 | exact smW_w _) (by first | exact I64.of (by omega) | assumption)).mono ?_; rintro e w' ⟨rfl, _⟩))
  go_ret3
  exact ⟨rfl, by assumption⟩
end Go.Proofs.Ytjgndfhfiekomaa
