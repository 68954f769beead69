/- Fibers: one once more, taken off, resumptions once more. -/
import Derived.Test.YtjgndfhfiekomaaFibL
namespace Go.Proofs.Ytjgndfhfiekomaa
open Go.ChangeShapes Go.WideShapes Go.RowKit
variable {w0 w w1 w' : World} {c : Sk} {A A' : Ar} {top : Int} {last : Value}
/-- A fiber once more. -/
def againF (A : Ar) (m n : Nat) (f : Int) : Ar × Option Int :=
  match (segsF A m n (gtF A m f 1)).2 with
  | none => ((segsF A m n (gtF A m f 1)).1, none)
  | some sg => objF (segsF A m n (gtF A m f 1)).1 m 7 [45, sg, gtF (segsF A m n (gtF A m f 1)).1 m f 2, gtF (segsF A m n (gtF A m f 1)).1 m f 3]
/-- An object of four fields that have just been laid in a row. -/
theorem vobj4_c (kind a b d e : Int) (hk : kind < 16) (ha : W64 a) (hb : W64 b) (hd : W64 d) (he : W64 e) (h : St w0 w c A top last) : Calls Try.prog 106 #[.pointer (some ⟨c.sb, 0, none⟩), .int .i64 kind, .slice (some ⟨w.heap.size, 0, none⟩) 4 4] (w.alloc (.cells #[.int .u64 a, .int .u64 b, .int .u64 d, .int .u64 e] 37)) fun e' w' => e' = .returned (wordVal (objF A c.m kind [a, b, d, e]).2) ∧ St w0 w' c (objF A c.m kind [a, b, d, e]).1 top last :=
  vobject_c (h.alloc _) kind hk [a, b, d, e] (by
    intro x hx
    simp at hx
    rcases hx with rfl | rfl | rfl | rfl <;> assumption) _ 4 4 (fd_new h _ 37 _ (by rw [blk_alloc, if_pos rfl]; rfl)) rfl (by omega)
theorem vobj3_c (kind a b d : Int) (hk : kind < 16) (ha : W64 a) (hb : W64 b) (hd : W64 d) (h : St w0 w c A top last) : Calls Try.prog 106 #[.pointer (some ⟨c.sb, 0, none⟩), .int .i64 kind, .slice (some ⟨w.heap.size, 0, none⟩) 3 3] (w.alloc (.cells #[.int .u64 a, .int .u64 b, .int .u64 d] 37)).drew fun e' w' => e' = .returned (wordVal (objF A c.m kind [a, b, d]).2) ∧ St w0 w' c (objF A c.m kind [a, b, d]).1 top last :=
  vobject_c (h.alloc _).drew kind hk [a, b, d] (by
    intro x hx
    simp at hx
    rcases hx with rfl | rfl | rfl <;> assumption) _ 3 3 (fd_new h _ 37 _ (by rw [blk_drew, blk_alloc, if_pos rfl]; rfl)) rfl (by omega)
set_option maxHeartbeats 1000000 in
theorem kagain_c (n : Nat) (h : St w0 w c A top last) (f : Int) (hf : W64 f) (hok : SgOk A c.m n (gtF A c.m f 1)) (hW : ∀ x, (segsF A c.m n (gtF A c.m f 1)).2 = some x → W64 x) : Calls Try.prog 114 #[.pointer (some ⟨c.kb, 0, none⟩), .int .u64 f] w fun e w' => e = .returned (wordVal (againF A c.m n f).2) ∧ St w0 w' c (againF A c.m n f).1 top last := by
  have CG := Lib.hid (kget_c h f 1 hf (I64.of (by omega)))
  have CS := Lib.hid (fun w1 (h1 : St w0 w1 c A top last) => ksegs_c n w1 (gtF A c.m f 1) h1 (h.gw _ _) hok)
  unfold againF
  cases ho : (segsF A c.m n (gtF A c.m f 1)).2 with
  | none =>
    rw [ho] at CS
    simp only [wordVal] at CS ⊢
    clear ho hW hok h
    go_enter Try.func114, Try.ntmps114
    go_wp2_with fail
    refine CG.out.mono ?_
    rintro e w1 ⟨rfl, h1⟩
    have h1 := Lib.hid h1
    go_wp2_with fail
    refine (CS.out _ h1.out).mono ?_
    rintro e w2 ⟨rfl, h2⟩
    go_wp2
    go_ret2
    exact ⟨rfl, h2⟩
  | some sg =>
    rw [ho] at CS
    simp only [wordVal] at CS
    simp only
    have hsg := hW sg ho
    have hf0 := hf
    clear ho hW hok h
    generalize (segsF A c.m n (gtF A c.m f 1)).1 = A1 at *
    have CO : Hid (∀ w1, St w0 w1 c A1 top last → _) := Lib.hid (fun w1 h1 => vobj4_c 7 45 sg (gtF A1 c.m f 2) (gtF A1 c.m f 3) (by omega) w64_45 hsg (h1.gw _ _) (h1.gw _ _) h1)
    obtain ⟨x, b, hxb⟩ := wordVal_tuple (objF A1 c.m 7 [45, sg, gtF A1 c.m f 2, gtF A1 c.m f 3]).2
    rw [hxb] at CO ⊢
    clear hxb
    go_enter Try.func114, Try.ntmps114
    go_wp2_with fail
    refine CG.out.mono ?_
    rintro e w1 ⟨rfl, h1⟩
    have h1 := Lib.hid h1
    go_wp2_with fail
    refine (CS.out _ h1.out).mono ?_
    rintro e w2 ⟨rfl, h2⟩
    have h2d := h2.drew
    have k0 := h2.k0
    clear CG CS h1
    go_wp2
    go_region_held3 (fun w_ => w_.cell? ⟨c.kb, 0, none⟩ = some (.pointer (some ⟨c.sb, 0, none⟩))) (with_reducible first | exact St.k0 (by assumption) | exact St.k0 (St.drew (by assumption)) | exact St.k0 (St.alloc (by assumption) _) | exact St.k0 (St.drew (St.alloc (by assumption) _))) (first | (go_at_call 98; refine Calls.mono (nothing_c _) ?_; rintro e w' ⟨rfl, rfl⟩) | (go_at_call 102; refine Calls.mono (kget_c (by assumption) _ _ (by first | assumption | exact St.gw (by assumption) _ _ | exact St.tw (by assumption) | exact w64_45 | exact w64_0 | exact smW_w _) (by first | exact I64.of (by omega) | assumption)) ?_; rintro e w' ⟨rfl, _⟩) | (go_at_call 106; refine Calls.mono (CO.out _ (by assumption)) ?_; rintro e w9 ⟨rfl, h9⟩))
    all_goals
      go_wp2
      go_ret2
      exact ⟨rfl, h9⟩
/-! ### Taken off -/
theorem kcapture_no (h : St w0 w c A top last) (up : Nat) (hup : up ≤ 16777215) (hn : ∀ f, dnF A c.m up top = some f → lowF A c.m f = true) : Calls Try.prog 51 #[.pointer (some ⟨c.kb, 0, none⟩), .int .i64 (up : Int)] w fun e w' => e = .returned (.tuple #[.int .u64 45, .bool false]) ∧ St w0 w' c A top last := by
  have CD : Hid (∀ w1, St w0 w1 c A top last → ∃ x, Calls Try.prog 110 #[.pointer (some ⟨c.kb, 0, none⟩), .int .i64 (up : Int)] w1 fun e w' => e = .returned (.tuple #[.int .u64 x, .bool false]) ∧ St w0 w' c A top last) := Lib.hid (fun w1 h1 => by
    have := kdown_c h1 up (by omega)
    cases ho : dnF A c.m up top with
    | none => rw [ho] at this; exact ⟨0, this⟩
    | some f => rw [ho] at this; simp only [dnVal, hn f ho] at this; exact ⟨f, this⟩)
  obtain ⟨x, CX⟩ := CD.out w h
  have CX := Lib.hid CX
  clear CD h hn
  go_enter Try.func51, Try.ntmps51
  go_wp2_with (first | (go_at_call 110; refine CX.out.mono ?_; rintro e w' ⟨rfl, _⟩) | (go_at_call 98; refine (nothing_c _).mono ?_; rintro e w' ⟨rfl, rfl⟩))
  go_ret2
  exact ⟨rfl, by assumption⟩
/-- Fibers are taken off down to one whose handler stays. -/
def capF (A : Ar) (m : Nat) (top low r : Int) : Ar := stF (objF A m 6 [smW 0, top, low]).1 m low 0 45
set_option maxHeartbeats 1000000 in
theorem kcapture_deep (h : St w0 w c A top last) (up : Nat) (hup : up ≤ 16777215) (low r : Int) (hlw : W64 low) (hrw : W64 r) (hd : dnF A c.m up top = some low) (hl : lowF A c.m low = false) (hr : (objF A c.m 6 [smW 0, top, low]).2 = some r) (hh : hasF (objF A c.m 6 [smW 0, top, low]).1 c.m low = true) (hdp : nmF (objF A c.m 6 [smW 0, top, low]).1 c.m (gtF (objF A c.m 6 [smW 0, top, low]).1 c.m low 3) 0 ≠ 0) :
    Calls Try.prog 51 #[.pointer (some ⟨c.kb, 0, none⟩), .int .i64 (up : Int)] w fun e w' => e = .returned (.tuple #[.int .u64 r, .bool true]) ∧ St w0 w' c (capF A c.m top low r) (gtF (objF A c.m 6 [smW 0, top, low]).1 c.m low 0) (.pointer none) := by
  have CD := Lib.hid (kdown_c h up (by omega))
  rw [hd] at CD
  simp only [dnVal, hl, Bool.not_false] at CD
  have CO : Hid (∀ w1, St w0 w1 c A top last → _) := Lib.hid (fun w1 h1 => vobj3_c 6 (smW 0) top low (by omega) (smW_w _) h1.tw hlw h1)
  rw [hr] at CO
  simp only [wordVal] at CO
  unfold capF
  clear hd hl hr h
  generalize (objF A c.m 6 [smW 0, top, low]).1 = A1 at *
  have hd2 : (nmF A1 c.m (gtF A1 c.m low 3) 0 == 0) = false := by simpa using hdp
  have SM : Hid (∀ w, _) := Lib.hid (fun w => small_c 0 w (by omega) (by omega))
  clear hdp
  go_enter Try.func51, Try.ntmps51
  go_wp2_with fail
  refine CD.out.mono ?_
  rintro e w1 ⟨rfl, h1⟩
  have h1d := h1.drew
  have k0 := h1.k0
  clear CD
  go_wp2
  go_region_held3 (fun w_ => w_.cell? ⟨c.kb, 0, none⟩ = some (.pointer (some ⟨c.sb, 0, none⟩))) (with_reducible first | exact St.k0 (by assumption) | exact St.k0 (St.drew (by assumption)) | exact St.k0 (St.alloc (by assumption) _) | exact St.k0 (St.drew (St.alloc (by assumption) _))) (first | (go_at_call 101; refine Calls.mono (SM.out _) ?_; rintro e w' ⟨rfl, rfl⟩) | (go_at_call 103; refine Calls.mono (ktop_c (by assumption)) ?_; rintro e w' ⟨rfl, rfl⟩) | (go_at_call 106; refine Calls.mono (CO.out _ (by assumption)) ?_; rintro e w9 ⟨rfl, h9⟩))
  all_goals
    clear h1 h1d k0
    go_wp2_with (first | (go_at_call 98; refine (nothing_c _).mono ?_; rintro e w' ⟨rfl, rfl⟩) | (go_at_call 103; refine (ktop_c (by assumption)).mono ?_; rintro e w' ⟨rfl, rfl⟩) | (go_at_call 102; refine (kget_c (by assumption) _ _ (by first | assumption | exact St.gw (by assumption) _ _ | exact St.tw (by assumption) | exact w64_45 | exact w64_0 | exact smW_w _) (by first | exact I64.of (by omega) | assumption)).mono ?_; rintro e w' ⟨rfl, _⟩) | (go_at_call 104; refine (kset_c (by assumption) _ _ _ (by first | assumption | exact St.gw (by assumption) _ _ | exact St.tw (by assumption) | exact w64_45 | exact w64_0 | exact smW_w _) (by first | exact I64.of (by omega) | assumption) (by first | assumption | exact St.gw (by assumption) _ _ | exact St.tw (by assumption) | exact w64_45 | exact w64_0 | exact smW_w _)).mono ?_; rintro e w' ⟨rfl, _⟩) | (go_at_call 101; refine (small_c _ _ (by omega) (by omega)).mono ?_; rintro e w' ⟨rfl, rfl⟩) | (go_at_call 107; refine (kturn_c (by assumption) _ (by first | assumption | exact St.gw (by assumption) _ _ | exact St.tw (by assumption) | exact w64_45 | exact w64_0 | exact smW_w _)).mono ?_; rintro e w' ⟨rfl, _⟩) | (go_at_call 111; refine (khandler_c (by assumption) _ (by first | assumption | exact St.gw (by assumption) _ _ | exact St.tw (by assumption) | exact w64_45 | exact w64_0 | exact smW_w _)).mono ?_; rintro e w' ⟨rfl, _⟩) | (go_at_call 112; refine (kempty_c (by assumption) _ (by first | assumption | exact St.gw (by assumption) _ _ | exact St.tw (by assumption) | exact w64_45 | exact w64_0 | exact smW_w _)).mono ?_; rintro e w' ⟨rfl, _⟩) | (go_at_call 115; refine (klowest_c (by assumption) _ (by first | assumption | exact St.gw (by assumption) _ _ | exact St.tw (by assumption) | exact w64_45 | exact w64_0 | exact smW_w _)).mono ?_; rintro e w' ⟨rfl, _⟩) | (go_at_call 109; refine (knum_c (by assumption) _ _ (by first | assumption | exact St.gw (by assumption) _ _ | exact St.tw (by assumption) | exact w64_45 | exact w64_0 | exact smW_w _) (by first | exact I64.of (by omega) | assumption)).mono ?_; rintro e w' ⟨rfl, _⟩))
    go_ret2
    exact ⟨rfl, by assumption⟩
end Go.Proofs.Ytjgndfhfiekomaa
