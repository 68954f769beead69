/- Fibers: frames pushed. -/
import Derived.Test.YtjgndfhfiekomaaFibI
namespace Go.Proofs.Ytjgndfhfiekomaa
open Go.ChangeShapes Go.WideShapes Go.RowKit
variable {w0 w w1 w' : World} {c : Sk} {A A' : Ar} {top : Int} {last : Value}
theorem w64_single (n : Int) : W64 (mkW 5 n) := mkW_bd 5 n (by omega) (by omega)
theorem idx_head (cl z g sl wd : Int) (k : Nat) (hk : k < 5) (w : World) : (Instr.index 156 (.agg #[.int .u64 cl, .int .u64 z, .int .u64 g, .int .u64 sl, .int .u64 wd]) (.int .i64 (k : Int))).run Try.prog w = .ok (.int .u64 ([cl, z, g, sl, wd][k]?.getD 0)) w := by
  rcases (by omega : k = 0 ∨ k = 1 ∨ k = 2 ∨ k = 3 ∨ k = 4) with rfl | rfl | rfl | rfl | rfl
  all_goals kernel_rfl
theorem headL_w (h : St w0 w c A top last) {cl sl wd : Int} (hc : W64 cl) (k : Nat) : W64 ((headL A c.m top cl sl wd)[k]?.getD 0) := by
  refine w64_nth (fun x hx => ?_) k
  unfold headL at hx
  simp at hx
  rcases hx with rfl | rfl | rfl | rfl | rfl
  · exact hc
  · exact smW_w _
  · exact h.gw _ _
  · exact smW_w _
  · exact smW_w _
set_option maxRecDepth 100000 in
set_option maxHeartbeats 1000000 in
theorem kpush_c (h : St w0 w c A top last) (cl sl wd : Int) (hc : W64 cl) (hg : ¬ (sl < 0 ∨ wd < 0 ∨ 180 < sl ∨ 180 - sl < wd)) (hU : rmF A c.m (gtF A c.m top 1) ≠ 0 → 0 ≤ nmF A c.m (gtF A c.m top 1) 1 ∧ nmF A c.m (gtF A c.m top 1) 1 ≤ 1000)
    (hB : ∀ seg, (placeF A c.m top (5 + sl + wd)).2 = some seg → W64 seg ∧ 0 ≤ nmF (placeF A c.m top (5 + sl + wd)).1 c.m seg 1 ∧ nmF (placeF A c.m top (5 + sl + wd)).1 c.m seg 1 ≤ 1000) :
    Calls Try.prog 47 #[.pointer (some ⟨c.kb, 0, none⟩), .int .u64 cl, .int .i64 sl, .int .i64 wd] w fun e w' => e = .returned (.bool (pushF A c.m top cl sl wd).2) ∧ St w0 w' c (pushF A c.m top cl sl wd).1 top last := by
  have q0 : ¬ sl < 0 := by omega
  have q1 : ¬ wd < 0 := by omega
  have q2 : ¬ 180 < sl := by omega
  have q3 : ¬ 180 - sl < wd := by omega
  have CP := Lib.hid (kplace_c h (5 + sl + wd) (by omega) (by omega) hU)
  unfold pushF
  rw [if_neg hg]
  clear hg hU
  cases ho : (placeF A c.m top (5 + sl + wd)).2 with
  | none =>
    rw [ho] at CP
    simp only [wordVal] at CP
    clear ho hB h
    go_enter Try.func47, Try.ntmps47
    go_wp2_with fail
    refine CP.out.mono ?_
    rintro e w1 ⟨rfl, h1⟩
    go_wp2
    go_ret
    exact ⟨rfl, h1⟩
  | some seg =>
    rw [ho] at CP
    simp only [wordVal] at CP
    obtain ⟨hsg, b0, b1⟩ := hB seg ho
    simp only
    have PS : Hid (pushS (placeF A c.m top (5 + sl + wd)).1 c.m top cl sl wd seg = pushS (placeF A c.m top (5 + sl + wd)).1 c.m top cl sl wd seg) := Lib.hid rfl
    clear ho hB h PS
    generalize (placeF A c.m top (5 + sl + wd)).1 = A1 at *
    obtain ⟨bs, hbs⟩ : ∃ bs, bs = nmF A1 c.m seg 1 := ⟨_, rfl⟩
    obtain ⟨hd, hhd⟩ : ∃ hd, hd = headL A1 c.m top cl sl wd := ⟨_, rfl⟩
    have PS : Hid (pushS A1 c.m top cl sl wd seg = stF (stF (stF (voidN (headN A1 c.m seg bs hd 5) c.m seg bs sl.toNat) c.m seg 1 (smW (bs + 5 + sl))) c.m top 1 seg) c.m top 2 (smW bs)) := Lib.hid (by unfold pushS; rw [← hbs, ← hhd])
    have CU : Hid (∀ w1, St w0 w1 c A1 top last → Calls Try.prog 100 #[.pointer (some ⟨c.kb, 0, none⟩), .int .u64 seg] w1 fun e w' => e = .returned (.int .i64 bs) ∧ St w0 w' c A1 top last) := Lib.hid (fun w1 h1 => by rw [hbs]; exact kused_c h1 seg hsg)
    have IX : Hid (∀ k : Nat, k < 5 → ∀ w, (Instr.index 156 (.agg #[.int .u64 cl, .int .u64 (smW 0), .int .u64 (gtF A1 c.m top 2), .int .u64 (smW sl), .int .u64 (smW wd)]) (.int .i64 (k : Int))).run Try.prog w = .ok (.int .u64 (hd[k]?.getD 0)) w) := Lib.hid (fun k hk w => by rw [hhd]; exact idx_head _ _ _ _ _ k hk w)
    have HW : Hid (∀ w1, St w0 w1 c A1 top last → ∀ k : Nat, W64 (hd[k]?.getD 0)) := Lib.hid (fun w1 h1 k => by rw [hhd]; exact headL_w h1 hc k)
    rw [PS.out]
    rw [← hbs] at b0 b1
    clear hbs hhd PS
    obtain ⟨s, rfl⟩ : ∃ s : Nat, sl = (s : Int) := ⟨sl.toNat, by omega⟩
    rw [Int.toNat_natCast]
    have hs180 : s ≤ 180 := by omega
    go_enter Try.func47, Try.ntmps47
    go_wp2_with fail
    refine CP.out.mono ?_
    rintro e w1 ⟨rfl, h1⟩
    go_wp2_with fail
    refine (CU.out _ h1).mono ?_
    rintro e w2 ⟨rfl, h2⟩
    have HV := Lib.hid (HW.out _ h2)
    clear CP CU HW h1
    go_wp2_with (first | (go_at_call 101; refine (small_c _ _ (by omega) (by omega)).mono ?_; rintro e w' ⟨rfl, rfl⟩) | (go_at_call 103; refine (ktop_c (by assumption)).mono ?_; rintro e w' ⟨rfl, rfl⟩) | (go_at_call 102; refine (kget_c (by assumption) _ _ (by first | assumption | exact St.gw (by assumption) _ _ | exact St.tw (by assumption) | exact w64_45 | exact w64_0 | exact smW_w _) (by first | exact I64.of (by omega) | assumption)).mono ?_; rintro e w' ⟨rfl, _⟩))
    rename_i h3
    go_loopw [58] (fun y wr => ∃ k : Nat, k ≤ 5 ∧ y = .int .i64 (k : Int) ∧ Hid (St w0 wr c (headN A1 c.m seg bs hd k) top last)) (fun y _ => 5 - (intOf y).toNat)
    case atStart => exact ⟨0, by omega, rfl, Lib.hid (St.alloc (by assumption) _)⟩
    case round =>
      obtain ⟨k, hk, rfl, hS⟩ := hrel
      by_cases hlt : k < 5
      · have ix := IX.out k hlt
        have FIN : Hid (∀ w2, St w0 w2 c (stF (headN A1 c.m seg bs hd k) c.m seg (2 + bs + (k : Int)) (hd[k]?.getD 0)) top last → St w0 w2 c (headN A1 c.m seg bs hd (k + 1)) top last) := Lib.hid (fun w2 h => h)
        have CS := Lib.hid (kset_c hS.out seg (2 + bs + (k : Int)) (hd[k]?.getD 0) hsg (I64.of (by omega)) (HV.out k))
        generalize hd[k]?.getD 0 = hv at *
        clear IX HV hS
        go_wp2_with fail
        refine CS.out.mono ?_
        rintro e w5 ⟨rfl, h5⟩
        have h5 := Lib.hid h5
        go_wp2
        go_roundw
        case rel => exact ⟨k + 1, by omega, by go_num, Lib.hid (FIN.out _ h5.out)⟩
        case measure => simp [intOf]; omega
      · have hk5 : k = 5 := by omega
        have hS0 : Hid (St w0 wr c (voidN (headN A1 c.m seg bs hd 5) c.m seg bs 0) top last) := Lib.hid (by have := hS.out; rwa [hk5] at this)
        clear hk5
        clear hS IX HV
        go_wp2
        go_loopw [72] (fun y wr => ∃ k : Nat, k ≤ s ∧ y = .int .i64 (k : Int) ∧ Hid (St w0 wr c (voidN (headN A1 c.m seg bs hd 5) c.m seg bs k) top last)) (fun y _ => s - (intOf y).toNat)
        case atStart => exact ⟨0, by omega, rfl, hS0⟩
        case round =>
          obtain ⟨k, hk, rfl, hS⟩ := hrel
          clear hS0
          by_cases hlt : k < s
          · have FIN : Hid (∀ w2, St w0 w2 c (stF (voidN (headN A1 c.m seg bs hd 5) c.m seg bs k) c.m seg (2 + bs + 5 + (k : Int)) (mkW 5 3)) top last → St w0 w2 c (voidN (headN A1 c.m seg bs hd 5) c.m seg bs (k + 1)) top last) := Lib.hid (fun w2 h => h)
            have CS := Lib.hid (kset_c hS.out seg (2 + bs + 5 + (k : Int)) (mkW 5 3) hsg (I64.of (by omega)) (w64_single 3))
            clear hS
            go_wp2_with (first | (go_at_call 70; refine (single_c _ _).mono ?_; rintro e w' ⟨rfl, rfl⟩) | (go_at_call 104; refine CS.out.mono ?_; rintro e w5 ⟨rfl, h5⟩))
            have h5 := Lib.hid h5
            go_wp2
            go_roundw
            case rel => exact ⟨k + 1, by omega, by go_num, Lib.hid (FIN.out _ h5.out)⟩
            case measure => simp [intOf]; omega
          · have hks : k = s := by omega
            subst hks
            have hA := hS.out
            clear hS
            go_wp2_with (first | (go_at_call 101; refine (small_c _ _ (by omega) (by omega)).mono ?_; rintro e w' ⟨rfl, rfl⟩) | (go_at_call 103; refine (ktop_c (by assumption)).mono ?_; rintro e w' ⟨rfl, rfl⟩) | (go_at_call 104; refine (kset_c (by assumption) _ _ _ (by first | assumption | exact St.gw (by assumption) _ _ | exact St.tw (by assumption) | exact w64_45 | exact w64_0 | exact smW_w _) (by first | exact I64.of (by omega) | assumption) (by first | assumption | exact St.gw (by assumption) _ _ | exact St.tw (by assumption) | exact w64_45 | exact w64_0 | exact smW_w _)).mono ?_; rintro e w' ⟨rfl, _⟩))
            go_ret
            exact ⟨rfl, by assumption⟩
end Go.Proofs.Ytjgndfhfiekomaa
