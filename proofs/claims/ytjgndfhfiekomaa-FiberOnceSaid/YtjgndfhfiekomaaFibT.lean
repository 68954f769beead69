/- Fibers: resumptions once more. -/
import Derived.Test.YtjgndfhfiekomaaFibR
namespace Go.Proofs.Ytjgndfhfiekomaa
open Go.ChangeShapes Go.WideShapes Go.RowKit
variable {w0 w w1 w' : World} {c : Sk} {A A' : Ar} {top : Int} {last : Value}
theorem kclone_no (h : St w0 w c A top last) (r : Int) (hr : W64 r) (hf : freshF A c.m r ≠ 0) : Calls Try.prog 52 #[.pointer (some ⟨c.kb, 0, none⟩), .int .u64 r] w fun e w' => e = .returned (.tuple #[.int .u64 45, .bool false, .int .i64 (freshF A c.m r)]) ∧ St w0 w' c A top last := by
  have CF := Lib.hid (kfresh_c h r hr)
  have hf2 : (freshF A c.m r != 0) = true := by simpa using hf
  clear hf
  generalize freshF A c.m r = z at *
  go_enter Try.func52, Try.ntmps52
  go_wp2_with (first | (go_at_call 113; refine CF.out.mono ?_; rintro e w' ⟨rfl, _⟩) | (go_at_call 98; refine (nothing_c _).mono ?_; rintro e w' ⟨rfl, rfl⟩))
  go_ret3
  exact ⟨rfl, by assumption⟩
set_option maxRecDepth 100000 in
set_option maxHeartbeats 2000000 in
/-- One fiber alone. -/
theorem kclone_one (h : St w0 w c A top last) (r : Int) (hr : W64 r) (hf : freshF A c.m r = 0) (f0 : Int) (hf0 : gtF A c.m r 1 = f0) (hp0 : f0 % 8 = 1) (n : Nat) (hok : SgOk A c.m n (gtF A c.m f0 1)) (hW : ∀ x, (segsF A c.m n (gtF A c.m f0 1)).2 = some x → W64 x)
    (g : Int) (hg : (againF A c.m n f0).2 = some g) (hgw : W64 g) (hl : gtF (againF A c.m n f0).1 c.m f0 0 % 8 ≠ 1) (out : Int) (ho : (objF (againF A c.m n f0).1 c.m 6 [smW 0, g, g]).2 = some out) :
    Calls Try.prog 52 #[.pointer (some ⟨c.kb, 0, none⟩), .int .u64 r] w fun e w' => e = .returned (.tuple #[.int .u64 out, .bool true, .int .i64 0]) ∧ St w0 w' c (objF (againF A c.m n f0).1 c.m 6 [smW 0, g, g]).1 top last := by
  have hfw : W64 f0 := by rw [← hf0]; exact h.gw _ _
  have CF := Lib.hid (kfresh_c h r hr)
  rw [hf] at CF
  have CG0 : Hid (∀ wa, St w0 wa c A top last → Calls Try.prog 102 #[.pointer (some ⟨c.kb, 0, none⟩), .int .u64 r, .int .i64 1] wa fun e w' => e = .returned (.int .u64 f0) ∧ St w0 w' c A top last) := Lib.hid (fun wa ha => by have := kget_c ha r 1 hr (I64.of (by omega)); rwa [hf0] at this)
  have CK0 : Hid (∀ wa, _) := Lib.hid (fun wa => kind_c f0 wa hfw.1 hfw.2)
  have CK5 : Hid (∀ wa, Calls Try.prog 81 #[.int .u64 45] wa fun e w' => e = .returned (.int .i64 5) ∧ wa = w') := Lib.hid (fun wa => kind_c 45 wa (by omega) (by omega))
  have CA : Hid (∀ wa, St w0 wa c A top last → Calls Try.prog 114 #[.pointer (some ⟨c.kb, 0, none⟩), .int .u64 f0] wa fun e w' => e = .returned (.tuple #[.int .u64 g, .bool true]) ∧ St w0 w' c (againF A c.m n f0).1 top last) := Lib.hid (fun wa ha => by have := kagain_c n ha f0 hfw hok hW; rwa [hg] at this)
  obtain ⟨A1, hA1⟩ : ∃ A1, A1 = (againF A c.m n f0).1 := ⟨_, rfl⟩
  rw [← hA1] at CA ho hl ⊢
  obtain ⟨f1, hf1⟩ : ∃ f1, f1 = gtF A1 c.m f0 0 := ⟨_, rfl⟩
  rw [← hf1] at hl
  have CG1 : Hid (∀ wa, St w0 wa c A1 top last → Calls Try.prog 102 #[.pointer (some ⟨c.kb, 0, none⟩), .int .u64 f0, .int .i64 0] wa fun e w' => e = .returned (.int .u64 f1) ∧ St w0 w' c A1 top last) := Lib.hid (fun wa ha => by rw [hf1]; exact kget_c ha f0 0 hfw (I64.of (by omega)))
  have CK1 : Hid (∀ wa, St w0 wa c A1 top last → Calls Try.prog 81 #[.int .u64 f1] wa fun e w' => e = .returned (.int .i64 (f1 % 8)) ∧ wa = w') := Lib.hid (fun wa ha => kind_c f1 wa (by rw [hf1]; exact (ha.gw _ _).1) (by rw [hf1]; exact (ha.gw _ _).2))
  have CO : Hid (∀ wa, St w0 wa c A1 top last → Calls Try.prog 106 #[.pointer (some ⟨c.sb, 0, none⟩), .int .i64 6, .slice (some ⟨wa.heap.size, 0, none⟩) 3 3] (wa.alloc (.cells #[.int .u64 (smW 0), .int .u64 g, .int .u64 g] 37)).drew fun e w' => e = .returned (.tuple #[.int .u64 out, .bool true]) ∧ St w0 w' c (objF A1 c.m 6 [smW 0, g, g]).1 top last) := Lib.hid (fun wa ha => by have := vobj3_c 6 (smW 0) g g (by omega) (smW_w _) hgw hgw ha; rwa [ho] at this)
  have SM : Hid (∀ w, _) := Lib.hid (fun w => small_c 0 w (by omega) (by omega))
  generalize (objF A1 c.m 6 [smW 0, g, g]).1 = A2 at *
  generalize smW 0 = s0 at *
  have hp0b : (f0 % 8 == 1) = true := by simpa using hp0
  have hp1b : (f1 % 8 == 1) = false := by simpa using hl
  have H := Lib.hid h
  clear hf hf0 hp0 hok hW hg hl ho hA1 hf1 h
  go_enter Try.func52, Try.ntmps52
  go_wp2_with (first | (go_at_call 113; refine CF.out.mono ?_; rintro e w1 ⟨rfl, h1⟩) | (go_at_call 98; refine (nothing_c _).mono ?_; rintro e w' ⟨rfl, rfl⟩))
  refine (CG0.out _ h1).mono ?_
  rintro e w2 ⟨rfl, h2⟩
  have h2 := Lib.hid h2
  clear CF CG0 h1
  go_wp2_with fail
  go_loopg [8, 9, 10, 11] 1 (fun j s8 s9 s10 s11 wr => (j = 1 ∧ s8 = .int .u64 45 ∧ s9 = .int .u64 45 ∧ s10 = .int .u64 45 ∧ s11 = .int .u64 f0 ∧ Hid (St w0 wr c A top last)) ∨ (j = 0 ∧ s8 = .int .u64 g ∧ s9 = .int .u64 g ∧ s10 = .int .u64 g ∧ s11 = .int .u64 f1 ∧ Hid (St w0 wr c A1 top last)))
  case atStart => exact .inl ⟨rfl, rfl, rfl, rfl, rfl, h2⟩
  case round =>
    rcases hrel with ⟨rfl, rfl, rfl, rfl, rfl, hS⟩ | ⟨rfl, rfl, rfl, rfl, rfl, hS⟩
    · clear h2
      go_wp2_with fail
      refine (CK0.out _).mono ?_
      rintro e w' ⟨rfl, rfl⟩
      go_wp2_with fail
      refine (CA.out _ hS.out).mono ?_
      rintro e w3 ⟨rfl, h3⟩
      have h3 := Lib.hid h3
      go_wp2_with fail
      refine (CK5.out _).mono ?_
      rintro e w' ⟨rfl, rfl⟩
      go_wp2_with fail
      refine (CG1.out _ h3.out).mono ?_
      rintro e w4 ⟨rfl, h4⟩
      have h4 := Lib.hid h4
      clear h3 hS
      go_wp2_with fail
      go_roundg 0
      case measure => omega
      case rel => exact .inr ⟨rfl, rfl, rfl, rfl, rfl, h4⟩
    · have hS2 := hS.out
      have h1d := hS2.drew
      have k0 := hS2.k0
      clear h2 hS
      go_wp2_with fail
      refine (CK1.out _ hS2).mono ?_
      rintro e w' ⟨rfl, rfl⟩
      go_wp2
      go_region_held3 (fun w_ => w_.cell? ⟨c.kb, 0, none⟩ = some (.pointer (some ⟨c.sb, 0, none⟩))) (with_reducible first | exact St.k0 (by assumption) | exact St.k0 (St.drew (by assumption)) | exact St.k0 (St.alloc (by assumption) _) | exact St.k0 (St.drew (St.alloc (by assumption) _))) (first | (go_at_call 101; refine Calls.mono (SM.out _) ?_; rintro e w' ⟨rfl, rfl⟩) | (go_at_call 106; refine Calls.mono (CO.out _ (by assumption)) ?_; rintro e w9 ⟨rfl, h9⟩))
      all_goals
        go_wp2
        go_ret3
        exact ⟨rfl, h9⟩
end Go.Proofs.Ytjgndfhfiekomaa
