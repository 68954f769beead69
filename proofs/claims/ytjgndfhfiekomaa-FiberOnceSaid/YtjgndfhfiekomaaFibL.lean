/- Fibers: counted, made once more. -/
import Derived.Test.YtjgndfhfiekomaaFibK
import Derived.Deep.LoopGhost
namespace Go.Proofs.Ytjgndfhfiekomaa
open Go.ChangeShapes Go.WideShapes Go.RowKit
variable {w0 w w1 w' : World} {c : Sk} {A A' : Ar} {top : Int} {last : Value}
/-- How many fibers stand one below the other, from one on (with fuel). -/
def chF (A : Ar) (m : Nat) : Nat → Int → Option Nat
  | 0, _ => none
  | n + 1, f => if f % 8 = 1 then (chF A m n (gtF A m f 0)).map (· + 1) else some 0
theorem kfibers_c (h : St w0 w c A top last) (fuel k : Nat) (hc : chF A c.m fuel top = some k) (hk : k ≤ 1000000) : Calls Try.prog 60 #[.pointer (some ⟨c.kb, 0, none⟩)] w fun e w' => e = .returned (.int .i64 (k : Int)) ∧ St w0 w' c A top last := by
  have CT := Lib.hid (ktop_c h)
  have ht := Lib.hid h.tw
  have h0 : Hid (St w0 w c A top last) := Lib.hid h
  have HC := Lib.hid hc
  clear h hc
  go_enter Try.func60, Try.ntmps60
  go_wp2_with fail
  refine CT.out.mono ?_
  rintro e w' ⟨rfl, rfl⟩
  clear CT
  go_wp2_with fail
  go_loopg [3, 4] fuel (fun j s3 s4 wr => ∃ (f : Int) (n r : Nat), s3 = .int .i64 (n : Int) ∧ s4 = .int .u64 f ∧ Hid (W64 f) ∧ Hid (chF A c.m j f = some r ∧ n + r = k) ∧ Hid (St w0 wr c A top last))
  case atStart => exact ⟨top, 0, k, rfl, rfl, ht, Lib.hid ⟨HC.out, by omega⟩, h0⟩
  case round =>
    obtain ⟨f, n, r, rfl, rfl, hf, hE, hS⟩ := hrel
    clear HC h0 ht
    have CK := Lib.hid (kind_c f wr hf.out.1 hf.out.2)
    obtain ⟨j, hj⟩ : ∃ j, gk = j + 1 := by
      cases gk with
      | zero => have := hE.out.1; simp [chF] at this
      | succ j => exact ⟨j, rfl⟩
    have E2 := hE.out.1
    rw [hj] at E2
    have HJ := Lib.hid hj
    clear hj
    unfold chF at E2
    by_cases hp : f % 8 = 1
    · have hpb : (f % 8 == 1) = true := by simpa using hp
      rw [if_pos hp] at E2
      cases hx : chF A c.m j (gtF A c.m f 0) with
      | none => rw [hx] at E2; cases E2
      | some r2 =>
        rw [hx] at E2
        simp at E2
        have E3 : Hid (chF A c.m j (gtF A c.m f 0) = some r2 ∧ (n + 1) + r2 = k) := Lib.hid ⟨hx, by have := hE.out.2; omega⟩
        have hn : n ≤ 1000000 := by have := hE.out.2; omega
        have CG := Lib.hid (kget_c hS.out f 0 hf.out (I64.of (by omega)))
        have G2 := Lib.hid (hS.out.gw f 0)
        clear E2 hx hp hE
        go_wp2_with fail
        refine CK.out.mono ?_
        rintro e w' ⟨rfl, rfl⟩
        go_wp2_with fail
        refine CG.out.mono ?_
        rintro e w2 ⟨rfl, h2⟩
        have h2 := Lib.hid h2
        go_wp2_with fail
        go_roundg j
        case measure => have := HJ.out; omega
        case rel => exact ⟨_, n + 1, r2, by go_num, rfl, G2, E3, h2⟩
    · have hpb : (f % 8 == 1) = false := by simpa using hp
      rw [if_neg hp] at E2
      have hnk : Hid (n = k) := Lib.hid (by have := hE.out.2; simp at E2; omega)
      clear E2 hp hE
      go_wp2_with fail
      refine CK.out.mono ?_
      rintro e w' ⟨rfl, rfl⟩
      go_wp2
      go_ret
      exact ⟨by rw [hnk.out]; rfl, hS.out⟩
theorem kframes_no (h : St w0 w c A top last) (hn : noF A c.m top = true) : Calls Try.prog 63 #[.pointer (some ⟨c.kb, 0, none⟩)] w fun e w' => e = .returned (.int .i64 0) ∧ St w0 w' c A top last := by
  have CA := Lib.hid (kat_c h)
  have t1 := noF_yes hn
  clear hn h
  go_enter Try.func63, Try.ntmps63
  go_wp2_with fail
  refine CA.out.mono ?_
  rintro e w1 ⟨rfl, h1⟩
  have h1 := Lib.hid h1
  go_wp2_with fail
  go_loopw [3, 6] (fun n ok wr => n = .int .i64 0 ∧ ok = .bool false ∧ Hid (St w0 wr c A top last)) (fun _ _ _ => 0)
  case atStart => exact ⟨rfl, rfl, h1⟩
  case round =>
    obtain ⟨rfl, rfl, hS⟩ := hrel
    go_wp2
    go_ret
    exact ⟨rfl, hS.out⟩
/-! ### Segments once more -/
/-- One segment more, on what stands below it already. -/
def segStep (A1 : Ar) (m : Nat) (seg prev : Int) : Ar × Option Int :=
  match (segF A1 m prev (max (rmF A1 m seg) 1)).2 with
  | none => ((segF A1 m prev (max (rmF A1 m seg) 1)).1, none)
  | some to => (stF (growN (segF A1 m prev (max (rmF A1 m seg) 1)).1 m to seg (nmF A1 m seg 1).toNat) m to 1 (smW (nmF A1 m seg 1)), some to)
def segOn (r : Ar × Option Int) (m : Nat) (seg : Int) : Ar × Option Int :=
  match r.2 with
  | none => (r.1, none)
  | some prev => segStep r.1 m seg prev
def segsF (A : Ar) (m : Nat) (n : Nat) (seg : Int) : Ar × Option Int :=
  match n with
  | 0 => (A, some 45)
  | n + 1 => if seg % 8 = 1 then segOn (segsF A m n (gtF A m seg 0)) m seg else (A, some 45)
theorem segsF_yes {m n : Nat} {seg : Int} (h : seg % 8 = 1) : segsF A m (n + 1) seg = segOn (segsF A m n (gtF A m seg 0)) m seg := if_pos h
theorem segsF_no {m n : Nat} {seg : Int} (h : seg % 8 ≠ 1) : segsF A m (n + 1) seg = (A, some 45) := if_neg h
/-- So many segments stand one below the other, and their numbers are small. -/
def SgOk (A : Ar) (m : Nat) : Nat → Int → Prop
  | 0, seg => seg % 8 ≠ 1
  | n + 1, seg => seg % 8 ≠ 1 ∨ (SgOk A m n (gtF A m seg 0) ∧ 0 ≤ nmF (segsF A m n (gtF A m seg 0)).1 m seg 1 ∧ nmF (segsF A m n (gtF A m seg 0)).1 m seg 1 ≤ 1000 ∧ rmF (segsF A m n (gtF A m seg 0)).1 m seg ≤ 1000 ∧ ∀ x, (segsF A m n (gtF A m seg 0)).2 = some x → W64 x)
theorem ksegs_end (h : St w0 w c A top last) (seg : Int) (hs : W64 seg) (hk : seg % 8 ≠ 1) : Calls Try.prog 145 #[.pointer (some ⟨c.kb, 0, none⟩), .int .u64 seg] w fun e w' => e = .returned (.tuple #[.int .u64 45, .bool true]) ∧ St w0 w' c A top last := by
  have hkb : (seg % 8 != 1) = true := by simpa using hk
  clear hk
  go_enter Try.func145, Try.ntmps145
  go_wp2_with (first | (go_at_call 81; refine (kind_c _ _ (W64.lo (by first | assumption | exact St.gw (by assumption) _ _ | exact St.tw (by assumption) | exact w64_45 | exact w64_0 | exact smW_w _)) (W64.hi (by first | assumption | exact St.gw (by assumption) _ _ | exact St.tw (by assumption) | exact w64_45 | exact w64_0 | exact smW_w _))).mono ?_; rintro e w' ⟨rfl, rfl⟩) | (go_at_call 98; refine (nothing_c _).mono ?_; rintro e w' ⟨rfl, rfl⟩))
  go_ret2
  exact ⟨rfl, by assumption⟩
set_option maxHeartbeats 4000000 in
theorem ksegs_c (n : Nat) : ∀ (w : World) (seg : Int), St w0 w c A top last → W64 seg → SgOk A c.m n seg → Calls Try.prog 145 #[.pointer (some ⟨c.kb, 0, none⟩), .int .u64 seg] w fun e w' => e = .returned (wordVal (segsF A c.m n seg).2) ∧ St w0 w' c (segsF A c.m n seg).1 top last := by
  induction n with
  | zero =>
    intro w seg h hs hk
    exact ksegs_end h seg hs hk
  | succ n ih =>
    intro w seg h hs hok
    by_cases hp : seg % 8 = 1
    · unfold SgOk at hok
      rcases hok with hok | ⟨ho, u0, u1, r1, hW⟩
      · exact absurd hp hok
      have hpb : (seg % 8 != 1) = false := by simpa using hp
      have IH := Lib.hid (fun w1 (h1 : St w0 w1 c A top last) => ih w1 (gtF A c.m seg 0) h1 (h.gw _ _) ho)
      have CG := Lib.hid (kget_c h seg 0 hs (I64.of (by omega)))
      have CK := Lib.hid (kind_c seg w hs.1 hs.2)
      have HS := Lib.hid hs
      rw [segsF_yes hp]
      unfold segOn
      clear ih ho hp h
      cases ho : (segsF A c.m n (gtF A c.m seg 0)).2 with
      | none =>
        rw [ho] at IH
        simp only [wordVal] at IH ⊢
        clear ho u0 u1 r1 hW
        go_enter Try.func145, Try.ntmps145
        go_wp2_with fail
        refine CK.out.mono ?_
        rintro e w' ⟨rfl, rfl⟩
        go_wp2_with fail
        refine CG.out.mono ?_
        rintro e w1 ⟨rfl, h1⟩
        have h1 := Lib.hid h1
        go_wp2_with fail
        refine (IH.out _ h1.out).mono ?_
        rintro e w2 ⟨rfl, h2⟩
        have h2 := Lib.hid h2
        clear CK CG IH h1
        go_wp2
        go_ret2
        exact ⟨rfl, h2.out⟩
      | some prev =>
        rw [ho] at IH
        simp only [wordVal] at IH
        simp only
        have hpv := Lib.hid (hW prev ho)
        clear ho hW
        generalize (segsF A c.m n (gtF A c.m seg 0)).1 = A1 at *
        unfold segStep
        have CU : Hid (∀ w1, St w0 w1 c A1 top last → _) := Lib.hid (fun w1 h1 => kused_c h1 seg HS.out)
        have CR : Hid (∀ w1, St w0 w1 c A1 top last → _) := Lib.hid (fun w1 h1 => kroom_c h1 seg HS.out)
        have rm0 : 0 ≤ rmF A1 c.m seg := by unfold rmF; omega
        obtain ⟨u, hu⟩ : ∃ u : Nat, nmF A1 c.m seg 1 = (u : Int) := ⟨(nmF A1 c.m seg 1).toNat, by omega⟩
        rw [hu] at CU u0 u1 ⊢
        rw [Int.toNat_natCast]
        have hu1 : u ≤ 1000 := by omega
        obtain ⟨sz, hsz⟩ : ∃ sz, sz = max (rmF A1 c.m seg) 1 := ⟨_, rfl⟩
        rw [← hsz]
        have CS : Hid (∀ w1, St w0 w1 c A1 top last → _) := Lib.hid (fun w1 h1 => ksegment_c h1 prev sz hpv.out (by omega) (by omega))
        have SW : Hid (∀ w1, St w0 w1 c A1 top last → ∀ x, (segF A1 c.m prev sz).2 = some x → W64 x) := Lib.hid (fun w1 h1 x hx => segF_w h1.a.wd hx)
        generalize rmF A1 c.m seg = r at *
        have q : (r < 1 ∧ sz = 1) ∨ (¬ r < 1 ∧ sz = r) := by omega
        clear hu hsz
        cases ho : (segF A1 c.m prev sz).2 with
        | none =>
          rw [ho] at CS
          simp only [wordVal] at CS ⊢
          clear ho SW
          generalize (segF A1 c.m prev sz).1 = A2 at *
          rcases q with ⟨q1, rfl⟩ | ⟨q1, rfl⟩
          all_goals
            go_enter Try.func145, Try.ntmps145
            go_wp2_with fail
            refine CK.out.mono ?_
            rintro e w' ⟨rfl, rfl⟩
            go_wp2_with fail
            refine CG.out.mono ?_
            rintro e w1 ⟨rfl, h1⟩
            have h1 := Lib.hid h1
            go_wp2_with fail
            refine (IH.out _ h1.out).mono ?_
            rintro e w2 ⟨rfl, h2⟩
            have h2 := Lib.hid h2
            clear CK CG IH h1
            go_wp2_with fail
            refine (CU.out _ h2.out).mono ?_
            rintro e w3 ⟨rfl, h3⟩
            have h3 := Lib.hid h3
            go_wp2_with fail
            refine (CR.out _ h3.out).mono ?_
            rintro e w4 ⟨rfl, h4⟩
            have h4 := Lib.hid h4
            go_wp2_with fail
            refine (CS.out _ h4.out).mono ?_
            rintro e w5 ⟨rfl, h5⟩
            go_wp2
            go_ret2
            exact ⟨rfl, h5⟩
        | some to =>
          have HT : Hid (∀ w1, St w0 w1 c A1 top last → W64 to) := Lib.hid (fun w1 h1 => SW.out w1 h1 to ho)
          rw [ho] at CS
          simp only [wordVal] at CS ⊢
          clear ho SW
          generalize (segF A1 c.m prev sz).1 = A2 at *
          rcases q with ⟨q1, rfl⟩ | ⟨q1, rfl⟩
          all_goals
            go_enter Try.func145, Try.ntmps145
            go_wp2_with fail
            refine CK.out.mono ?_
            rintro e w' ⟨rfl, rfl⟩
            go_wp2_with fail
            refine CG.out.mono ?_
            rintro e w1 ⟨rfl, h1⟩
            have h1 := Lib.hid h1
            go_wp2_with fail
            refine (IH.out _ h1.out).mono ?_
            rintro e w2 ⟨rfl, h2⟩
            have h2 := Lib.hid h2
            clear CK CG IH h1
            go_wp2_with fail
            refine (CU.out _ h2.out).mono ?_
            rintro e w3 ⟨rfl, h3⟩
            have h3 := Lib.hid h3
            go_wp2_with fail
            refine (CR.out _ h3.out).mono ?_
            rintro e w4 ⟨rfl, h4⟩
            have h4 := Lib.hid h4
            have hto := Lib.hid (HT.out _ h4.out)
            go_wp2_with fail
            refine (CS.out _ h4.out).mono ?_
            rintro e w5 ⟨rfl, h5⟩
            have h5 : Hid (St w0 w5 c (growN A2 c.m to seg 0) top last) := Lib.hid h5
            clear CU CR CS HT h2 h3 h4
            go_wp2_with fail
            go_loopw [41] (fun y wr => ∃ k : Nat, k ≤ u ∧ y = .int .i64 (k : Int) ∧ Hid (St w0 wr c (growN A2 c.m to seg k) top last)) (fun y _ => u - (intOf y).toNat)
            case atStart => exact ⟨0, Nat.zero_le _, rfl, h5⟩
            case round =>
              obtain ⟨k, hk, rfl, hS⟩ := hrel
              clear h5
              by_cases hlt : k < u
              · have CG := Lib.hid (kget_c hS.out seg (2 + (k : Int)) HS.out (I64.of (by omega)))
                have CT : Hid (∀ w1, St w0 w1 c (growN A2 c.m to seg k) top last → _) := Lib.hid (fun w1 h1 => kset_c h1 to (2 + (k : Int)) (gtF (growN A2 c.m to seg k) c.m seg (2 + (k : Int))) hto.out (I64.of (by omega)) (h1.gw _ _))
                have FIN : Hid (∀ w2, St w0 w2 c (stF (growN A2 c.m to seg k) c.m to (2 + (k : Int)) (gtF (growN A2 c.m to seg k) c.m seg (2 + (k : Int)))) top last → St w0 w2 c (growN A2 c.m to seg (k + 1)) top last) := Lib.hid (fun w2 h => h)
                go_wp2_with fail
                refine CG.out.mono ?_
                rintro e w6 ⟨rfl, h6⟩
                go_wp2_with fail
                refine (CT.out _ h6).mono ?_
                rintro e w7 ⟨rfl, h7⟩
                have h7 := Lib.hid h7
                go_wp2
                go_roundw
                case rel => exact ⟨k + 1, by omega, by go_num, Lib.hid (FIN.out _ h7.out)⟩
                case measure => simp [intOf]; omega
              · have hku : k = u := by omega
                subst hku
                have CT : Hid (∀ w1, St w0 w1 c (growN A2 c.m to seg k) top last → _) := Lib.hid (fun w1 h1 => kset_c h1 to 1 (smW (k : Int)) hto.out (I64.of (by omega)) (smW_w _))
                have h6 := hS.out
                go_wp2_with (first | (go_at_call 101; refine (small_c _ _ (by omega) (by omega)).mono ?_; rintro e w' ⟨rfl, rfl⟩) | (go_at_call 104; refine (CT.out _ h6).mono ?_; rintro e w' ⟨rfl, h7⟩))
                go_ret2
                exact ⟨rfl, h7⟩
    · rw [segsF_no hp]
      refine (ksegs_end h seg hs hp).mono ?_
      rintro e w' ⟨rfl, h1⟩
      exact ⟨rfl, h1⟩
end Go.Proofs.Ytjgndfhfiekomaa
