/- Exact: powers. -/
import Derived.Test.YtladhmbidicncaaDoorExaX
import Derived.Deep.LoopGhost
namespace Go.Proofs.YtladhmbidicncaaDoor
open Go.ChangeShapes Go.WideShapes Go.RowKit
variable {w w' w2 wr : World} {a b : Option Addr} {cap cap2 : Nat} {L M : List Nat} {B : Nat}
set_option maxRecDepth 100000 in
set_option maxHeartbeats 8000000 in
theorem epow_c (w : World) (s : Bool) (n k : Nat) (hk : k ≤ 1000) (hn : fits n = true) (h : In w a cap (lims n)) (h2 : In w b cap2 (lims k)) : Calls Tryd.prog 72 #[.agg #[.bool s, .slice a (lims n).length cap], .agg #[.bool false, .slice b (lims k).length cap2]] w (PowI w (powP k false 1 s n)) := by
  have H := Lib.hid h
  have H2 := Lib.hid h2
  clear h h2
  have F0 : Hid (Fr [] w (((w.alloc (.cells #[.bool s, .slice a (lims n).length cap] 52)).alloc (.cells #[.bool false, .slice b (lims k).length cap2] 52)).alloc (.cells #[.bool false, .slice none 0 0] 52))) := Lib.hid ((((Fr.refl [] w).alloc _).alloc _).alloc _)
  have P : Hid (Bx (((w.alloc (.cells #[.bool s, .slice a (lims n).length cap] 52)).alloc (.cells #[.bool false, .slice b (lims k).length cap2] 52)).alloc (.cells #[.bool false, .slice none 0 0] 52)) (w.heap.size) (.bool s) (.slice a (lims n).length cap)) := Lib.hid ((Bx.new _ _ _).fr (((Fr.refl [] _).alloc _).alloc _))
  have Q : Hid (Bx (((w.alloc (.cells #[.bool s, .slice a (lims n).length cap] 52)).alloc (.cells #[.bool false, .slice b (lims k).length cap2] 52)).alloc (.cells #[.bool false, .slice none 0 0] 52)) (w.heap.size + 1) (.bool false) (.slice b (lims k).length cap2)) := Lib.hid (((Bx.new _ _ _).eq (by simp)).fr ((Fr.refl [] _).alloc _))
  have R : Hid (Bx (((w.alloc (.cells #[.bool s, .slice a (lims n).length cap] 52)).alloc (.cells #[.bool false, .slice b (lims k).length cap2] 52)).alloc (.cells #[.bool false, .slice none 0 0] 52)) (w.heap.size + 2) (.bool false) (.slice none 0 0)) := Lib.hid (((Bx.new _ _ _).eq (by simp)).fr (Fr.refl [] _))
  replace pc0 := P.out.c0
  replace pc1 := P.out.c1
  replace pl := P.out.lt
  replace qc0 := Q.out.c0
  replace qc1 := Q.out.c1
  replace ql := Q.out.lt
  replace rc0 := R.out.c0
  replace rc1 := R.out.c1
  replace rl := R.out.lt
  replace rf0 := R.out.f 0
  replace rf1 := R.out.f 1
  have CS : Hid (∀ W, Fr [] w W → Calls Tryd.prog 63 #[.agg #[.bool false, .slice b (lims k).length cap2]] W fun e w' => e = .returned (.tuple #[.int .i64 (k : Int), .bool true]) ∧ Fr [] W w') := Lib.hid (fun W hW => (esmall_c W false k (H2.out.keep hW)).mono (fun e w' h => by
    have hb : smB false k = true := by unfold smB; rw [decide_eq_true_eq]; omega
    unfold SmallI at h
    rw [if_pos hb] at h
    exact h))
  have CO : Hid (∀ W, Calls Tryd.prog 61 #[.int .i64 1] W (GivesI W false 1)) := Lib.hid (fun W => eof_c W 1 (by decide) (by decide))
  have CM : Hid (∀ W sx x ax cx sy y ay cy, In W ax cx (lims x) → In W ay cy (lims y) → fits x = true → fits y = true → Calls Tryd.prog 66 #[.agg #[.bool sx, .slice ax (lims x).length cx], .agg #[.bool sy, .slice ay (lims y).length cy]] W (CapI W (fits (x * y)) (sg (sx != sy) (x * y)) (x * y))) := Lib.hid (fun W sx x ax cx sy y ay cy h1 h2 hx hy => emul_c W sx sy x y h1 h2 hx hy)
  obtain ⟨T, hT⟩ : ∃ T, T = powP k false 1 s n := ⟨_, rfl⟩
  have HT : Hid (powP k false 1 s n = T) := Lib.hid hT.symm
  rw [← hT]
  clear hT
  have hk1 : ¬ (k : Int) < 0 := by omega
  have hk2 : ¬ (1000 : Int) < (k : Int) := by omega
  go_enter Tryd.func72, Tryd.ntmps72
  go_wp2_with fail
  refine (CS.out _ F0.out).mono ?_
  rintro e w1 ⟨rfl, F1⟩
  replace P := Lib.hid (P.out.fr F1)
  replace pc0 := P.out.c0
  replace pc1 := P.out.c1
  replace pl := P.out.lt
  replace Q := Lib.hid (Q.out.fr F1)
  replace qc0 := Q.out.c0
  replace qc1 := Q.out.c1
  replace ql := Q.out.lt
  replace R := Lib.hid (R.out.fr F1)
  replace rc0 := R.out.c0
  replace rc1 := R.out.c1
  replace rl := R.out.lt
  replace rf0 := R.out.f 0
  replace rf1 := R.out.f 1
  have FW := Lib.hid (F0.out.same F1)
  clear F1
  go_wp2_with fail
  refine (CO.out _).mono ?_
  rintro e w2 ⟨a2, c2, rfl, I2, F2⟩
  have hko : w.heap.size + 2 < w2.heap.size := (R.out.fr F2).lt
  replace P := Lib.hid (P.out.fr (F2.alloc (.cells #[.bool false, .slice a2 (lims 1).length c2] 52)))
  replace pc0 := P.out.c0
  replace pc1 := P.out.c1
  replace pl := P.out.lt
  replace Q := Lib.hid (Q.out.fr (F2.alloc (.cells #[.bool false, .slice a2 (lims 1).length c2] 52)))
  replace qc0 := Q.out.c0
  replace qc1 := Q.out.c1
  replace ql := Q.out.lt
  replace R := Lib.hid (R.out.fr (F2.alloc (.cells #[.bool false, .slice a2 (lims 1).length c2] 52)))
  replace rc0 := R.out.c0
  replace rc1 := R.out.c1
  replace rl := R.out.lt
  replace rf0 := R.out.f 0
  replace rf1 := R.out.f 1
  have O := Lib.hid (Bx.new w2 (.bool false) (.slice a2 (lims 1).length c2))
  have I2 := Lib.hid (I2.keep ((Fr.refl [] _).alloc (.cells #[.bool false, .slice a2 (lims 1).length c2] 52)))
  have FW := Lib.hid (FW.out.same (F2.alloc (.cells #[.bool false, .slice a2 (lims 1).length c2] 52)))
  have I1 := Lib.hid (H.out.keep FW.out)
  have FT : Hid (fits 1 = true ∧ fits n = true) := Lib.hid ⟨by decide +kernel, hn⟩
  clear F2 H2 CS CO Q qc0 qc1 ql
  go_wp2_with fail
  go_loopg [6, 9] k (fun j s6 _ wr => ∃ (so : Bool) (no : Nat) (ao : Option Addr) (co : Nat) (sa : Bool) (na : Nat) (aa : Option Addr) (ca : Nat), s6 = .int .i64 (j : Int) ∧ Hid (j ≤ 1000) ∧ Hid (In wr ao co (lims no)) ∧ Hid (In wr aa ca (lims na)) ∧ Hid (Bx wr w.heap.size (.bool sa) (.slice aa (lims na).length ca)) ∧ Hid (Bx wr w2.heap.size (.bool so) (.slice ao (lims no).length co)) ∧ Hid (Bx wr (w.heap.size + 2) (.bool false) (.slice none 0 0)) ∧ Hid (fits no = true ∧ fits na = true) ∧ Hid (powP j so no sa na = T) ∧ Hid (Fr [] w wr))
  case atStart => exact ⟨false, 1, a2, c2, s, n, a, cap, rfl, Lib.hid hk, I2, I1, P, O, R, FT, HT, FW⟩
  case round =>
    obtain ⟨so, no, ao, co, sa, na, aa, ca, rfl, hj, IO, IA, P, O, R, FT, HT, FW⟩ := hrel
    clear pc0 pc1 pl rc0 rc1 rl rf0 rf1 I2 I1
    have pc0 := P.out.c0
    have pc1 := P.out.c1
    have pl := P.out.lt
    have pf0 := P.out.f 0
    have pf1 := P.out.f 1
    have oc0 := O.out.c0
    have oc1 := O.out.c1
    have ol := O.out.lt
    have of0 := O.out.f 0
    have of1 := O.out.f 1
    have rc0 := R.out.c0
    have rc1 := R.out.c1
    have rl := R.out.lt
    have rf0 := R.out.f 0
    have rf1 := R.out.f 1
    have hneP : w.heap.size ≠ w2.heap.size := by omega
    have hneR : w.heap.size + 2 ≠ w2.heap.size := by omega
    have hneQ : w.heap.size + 2 ≠ w.heap.size := by omega
    have hneO : w2.heap.size ≠ w.heap.size := by omega
    have hle : w.heap.size ≤ w2.heap.size := by omega
    by_cases hodd : gk % 2 = 1
    · have hb : (bits BinOp.and IntKind.i64 (gk : Int) 1 == 1) = true := by rw [and_one gk hj.out, hodd]; rfl
      obtain ⟨n3, hn3⟩ : ∃ x, x = no * na := ⟨_, rfl⟩
      obtain ⟨s3, hs3⟩ : ∃ x, x = sg (so != sa) n3 := ⟨_, rfl⟩
      have CK : Hid (Calls Tryd.prog 66 #[.agg #[.bool so, .slice ao (lims no).length co], .agg #[.bool sa, .slice aa (lims na).length ca]] wr (CapI wr (fits n3) s3 n3)) := Lib.hid (by rw [hs3, hn3]; exact CM.out wr so no ao co sa na aa ca IO.out IA.out FT.out.1 FT.out.2)
      cases hf : fits n3 with
      | false =>
        have HT2 := HT.out
        rw [pow_big hodd (by rw [← hn3]; exact hf)] at HT2
        have D : Hid (∀ W, Fr [] w W → PowI w T (.returned (.tuple #[.agg #[.bool false, .slice none 0 0], .int .i64 11])) W) := Lib.hid (fun W h => by rw [← HT2]; exact ⟨rfl, h⟩)
        rw [hf] at CK
        clear HT HT2 FT CM hf hn3 hs3 hodd hj
        go_wp2_with fail
        refine CK.out.mono ?_
        rintro e w3 ⟨rfl, F3⟩
        replace P := Lib.hid (P.out.fr F3)
        replace pc0 := P.out.c0
        replace pc1 := P.out.c1
        replace pl := P.out.lt
        replace pf0 := P.out.f 0
        replace pf1 := P.out.f 1
        replace O := Lib.hid (O.out.fr F3)
        replace oc0 := O.out.c0
        replace oc1 := O.out.c1
        replace ol := O.out.lt
        replace of0 := O.out.f 0
        replace of1 := O.out.f 1
        replace R := Lib.hid (R.out.fr F3)
        replace rc0 := R.out.c0
        replace rc1 := R.out.c1
        replace rl := R.out.lt
        replace rf0 := R.out.f 0
        replace rf1 := R.out.f 1
        replace IO := Lib.hid (IO.out.keep F3)
        replace IA := Lib.hid (IA.out.keep F3)
        replace FW := Lib.hid (FW.out.same F3)
        clear F3 CK
        have z1c0 := O.out.c0
        have z1c1 := O.out.c1
        have z1f0 := O.out.f 0
        have z1f1 := O.out.f 1
        replace FW := Lib.hid (FW.out.set2 hle (.bool false) (.slice none 0 0))
        replace P := Lib.hid (P.out.other hneP (.bool false) (.slice none 0 0))
        replace pc0 := P.out.c0
        replace pc1 := P.out.c1
        replace pl := P.out.lt
        replace pf0 := P.out.f 0
        replace pf1 := P.out.f 1
        replace R := Lib.hid (R.out.other hneR (.bool false) (.slice none 0 0))
        replace rc0 := R.out.c0
        replace rc1 := R.out.c1
        replace rl := R.out.lt
        replace rf0 := R.out.f 0
        replace rf1 := R.out.f 1
        replace O := Lib.hid (O.out.set (.bool false) (.slice none 0 0))
        replace oc0 := O.out.c0
        replace oc1 := O.out.c1
        replace ol := O.out.lt
        replace of0 := O.out.f 0
        replace of1 := O.out.f 1
        clear IO IA
        go_wp2
        refine bodyPost_ret (ret_iv2 rfl _ _ _ _ _ rfl (R.out.set _ _)) rfl ?_
        exact D.out _ (FW.out.set2 (by omega) _ _)
      | true =>
        rw [hf] at CK
        rw [hn3] at hf
        by_cases h2 : gk / 2 = 0
        · have h2b : ((gk : Int) / 2 == 0) = true := by rw [beq_iff_eq]; omega
          have HT2 := HT.out
          rw [pow_odd_end hodd hf h2, ← hn3, ← hs3] at HT2
          have D : Hid (∀ W a c, In W a c (lims n3) → Fr [] w W → PowI w T (.returned (.tuple #[.agg #[.bool s3, .slice a (lims n3).length c], .int .i64 0])) W) := Lib.hid (fun W a c h1 h => by rw [← HT2]; exact ⟨a, c, rfl, h1, h⟩)
          clear HT HT2 FT CM h2 hodd hj
          clear hf hs3 hn3
          go_wp2_with fail
          refine CK.out.mono ?_
          rintro e w3 ⟨a3, c3, rfl, I3, F3⟩
          replace I3 := Lib.hid I3
          replace P := Lib.hid (P.out.fr F3)
          replace pc0 := P.out.c0
          replace pc1 := P.out.c1
          replace pl := P.out.lt
          replace pf0 := P.out.f 0
          replace pf1 := P.out.f 1
          replace O := Lib.hid (O.out.fr F3)
          replace oc0 := O.out.c0
          replace oc1 := O.out.c1
          replace ol := O.out.lt
          replace of0 := O.out.f 0
          replace of1 := O.out.f 1
          replace R := Lib.hid (R.out.fr F3)
          replace rc0 := R.out.c0
          replace rc1 := R.out.c1
          replace rl := R.out.lt
          replace rf0 := R.out.f 0
          replace rf1 := R.out.f 1
          replace IO := Lib.hid (IO.out.keep F3)
          replace IA := Lib.hid (IA.out.keep F3)
          replace FW := Lib.hid (FW.out.same F3)
          clear F3 CK
          have z2c0 := O.out.c0
          have z2c1 := O.out.c1
          have z2f0 := O.out.f 0
          have z2f1 := O.out.f 1
          replace IA := Lib.hid (IA.out.set2 O.out (.bool s3) (.slice a3 (lims n3).length c3))
          replace I3 := Lib.hid (I3.out.set2 O.out (.bool s3) (.slice a3 (lims n3).length c3))
          replace FW := Lib.hid (FW.out.set2 hle (.bool s3) (.slice a3 (lims n3).length c3))
          replace P := Lib.hid (P.out.other hneP (.bool s3) (.slice a3 (lims n3).length c3))
          replace pc0 := P.out.c0
          replace pc1 := P.out.c1
          replace pl := P.out.lt
          replace pf0 := P.out.f 0
          replace pf1 := P.out.f 1
          replace R := Lib.hid (R.out.other hneR (.bool s3) (.slice a3 (lims n3).length c3))
          replace rc0 := R.out.c0
          replace rc1 := R.out.c1
          replace rl := R.out.lt
          replace rf0 := R.out.f 0
          replace rf1 := R.out.f 1
          replace O := Lib.hid (O.out.set (.bool s3) (.slice a3 (lims n3).length c3))
          replace oc0 := O.out.c0
          replace oc1 := O.out.c1
          replace ol := O.out.lt
          replace of0 := O.out.f 0
          replace of1 := O.out.f 1
          clear IO
          have IO := I3
          clear I3
          go_wp2
          refine bodyPost_ret (ret_iv2 rfl _ _ _ _ _ rfl (R.out.set _ _)) rfl ?_
          exact D.out _ _ _ (IO.out.set2 R.out _ _) (FW.out.set2 (by omega) _ _)
        · have h2b : ((gk : Int) / 2 == 0) = false := by rw [beq_eq_false_iff_ne]; omega
          obtain ⟨n4, hn4⟩ : ∃ x, x = na * na := ⟨_, rfl⟩
          obtain ⟨s4, hs4⟩ : ∃ x, x = sg (sa != sa) n4 := ⟨_, rfl⟩
          have C4 : Hid (∀ W a1 c1 a2 c2, In W a1 c1 (lims na) → In W a2 c2 (lims na) → Calls Tryd.prog 66 #[.agg #[.bool sa, .slice a1 (lims na).length c1], .agg #[.bool sa, .slice a2 (lims na).length c2]] W (CapI W (fits n4) s4 n4)) := Lib.hid (fun W a1 c1 a2 c2 h1 h2 => by rw [hs4, hn4]; exact CM.out W sa na a1 c1 sa na a2 c2 h1 h2 FT.out.2 FT.out.2)
          cases hg : fits n4 with
          | false =>
            have HT2 := HT.out
            rw [pow_odd_big hodd hf h2 (by rw [← hn4]; exact hg)] at HT2
            have D : Hid (∀ W, Fr [] w W → PowI w T (.returned (.tuple #[.agg #[.bool false, .slice none 0 0], .int .i64 11])) W) := Lib.hid (fun W h => by rw [← HT2]; exact ⟨rfl, h⟩)
            rw [hg] at C4
            clear HT HT2 FT CM h2 hodd hj hg hs4 hn4
            clear hf hs3 hn3
            go_wp2_with fail
            refine CK.out.mono ?_
            rintro e w3 ⟨a3, c3, rfl, I3, F3⟩
            replace I3 := Lib.hid I3
            replace P := Lib.hid (P.out.fr F3)
            replace pc0 := P.out.c0
            replace pc1 := P.out.c1
            replace pl := P.out.lt
            replace pf0 := P.out.f 0
            replace pf1 := P.out.f 1
            replace O := Lib.hid (O.out.fr F3)
            replace oc0 := O.out.c0
            replace oc1 := O.out.c1
            replace ol := O.out.lt
            replace of0 := O.out.f 0
            replace of1 := O.out.f 1
            replace R := Lib.hid (R.out.fr F3)
            replace rc0 := R.out.c0
            replace rc1 := R.out.c1
            replace rl := R.out.lt
            replace rf0 := R.out.f 0
            replace rf1 := R.out.f 1
            replace IO := Lib.hid (IO.out.keep F3)
            replace IA := Lib.hid (IA.out.keep F3)
            replace FW := Lib.hid (FW.out.same F3)
            clear F3 CK
            have z3c0 := O.out.c0
            have z3c1 := O.out.c1
            have z3f0 := O.out.f 0
            have z3f1 := O.out.f 1
            replace IA := Lib.hid (IA.out.set2 O.out (.bool s3) (.slice a3 (lims n3).length c3))
            replace I3 := Lib.hid (I3.out.set2 O.out (.bool s3) (.slice a3 (lims n3).length c3))
            replace FW := Lib.hid (FW.out.set2 hle (.bool s3) (.slice a3 (lims n3).length c3))
            replace P := Lib.hid (P.out.other hneP (.bool s3) (.slice a3 (lims n3).length c3))
            replace pc0 := P.out.c0
            replace pc1 := P.out.c1
            replace pl := P.out.lt
            replace pf0 := P.out.f 0
            replace pf1 := P.out.f 1
            replace R := Lib.hid (R.out.other hneR (.bool s3) (.slice a3 (lims n3).length c3))
            replace rc0 := R.out.c0
            replace rc1 := R.out.c1
            replace rl := R.out.lt
            replace rf0 := R.out.f 0
            replace rf1 := R.out.f 1
            replace O := Lib.hid (O.out.set (.bool s3) (.slice a3 (lims n3).length c3))
            replace oc0 := O.out.c0
            replace oc1 := O.out.c1
            replace ol := O.out.lt
            replace of0 := O.out.f 0
            replace of1 := O.out.f 1
            clear IO
            have IO := I3
            clear I3
            have CK := Lib.hid (C4.out _ _ _ _ _ IA.out IA.out)
            clear C4
            go_wp2_with fail
            refine CK.out.mono ?_
            rintro e w4 ⟨rfl, F4⟩
            replace P := Lib.hid (P.out.fr F4)
            replace pc0 := P.out.c0
            replace pc1 := P.out.c1
            replace pl := P.out.lt
            replace pf0 := P.out.f 0
            replace pf1 := P.out.f 1
            replace O := Lib.hid (O.out.fr F4)
            replace oc0 := O.out.c0
            replace oc1 := O.out.c1
            replace ol := O.out.lt
            replace of0 := O.out.f 0
            replace of1 := O.out.f 1
            replace R := Lib.hid (R.out.fr F4)
            replace rc0 := R.out.c0
            replace rc1 := R.out.c1
            replace rl := R.out.lt
            replace rf0 := R.out.f 0
            replace rf1 := R.out.f 1
            replace IO := Lib.hid (IO.out.keep F4)
            replace IA := Lib.hid (IA.out.keep F4)
            replace FW := Lib.hid (FW.out.same F4)
            clear F4 CK
            have z4c0 := P.out.c0
            have z4c1 := P.out.c1
            have z4f0 := P.out.f 0
            have z4f1 := P.out.f 1
            replace FW := Lib.hid (FW.out.set2 (Nat.le_refl _) (.bool false) (.slice none 0 0))
            replace O := Lib.hid (O.out.other hneO (.bool false) (.slice none 0 0))
            replace oc0 := O.out.c0
            replace oc1 := O.out.c1
            replace ol := O.out.lt
            replace of0 := O.out.f 0
            replace of1 := O.out.f 1
            replace R := Lib.hid (R.out.other hneQ (.bool false) (.slice none 0 0))
            replace rc0 := R.out.c0
            replace rc1 := R.out.c1
            replace rl := R.out.lt
            replace rf0 := R.out.f 0
            replace rf1 := R.out.f 1
            replace P := Lib.hid (P.out.set (.bool false) (.slice none 0 0))
            replace pc0 := P.out.c0
            replace pc1 := P.out.c1
            replace pl := P.out.lt
            replace pf0 := P.out.f 0
            replace pf1 := P.out.f 1
            clear IO IA
            go_wp2
            refine bodyPost_ret (ret_iv2 rfl _ _ _ _ _ rfl (R.out.set _ _)) rfl ?_
            exact D.out _ (FW.out.set2 (by omega) _ _)
          | true =>
            have HT2 := HT.out
            rw [pow_odd hodd hf h2 (by rw [← hn4]; exact hg), ← hn4, ← hs4, ← hn3, ← hs3] at HT2
            replace HT := Lib.hid HT2
            have FT2 : Hid (fits n3 = true ∧ fits n4 = true) := Lib.hid ⟨by rw [hn3]; exact hf, hg⟩
            have hj2 : Hid (gk / 2 ≤ 1000) := Lib.hid (by have := hj.out; omega)
            have hm : Hid (gk / 2 < gk) := Lib.hid (by omega)
            have hcast : Hid (((gk / 2 : Nat) : Int) = (gk : Int) / 2) := Lib.hid (by omega)
            rw [hg] at C4
            clear HT2 FT CM h2 hodd hj hg hs4 hn4
            clear hf hs3 hn3
            go_wp2_with fail
            refine CK.out.mono ?_
            rintro e w3 ⟨a3, c3, rfl, I3, F3⟩
            replace I3 := Lib.hid I3
            replace P := Lib.hid (P.out.fr F3)
            replace pc0 := P.out.c0
            replace pc1 := P.out.c1
            replace pl := P.out.lt
            replace pf0 := P.out.f 0
            replace pf1 := P.out.f 1
            replace O := Lib.hid (O.out.fr F3)
            replace oc0 := O.out.c0
            replace oc1 := O.out.c1
            replace ol := O.out.lt
            replace of0 := O.out.f 0
            replace of1 := O.out.f 1
            replace R := Lib.hid (R.out.fr F3)
            replace rc0 := R.out.c0
            replace rc1 := R.out.c1
            replace rl := R.out.lt
            replace rf0 := R.out.f 0
            replace rf1 := R.out.f 1
            replace IO := Lib.hid (IO.out.keep F3)
            replace IA := Lib.hid (IA.out.keep F3)
            replace FW := Lib.hid (FW.out.same F3)
            clear F3 CK
            have z5c0 := O.out.c0
            have z5c1 := O.out.c1
            have z5f0 := O.out.f 0
            have z5f1 := O.out.f 1
            replace IA := Lib.hid (IA.out.set2 O.out (.bool s3) (.slice a3 (lims n3).length c3))
            replace I3 := Lib.hid (I3.out.set2 O.out (.bool s3) (.slice a3 (lims n3).length c3))
            replace FW := Lib.hid (FW.out.set2 hle (.bool s3) (.slice a3 (lims n3).length c3))
            replace P := Lib.hid (P.out.other hneP (.bool s3) (.slice a3 (lims n3).length c3))
            replace pc0 := P.out.c0
            replace pc1 := P.out.c1
            replace pl := P.out.lt
            replace pf0 := P.out.f 0
            replace pf1 := P.out.f 1
            replace R := Lib.hid (R.out.other hneR (.bool s3) (.slice a3 (lims n3).length c3))
            replace rc0 := R.out.c0
            replace rc1 := R.out.c1
            replace rl := R.out.lt
            replace rf0 := R.out.f 0
            replace rf1 := R.out.f 1
            replace O := Lib.hid (O.out.set (.bool s3) (.slice a3 (lims n3).length c3))
            replace oc0 := O.out.c0
            replace oc1 := O.out.c1
            replace ol := O.out.lt
            replace of0 := O.out.f 0
            replace of1 := O.out.f 1
            clear IO
            have IO := I3
            clear I3
            have CK := Lib.hid (C4.out _ _ _ _ _ IA.out IA.out)
            clear C4
            go_wp2_with fail
            refine CK.out.mono ?_
            rintro e w4 ⟨a4, c4, rfl, I4, F4⟩
            replace I4 := Lib.hid I4
            replace P := Lib.hid (P.out.fr F4)
            replace pc0 := P.out.c0
            replace pc1 := P.out.c1
            replace pl := P.out.lt
            replace pf0 := P.out.f 0
            replace pf1 := P.out.f 1
            replace O := Lib.hid (O.out.fr F4)
            replace oc0 := O.out.c0
            replace oc1 := O.out.c1
            replace ol := O.out.lt
            replace of0 := O.out.f 0
            replace of1 := O.out.f 1
            replace R := Lib.hid (R.out.fr F4)
            replace rc0 := R.out.c0
            replace rc1 := R.out.c1
            replace rl := R.out.lt
            replace rf0 := R.out.f 0
            replace rf1 := R.out.f 1
            replace IO := Lib.hid (IO.out.keep F4)
            replace IA := Lib.hid (IA.out.keep F4)
            replace FW := Lib.hid (FW.out.same F4)
            clear F4 CK
            have z6c0 := P.out.c0
            have z6c1 := P.out.c1
            have z6f0 := P.out.f 0
            have z6f1 := P.out.f 1
            replace IO := Lib.hid (IO.out.set2 P.out (.bool s4) (.slice a4 (lims n4).length c4))
            replace I4 := Lib.hid (I4.out.set2 P.out (.bool s4) (.slice a4 (lims n4).length c4))
            replace FW := Lib.hid (FW.out.set2 (Nat.le_refl _) (.bool s4) (.slice a4 (lims n4).length c4))
            replace O := Lib.hid (O.out.other hneO (.bool s4) (.slice a4 (lims n4).length c4))
            replace oc0 := O.out.c0
            replace oc1 := O.out.c1
            replace ol := O.out.lt
            replace of0 := O.out.f 0
            replace of1 := O.out.f 1
            replace R := Lib.hid (R.out.other hneQ (.bool s4) (.slice a4 (lims n4).length c4))
            replace rc0 := R.out.c0
            replace rc1 := R.out.c1
            replace rl := R.out.lt
            replace rf0 := R.out.f 0
            replace rf1 := R.out.f 1
            replace P := Lib.hid (P.out.set (.bool s4) (.slice a4 (lims n4).length c4))
            replace pc0 := P.out.c0
            replace pc1 := P.out.c1
            replace pl := P.out.lt
            replace pf0 := P.out.f 0
            replace pf1 := P.out.f 1
            clear IA
            go_wp2_with fail
            go_roundg (gk / 2)
            case measure => exact hm.out
            case rel => exact ⟨s3, n3, _, _, s4, n4, a4, c4, by rw [hcast.out], hj2, IO, I4, P, O, R, FT2, HT, FW⟩
    · have hb : (bits BinOp.and IntKind.i64 (gk : Int) 1 == 1) = false := by rw [and_one gk hj.out, beq_eq_false_iff_ne]; omega
      by_cases h2 : gk / 2 = 0
      · have h2b : ((gk : Int) / 2 == 0) = true := by rw [beq_iff_eq]; omega
        have HT2 := HT.out
        rw [pow_even_end hodd h2] at HT2
        have D : Hid (∀ W a c, In W a c (lims no) → Fr [] w W → PowI w T (.returned (.tuple #[.agg #[.bool so, .slice a (lims no).length c], .int .i64 0])) W) := Lib.hid (fun W a c h1 h => by rw [← HT2]; exact ⟨a, c, rfl, h1, h⟩)
        clear HT HT2 FT CM h2 hodd hj
        go_wp2
        refine bodyPost_ret (ret_iv2 rfl _ _ _ _ _ rfl (R.out.set _ _)) rfl ?_
        exact D.out _ _ _ (IO.out.set2 R.out _ _) (FW.out.set2 (by omega) _ _)
      · have h2b : ((gk : Int) / 2 == 0) = false := by rw [beq_eq_false_iff_ne]; omega
        obtain ⟨n4, hn4⟩ : ∃ x, x = na * na := ⟨_, rfl⟩
        obtain ⟨s4, hs4⟩ : ∃ x, x = sg (sa != sa) n4 := ⟨_, rfl⟩
        have C4 : Hid (∀ W a1 c1 a2 c2, In W a1 c1 (lims na) → In W a2 c2 (lims na) → Calls Tryd.prog 66 #[.agg #[.bool sa, .slice a1 (lims na).length c1], .agg #[.bool sa, .slice a2 (lims na).length c2]] W (CapI W (fits n4) s4 n4)) := Lib.hid (fun W a1 c1 a2 c2 h1 h2 => by rw [hs4, hn4]; exact CM.out W sa na a1 c1 sa na a2 c2 h1 h2 FT.out.2 FT.out.2)
        cases hg : fits n4 with
        | false =>
          have HT2 := HT.out
          rw [pow_even_big hodd h2 (by rw [← hn4]; exact hg)] at HT2
          have D : Hid (∀ W, Fr [] w W → PowI w T (.returned (.tuple #[.agg #[.bool false, .slice none 0 0], .int .i64 11])) W) := Lib.hid (fun W h => by rw [← HT2]; exact ⟨rfl, h⟩)
          rw [hg] at C4
          clear HT HT2 FT CM h2 hodd hj hg hs4 hn4
          have CK := Lib.hid (C4.out _ _ _ _ _ IA.out IA.out)
          clear C4
          go_wp2_with fail
          refine CK.out.mono ?_
          rintro e w4 ⟨rfl, F4⟩
          replace P := Lib.hid (P.out.fr F4)
          replace pc0 := P.out.c0
          replace pc1 := P.out.c1
          replace pl := P.out.lt
          replace pf0 := P.out.f 0
          replace pf1 := P.out.f 1
          replace O := Lib.hid (O.out.fr F4)
          replace oc0 := O.out.c0
          replace oc1 := O.out.c1
          replace ol := O.out.lt
          replace of0 := O.out.f 0
          replace of1 := O.out.f 1
          replace R := Lib.hid (R.out.fr F4)
          replace rc0 := R.out.c0
          replace rc1 := R.out.c1
          replace rl := R.out.lt
          replace rf0 := R.out.f 0
          replace rf1 := R.out.f 1
          replace IO := Lib.hid (IO.out.keep F4)
          replace IA := Lib.hid (IA.out.keep F4)
          replace FW := Lib.hid (FW.out.same F4)
          clear F4 CK
          have z7c0 := P.out.c0
          have z7c1 := P.out.c1
          have z7f0 := P.out.f 0
          have z7f1 := P.out.f 1
          replace FW := Lib.hid (FW.out.set2 (Nat.le_refl _) (.bool false) (.slice none 0 0))
          replace O := Lib.hid (O.out.other hneO (.bool false) (.slice none 0 0))
          replace oc0 := O.out.c0
          replace oc1 := O.out.c1
          replace ol := O.out.lt
          replace of0 := O.out.f 0
          replace of1 := O.out.f 1
          replace R := Lib.hid (R.out.other hneQ (.bool false) (.slice none 0 0))
          replace rc0 := R.out.c0
          replace rc1 := R.out.c1
          replace rl := R.out.lt
          replace rf0 := R.out.f 0
          replace rf1 := R.out.f 1
          replace P := Lib.hid (P.out.set (.bool false) (.slice none 0 0))
          replace pc0 := P.out.c0
          replace pc1 := P.out.c1
          replace pl := P.out.lt
          replace pf0 := P.out.f 0
          replace pf1 := P.out.f 1
          clear IO IA
          go_wp2
          refine bodyPost_ret (ret_iv2 rfl _ _ _ _ _ rfl (R.out.set _ _)) rfl ?_
          exact D.out _ (FW.out.set2 (by omega) _ _)
        | true =>
          have HT2 := HT.out
          rw [pow_even hodd h2 (by rw [← hn4]; exact hg), ← hn4, ← hs4] at HT2
          replace HT := Lib.hid HT2
          have FT2 : Hid (fits no = true ∧ fits n4 = true) := Lib.hid ⟨FT.out.1, hg⟩
          have hj2 : Hid (gk / 2 ≤ 1000) := Lib.hid (by have := hj.out; omega)
          have hm : Hid (gk / 2 < gk) := Lib.hid (by omega)
          have hcast : Hid (((gk / 2 : Nat) : Int) = (gk : Int) / 2) := Lib.hid (by omega)
          rw [hg] at C4
          clear HT2 FT CM h2 hodd hj hg hs4 hn4
          have CK := Lib.hid (C4.out _ _ _ _ _ IA.out IA.out)
          clear C4
          go_wp2_with fail
          refine CK.out.mono ?_
          rintro e w4 ⟨a4, c4, rfl, I4, F4⟩
          replace I4 := Lib.hid I4
          replace P := Lib.hid (P.out.fr F4)
          replace pc0 := P.out.c0
          replace pc1 := P.out.c1
          replace pl := P.out.lt
          replace pf0 := P.out.f 0
          replace pf1 := P.out.f 1
          replace O := Lib.hid (O.out.fr F4)
          replace oc0 := O.out.c0
          replace oc1 := O.out.c1
          replace ol := O.out.lt
          replace of0 := O.out.f 0
          replace of1 := O.out.f 1
          replace R := Lib.hid (R.out.fr F4)
          replace rc0 := R.out.c0
          replace rc1 := R.out.c1
          replace rl := R.out.lt
          replace rf0 := R.out.f 0
          replace rf1 := R.out.f 1
          replace IO := Lib.hid (IO.out.keep F4)
          replace IA := Lib.hid (IA.out.keep F4)
          replace FW := Lib.hid (FW.out.same F4)
          clear F4 CK
          have z8c0 := P.out.c0
          have z8c1 := P.out.c1
          have z8f0 := P.out.f 0
          have z8f1 := P.out.f 1
          replace IO := Lib.hid (IO.out.set2 P.out (.bool s4) (.slice a4 (lims n4).length c4))
          replace I4 := Lib.hid (I4.out.set2 P.out (.bool s4) (.slice a4 (lims n4).length c4))
          replace FW := Lib.hid (FW.out.set2 (Nat.le_refl _) (.bool s4) (.slice a4 (lims n4).length c4))
          replace O := Lib.hid (O.out.other hneO (.bool s4) (.slice a4 (lims n4).length c4))
          replace oc0 := O.out.c0
          replace oc1 := O.out.c1
          replace ol := O.out.lt
          replace of0 := O.out.f 0
          replace of1 := O.out.f 1
          replace R := Lib.hid (R.out.other hneQ (.bool s4) (.slice a4 (lims n4).length c4))
          replace rc0 := R.out.c0
          replace rc1 := R.out.c1
          replace rl := R.out.lt
          replace rf0 := R.out.f 0
          replace rf1 := R.out.f 1
          replace P := Lib.hid (P.out.set (.bool s4) (.slice a4 (lims n4).length c4))
          replace pc0 := P.out.c0
          replace pc1 := P.out.c1
          replace pl := P.out.lt
          replace pf0 := P.out.f 0
          replace pf1 := P.out.f 1
          clear IA
          go_wp2_with fail
          go_roundg (gk / 2)
          case measure => exact hm.out
          case rel => exact ⟨so, no, _, _, s4, n4, a4, c4, by rw [hcast.out], hj2, IO, I4, P, O, R, FT2, HT, FW⟩
end Go.Proofs.YtladhmbidicncaaDoor
