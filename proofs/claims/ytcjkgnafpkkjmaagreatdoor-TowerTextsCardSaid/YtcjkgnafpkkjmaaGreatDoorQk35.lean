/- The texts and numbers of numbers: a part of the walk. No condition. -/
import Derived.Test.YtcjkgnafpkkjmaaGreatDoorQk34
set_option linter.all false
namespace Go.Proofs.YtcjkgnafpkkjmaaGreatDoor
section
open Go.ChangeShapes Go.WideShapes Go.RowKit
variable {w w' : World} {a a2 : Option Addr} {cap cap2 : Nat}
def NF (w : World) (t : Bool) (n : Nat) (z : Int) (e : Ending) (w' : World) : Prop :=
  ∃ a c, e = .returned (.tuple #[.agg #[.bool false, .float .f64 0, .bool t, .slice a (lims n).length c], .int .i64 z]) ∧ In w' a c (lims n) ∧ Fr [] w w'
set_option maxRecDepth 20000 in
theorem r4out_c (w : World) (t : Bool) (n : Nat) (z : Int) (h : In w a cap (lims n)) (hz : z ≠ 0 → t = false ∧ n = 0) : Calls Tryz.prog 44 #[.agg #[.bool t, .slice a (lims n).length cap], .int .i64 z] w (NF w t n z) := by
  have H := Lib.hid h
  clear h
  have hsf := sf_run
  by_cases h0 : z = 0
  · subst h0
    clear hz
    obtain ⟨l, hl⟩ : ∃ l, l = (lims n).length := ⟨_, rfl⟩
    have HL := Lib.hid hl
    rw [← hl]
    clear hl
    go_enter Tryz.func44, Tryz.ntmps44
    go_wp2
    refine bodyPost_ret (ret_nv2 rfl _ _ (w.heap.size + 1) _ _ _ _ rfl (by simp only [blk_alloc, size_alloc]; rw [if_pos trivial])) rfl ?_
    exact ⟨a, cap, by rw [HL.out]; rfl, H.out.keep (((Fr.refl [] w).alloc _).alloc _), ((Fr.refl [] w).alloc _).alloc _⟩
  · obtain ⟨rfl, rfl⟩ := hz h0
    have HE : Hid (lims 0 = []) := Lib.hid rfl
    obtain ⟨l, hl⟩ : ∃ l, l = (lims 0).length := ⟨_, rfl⟩
    have HL := Lib.hid hl
    rw [← hl]
    clear hl hz
    go_enter Tryz.func44, Tryz.ntmps44
    go_wp2
    refine bodyPost_ret (ret_nv2 rfl _ _ (w.heap.size + 1) _ _ _ _ rfl (by simp only [blk_alloc, size_alloc]; rw [if_pos trivial])) rfl ?_
    exact ⟨none, 0, by rw [HE.out]; rfl, (Nw.nil _ 0).in, ((Fr.refl [] w).alloc _).alloc _⟩
end
section
open Go.ChangeShapes Go.WideShapes Go.RowKit
variable {w w' w2 wr : World} {a b : Option Addr} {cap cap2 : Nat} {L M : List Nat} {B : Nat}
def cutS (l : List UInt8) : List UInt8 := match l with
  | [] => []
  | c :: t => if c.toNat = 43 ∨ c.toNat = 45 then t else c :: t
def negS (l : List UInt8) : Bool := match l with
  | [] => false
  | c :: _ => decide (c.toNat = 45)
def ParseI (w : World) (s : Bool) (l : List UInt8) (e : Ending) (w' : World) : Prop :=
  if parseE l = 0 then ∃ a cap, e = .returned (.tuple #[.agg #[.bool (sg s (numOf l)), .slice a (lims (numOf l)).length cap], .int .i64 0]) ∧ In w' a cap (lims (numOf l)) ∧ Fr [] w w'
  else e = .returned (.tuple #[.agg #[.bool false, .slice none 0 0], .int .i64 (parseE l : Int)]) ∧ Fr [] w w'
set_option maxRecDepth 100000 in
set_option maxHeartbeats 4000000 in
theorem eparse_c (w : World) (l : List UInt8) (hsz : l.length ≤ 100000) : Calls Tryz.prog 41 #[.string ⟨l.toArray⟩] w (ParseI w (negS l) (cutS l)) := by
  have F0 : Hid (Fr [] w (w.alloc (.cells #[.bool false, .slice none 0 0] 36))) := Lib.hid ((Fr.refl [] w).alloc _)
  have R : Hid (Bx (w.alloc (.cells #[.bool false, .slice none 0 0] 36)) w.heap.size (.bool false) (.slice none 0 0)) := Lib.hid (Bx.new _ _ _)
  have CS : Hid (∀ W s x a c, In W a c (lims x) → Calls Tryz.prog 83 #[.bool s, .slice a (lims x).length c] W (GivesI W (sg s x) x)) := Lib.hid (fun W s x a c h => signed_c W s x h)
  cases l with
  | nil =>
    obtain ⟨s, hs⟩ : ∃ s, s = false := ⟨_, rfl⟩
    obtain ⟨l', hl'⟩ : ∃ l', l' = ([] : List UInt8) := ⟨_, rfl⟩
    have hlen : l'.length ≤ 100000 := by rw [hl']; simp
    have CP : Hid (∀ W, Calls Tryz.prog 82 #[.string ⟨l'.toArray⟩] W (ParseR W l')) := Lib.hid (fun W => lparse_c W l' (by omega))
    have hs0 : (⟨#[]⟩ : ByteArray).size = 0 := rfl
    have HX : Hid ((⟨#[]⟩ : ByteArray) = ⟨l'.toArray⟩) := Lib.hid (by rw [hl'])
    have hnl : ¬ (0 : Int) < ((l'.length : Nat) : Int) := by rw [hl']; decide
    show Calls Tryz.prog 41 #[.string ⟨#[]⟩] w (ParseI w false [])
    rw [← hl', ← hs]
    clear hl'
    by_cases he : parseE l' = 0
    · have D : Hid (∀ W a c, In W a c (lims (numOf l')) → Fr [] w W → ParseI w s l' (.returned (.tuple #[.agg #[.bool (sg s (numOf l')), .slice a (lims (numOf l')).length c], .int .i64 0])) W) := Lib.hid (fun W a c h1 h2 => by unfold ParseI; rw [if_pos he]; exact ⟨a, c, rfl, h1, h2⟩)
      have RES : Hid (∀ W e w1, ParseR W l' e w1 → ∃ a c, e = .returned (.tuple #[.slice a (lims (numOf l')).length c, .int .i64 0]) ∧ In w1 a c (lims (numOf l')) ∧ Fr [] W w1) := Lib.hid (fun W e w1 h => by
        unfold ParseR at h; rw [if_pos he] at h; obtain ⟨a, c, h1, h2, h3⟩ := h; exact ⟨a, c, h1, h2.in, h3⟩)
      generalize numOf l' = x at *
      generalize parseE l' = pe at *
      have hs2 := hs
      subst hs
      clear he hs2
      go_enter Tryz.func41, Tryz.ntmps41
      go_wp2_with fail
      try rw [HX.out]
      refine (CP.out _).mono ?_
      intro e w1 h
      obtain ⟨a1, c1, rfl, J1, F1⟩ := RES.out _ _ _ h
      have R1 := Lib.hid (R.out.fr F1)
      have rc0 := R1.out.c0
      have rc1 := R1.out.c1
      have rl := R1.out.lt
      have rf0 := R1.out.f 0
      have rf1 := R1.out.f 1
      have FW := Lib.hid (F0.out.same F1)
      have CK := Lib.hid (CS.out w1 (false) x a1 c1 J1)
      clear h CP CS RES J1
      go_wp2_with fail
      refine CK.out.mono ?_
      rintro e w2 ⟨a2, c2, rfl, J2, F2⟩
      have R2 := Lib.hid (R1.out.fr F2)
      have sc0 := R2.out.c0
      have sc1 := R2.out.c1
      have sl := R2.out.lt
      have sf0 := R2.out.f 0
      have sf1 := R2.out.f 1
      have J2 := Lib.hid J2
      have FX := Lib.hid (FW.out.same F2)
      clear F2
      go_wp2
      refine bodyPost_ret (ret_iv2 rfl _ _ _ _ _ rfl (R2.out.set _ _)) rfl ?_
      exact D.out _ _ _ (J2.out.set2 R2.out _ _) (FX.out.set2 (Nat.le_refl _) _ _)
    · have hpe : (((parseE l' : Nat) : Int) == 0) = false := by rw [beq_eq_false_iff_ne]; omega
      have D : Hid (∀ W, Fr [] w W → ParseI w s l' (.returned (.tuple #[.agg #[.bool false, .slice none 0 0], .int .i64 (parseE l' : Int)])) W) := Lib.hid (fun W h2 => by unfold ParseI; rw [if_neg he]; exact ⟨rfl, h2⟩)
      have RES : Hid (∀ W e w1, ParseR W l' e w1 → e = .returned (.tuple #[.slice none 0 0, .int .i64 (parseE l' : Int)]) ∧ Fr [] W w1) := Lib.hid (fun W e w1 h => by unfold ParseR at h; rwa [if_neg he] at h)
      generalize numOf l' = x at *
      generalize parseE l' = pe at *
      have hs2 := hs
      subst hs
      clear he hs2
      go_enter Tryz.func41, Tryz.ntmps41
      go_wp2_with fail
      try rw [HX.out]
      refine (CP.out _).mono ?_
      intro e w1 h
      obtain ⟨rfl, F1⟩ := RES.out _ _ _ h
      have R1 := Lib.hid (R.out.fr F1)
      have rc0 := R1.out.c0
      have rc1 := R1.out.c1
      have rl := R1.out.lt
      have rf0 := R1.out.f 0
      have rf1 := R1.out.f 1
      have FW := Lib.hid (F0.out.same F1)
      clear h CP CS RES
      go_wp2
      refine bodyPost_ret (ret_iv2 rfl _ _ _ _ _ rfl (R1.out.set _ _)) rfl ?_
      exact D.out _ (FW.out.set2 (Nat.le_refl _) _ _)
  | cons c t =>
    have hlt : t.length + 1 ≤ 100000 := by simpa using hsz
    obtain ⟨bs, hbs⟩ : ∃ bs : ByteArray, bs = ⟨(c :: t).toArray⟩ := ⟨_, rfl⟩
    have hss : bs.size = t.length + 1 := by rw [hbs]; simp [ByteArray.size]
    have hxx : bs.extract 1 (t.length + 1) = ⟨t.toArray⟩ := by rw [hbs]; apply ByteArray.ext; simp
    have hb0 : ∀ h : 0 < bs.size, (bs[0]'h).toNat = c.toNat := by subst hbs; intro h; rfl
    have hb1 : (⟨(c :: t).toArray⟩ : ByteArray) = bs := hbs.symm
    rw [hb1]
    by_cases c43 : c.toNat = 43
    · obtain ⟨s, hs⟩ : ∃ s, s = false := ⟨_, rfl⟩
      obtain ⟨l', hl'⟩ : ∃ l', l' = t := ⟨_, rfl⟩
      have hlen : l'.length ≤ 100000 := by rw [hl']; omega
      have CP : Hid (∀ W, Calls Tryz.prog 82 #[.string ⟨l'.toArray⟩] W (ParseR W l')) := Lib.hid (fun W => lparse_c W l' (by omega))
      have HX : Hid ((⟨t.toArray⟩ : ByteArray) = ⟨l'.toArray⟩) := Lib.hid (by rw [hl'])
      have e1 : negS (c :: t) = false := by show decide (c.toNat = 45) = _; rw [c43]; rfl
      have e2 : cutS (c :: t) = l' := by rw [hl']; exact if_pos (by omega)
      have hb : ∀ h : 0 < bs.size, (bs[0]'h).toNat = 43 := fun h => by rw [hb0 h, c43]
      rw [e1, e2]
      rw [← hl'] at hxx hss
      have b1 : (1 : Int) ≤ (l'.length : Int) + 1 := by omega
      have b2 : (0 : Int) < (l'.length : Int) + 1 := by omega
      rw [← hs]
      clear e1 e2 hb0 c43 hl' hb1 hbs hsz
      by_cases he : parseE l' = 0
      · have D : Hid (∀ W a c, In W a c (lims (numOf l')) → Fr [] w W → ParseI w s l' (.returned (.tuple #[.agg #[.bool (sg s (numOf l')), .slice a (lims (numOf l')).length c], .int .i64 0])) W) := Lib.hid (fun W a c h1 h2 => by unfold ParseI; rw [if_pos he]; exact ⟨a, c, rfl, h1, h2⟩)
        have RES : Hid (∀ W e w1, ParseR W l' e w1 → ∃ a c, e = .returned (.tuple #[.slice a (lims (numOf l')).length c, .int .i64 0]) ∧ In w1 a c (lims (numOf l')) ∧ Fr [] W w1) := Lib.hid (fun W e w1 h => by
          unfold ParseR at h; rw [if_pos he] at h; obtain ⟨a, c, h1, h2, h3⟩ := h; exact ⟨a, c, h1, h2.in, h3⟩)
        generalize numOf l' = x at *
        generalize parseE l' = pe at *
        subst hs
        clear he
        go_enter Tryz.func41, Tryz.ntmps41
        go_wp2_with fail
        go_region_held3 (fun _ => True) (trivial) (fail)
        go_wp2_with fail
        try rw [HX.out]
        refine (CP.out _).mono ?_
        intro e w1 h
        obtain ⟨a1, c1, rfl, J1, F1⟩ := RES.out _ _ _ h
        have R1 := Lib.hid ((R.out.fr (Fr.refl [] _).drew).fr F1)
        have rc0 := R1.out.c0
        have rc1 := R1.out.c1
        have rl := R1.out.lt
        have rf0 := R1.out.f 0
        have rf1 := R1.out.f 1
        have FW := Lib.hid (F0.out.drew.same F1)
        have CK := Lib.hid (CS.out w1 (false) x a1 c1 J1)
        clear h CP CS RES J1
        go_wp2_with fail
        refine CK.out.mono ?_
        rintro e w2 ⟨a2, c2, rfl, J2, F2⟩
        have R2 := Lib.hid (R1.out.fr F2)
        have sc0 := R2.out.c0
        have sc1 := R2.out.c1
        have sl := R2.out.lt
        have sf0 := R2.out.f 0
        have sf1 := R2.out.f 1
        have J2 := Lib.hid J2
        have FX := Lib.hid (FW.out.same F2)
        clear F2
        go_wp2
        refine bodyPost_ret (ret_iv2 rfl _ _ _ _ _ rfl (R2.out.set _ _)) rfl ?_
        exact D.out _ _ _ (J2.out.set2 R2.out _ _) (FX.out.set2 (Nat.le_refl _) _ _)
      · have hpe : (((parseE l' : Nat) : Int) == 0) = false := by rw [beq_eq_false_iff_ne]; omega
        have D : Hid (∀ W, Fr [] w W → ParseI w s l' (.returned (.tuple #[.agg #[.bool false, .slice none 0 0], .int .i64 (parseE l' : Int)])) W) := Lib.hid (fun W h2 => by unfold ParseI; rw [if_neg he]; exact ⟨rfl, h2⟩)
        have RES : Hid (∀ W e w1, ParseR W l' e w1 → e = .returned (.tuple #[.slice none 0 0, .int .i64 (parseE l' : Int)]) ∧ Fr [] W w1) := Lib.hid (fun W e w1 h => by unfold ParseR at h; rwa [if_neg he] at h)
        generalize numOf l' = x at *
        generalize parseE l' = pe at *
        subst hs
        clear he
        go_enter Tryz.func41, Tryz.ntmps41
        go_wp2_with fail
        go_region_held3 (fun _ => True) (trivial) (fail)
        go_wp2_with fail
        try rw [HX.out]
        refine (CP.out _).mono ?_
        intro e w1 h
        obtain ⟨rfl, F1⟩ := RES.out _ _ _ h
        have R1 := Lib.hid ((R.out.fr (Fr.refl [] _).drew).fr F1)
        have rc0 := R1.out.c0
        have rc1 := R1.out.c1
        have rl := R1.out.lt
        have rf0 := R1.out.f 0
        have rf1 := R1.out.f 1
        have FW := Lib.hid (F0.out.drew.same F1)
        clear h CP CS RES
        go_wp2
        refine bodyPost_ret (ret_iv2 rfl _ _ _ _ _ rfl (R1.out.set _ _)) rfl ?_
        exact D.out _ (FW.out.set2 (Nat.le_refl _) _ _)
    · by_cases c45 : c.toNat = 45
      · obtain ⟨s, hs⟩ : ∃ s, s = true := ⟨_, rfl⟩
        obtain ⟨l', hl'⟩ : ∃ l', l' = t := ⟨_, rfl⟩
        have hlen : l'.length ≤ 100000 := by rw [hl']; omega
        have CP : Hid (∀ W, Calls Tryz.prog 82 #[.string ⟨l'.toArray⟩] W (ParseR W l')) := Lib.hid (fun W => lparse_c W l' (by omega))
        have HX : Hid ((⟨t.toArray⟩ : ByteArray) = ⟨l'.toArray⟩) := Lib.hid (by rw [hl'])
        have e1 : negS (c :: t) = true := by show decide (c.toNat = 45) = _; rw [c45]; rfl
        have e2 : cutS (c :: t) = l' := by rw [hl']; exact if_pos (by omega)
        have hb : ∀ h : 0 < bs.size, (bs[0]'h).toNat = 45 := fun h => by rw [hb0 h, c45]
        rw [e1, e2]
        rw [← hl'] at hxx hss
        have b1 : (1 : Int) ≤ (l'.length : Int) + 1 := by omega
        have b2 : (0 : Int) < (l'.length : Int) + 1 := by omega
        rw [← hs]
        clear e1 e2 hb0 c45 hl' hb1 hbs hsz
        by_cases he : parseE l' = 0
        · have D : Hid (∀ W a c, In W a c (lims (numOf l')) → Fr [] w W → ParseI w s l' (.returned (.tuple #[.agg #[.bool (sg s (numOf l')), .slice a (lims (numOf l')).length c], .int .i64 0])) W) := Lib.hid (fun W a c h1 h2 => by unfold ParseI; rw [if_pos he]; exact ⟨a, c, rfl, h1, h2⟩)
          have RES : Hid (∀ W e w1, ParseR W l' e w1 → ∃ a c, e = .returned (.tuple #[.slice a (lims (numOf l')).length c, .int .i64 0]) ∧ In w1 a c (lims (numOf l')) ∧ Fr [] W w1) := Lib.hid (fun W e w1 h => by
            unfold ParseR at h; rw [if_pos he] at h; obtain ⟨a, c, h1, h2, h3⟩ := h; exact ⟨a, c, h1, h2.in, h3⟩)
          generalize numOf l' = x at *
          generalize parseE l' = pe at *
          subst hs
          clear he
          go_enter Tryz.func41, Tryz.ntmps41
          go_wp2_with fail
          go_region_held3 (fun _ => True) (trivial) (fail)
          go_wp2_with fail
          try rw [HX.out]
          refine (CP.out _).mono ?_
          intro e w1 h
          obtain ⟨a1, c1, rfl, J1, F1⟩ := RES.out _ _ _ h
          have R1 := Lib.hid ((R.out.fr (Fr.refl [] _).drew).fr F1)
          have rc0 := R1.out.c0
          have rc1 := R1.out.c1
          have rl := R1.out.lt
          have rf0 := R1.out.f 0
          have rf1 := R1.out.f 1
          have FW := Lib.hid (F0.out.drew.same F1)
          have CK := Lib.hid (CS.out w1 (true) x a1 c1 J1)
          clear h CP CS RES J1
          go_wp2_with fail
          refine CK.out.mono ?_
          rintro e w2 ⟨a2, c2, rfl, J2, F2⟩
          have R2 := Lib.hid (R1.out.fr F2)
          have sc0 := R2.out.c0
          have sc1 := R2.out.c1
          have sl := R2.out.lt
          have sf0 := R2.out.f 0
          have sf1 := R2.out.f 1
          have J2 := Lib.hid J2
          have FX := Lib.hid (FW.out.same F2)
          clear F2
          go_wp2
          refine bodyPost_ret (ret_iv2 rfl _ _ _ _ _ rfl (R2.out.set _ _)) rfl ?_
          exact D.out _ _ _ (J2.out.set2 R2.out _ _) (FX.out.set2 (Nat.le_refl _) _ _)
        · have hpe : (((parseE l' : Nat) : Int) == 0) = false := by rw [beq_eq_false_iff_ne]; omega
          have D : Hid (∀ W, Fr [] w W → ParseI w s l' (.returned (.tuple #[.agg #[.bool false, .slice none 0 0], .int .i64 (parseE l' : Int)])) W) := Lib.hid (fun W h2 => by unfold ParseI; rw [if_neg he]; exact ⟨rfl, h2⟩)
          have RES : Hid (∀ W e w1, ParseR W l' e w1 → e = .returned (.tuple #[.slice none 0 0, .int .i64 (parseE l' : Int)]) ∧ Fr [] W w1) := Lib.hid (fun W e w1 h => by unfold ParseR at h; rwa [if_neg he] at h)
          generalize numOf l' = x at *
          generalize parseE l' = pe at *
          subst hs
          clear he
          go_enter Tryz.func41, Tryz.ntmps41
          go_wp2_with fail
          go_region_held3 (fun _ => True) (trivial) (fail)
          go_wp2_with fail
          try rw [HX.out]
          refine (CP.out _).mono ?_
          intro e w1 h
          obtain ⟨rfl, F1⟩ := RES.out _ _ _ h
          have R1 := Lib.hid ((R.out.fr (Fr.refl [] _).drew).fr F1)
          have rc0 := R1.out.c0
          have rc1 := R1.out.c1
          have rl := R1.out.lt
          have rf0 := R1.out.f 0
          have rf1 := R1.out.f 1
          have FW := Lib.hid (F0.out.drew.same F1)
          clear h CP CS RES
          go_wp2
          refine bodyPost_ret (ret_iv2 rfl _ _ _ _ _ rfl (R1.out.set _ _)) rfl ?_
          exact D.out _ (FW.out.set2 (Nat.le_refl _) _ _)
      · obtain ⟨s, hs⟩ : ∃ s, s = false := ⟨_, rfl⟩
        obtain ⟨l', hl'⟩ : ∃ l', l' = (c :: t) := ⟨_, rfl⟩
        have hlen : l'.length ≤ 100000 := by rw [hl']; simp; omega
        have CP : Hid (∀ W, Calls Tryz.prog 82 #[.string ⟨l'.toArray⟩] W (ParseR W l')) := Lib.hid (fun W => lparse_c W l' (by omega))
        have HX : Hid (bs = ⟨l'.toArray⟩) := Lib.hid (by rw [hl', hbs])
        obtain ⟨cn, hcn⟩ : ∃ cn, cn = c.toNat := ⟨_, rfl⟩
        have e1 : negS (c :: t) = false := by show decide (c.toNat = 45) = _; simp [c45]
        have e2 : cutS (c :: t) = l' := by rw [hl']; exact if_neg (by omega)
        have hb : ∀ h : 0 < bs.size, (bs[0]'h).toNat = cn := fun h => by rw [hb0 h, hcn]
        have z43 : ((cn : Int) == 43) = false := by rw [beq_eq_false_iff_ne]; omega
        have z45 : ((cn : Int) == 45) = false := by rw [beq_eq_false_iff_ne]; omega
        have b2 : (0 : Int) < (t.length : Int) + 1 := by omega
        rw [e1, e2]
        rw [← hs]
        clear e1 e2 hb0 c43 c45 hl' hb1 hbs hsz hcn hxx
        by_cases he : parseE l' = 0
        · have D : Hid (∀ W a c, In W a c (lims (numOf l')) → Fr [] w W → ParseI w s l' (.returned (.tuple #[.agg #[.bool (sg s (numOf l')), .slice a (lims (numOf l')).length c], .int .i64 0])) W) := Lib.hid (fun W a c h1 h2 => by unfold ParseI; rw [if_pos he]; exact ⟨a, c, rfl, h1, h2⟩)
          have RES : Hid (∀ W e w1, ParseR W l' e w1 → ∃ a c, e = .returned (.tuple #[.slice a (lims (numOf l')).length c, .int .i64 0]) ∧ In w1 a c (lims (numOf l')) ∧ Fr [] W w1) := Lib.hid (fun W e w1 h => by
            unfold ParseR at h; rw [if_pos he] at h; obtain ⟨a, c, h1, h2, h3⟩ := h; exact ⟨a, c, h1, h2.in, h3⟩)
          generalize numOf l' = x at *
          generalize parseE l' = pe at *
          subst hs
          clear he
          go_enter Tryz.func41, Tryz.ntmps41
          go_wp2_with fail
          try rw [HX.out]
          refine (CP.out _).mono ?_
          intro e w1 h
          obtain ⟨a1, c1, rfl, J1, F1⟩ := RES.out _ _ _ h
          have R1 := Lib.hid (R.out.fr F1)
          have rc0 := R1.out.c0
          have rc1 := R1.out.c1
          have rl := R1.out.lt
          have rf0 := R1.out.f 0
          have rf1 := R1.out.f 1
          have FW := Lib.hid (F0.out.same F1)
          have CK := Lib.hid (CS.out w1 (false) x a1 c1 J1)
          clear h CP CS RES J1
          go_wp2_with fail
          refine CK.out.mono ?_
          rintro e w2 ⟨a2, c2, rfl, J2, F2⟩
          have R2 := Lib.hid (R1.out.fr F2)
          have sc0 := R2.out.c0
          have sc1 := R2.out.c1
          have sl := R2.out.lt
          have sf0 := R2.out.f 0
          have sf1 := R2.out.f 1
          have J2 := Lib.hid J2
          have FX := Lib.hid (FW.out.same F2)
          clear F2
          go_wp2
          refine bodyPost_ret (ret_iv2 rfl _ _ _ _ _ rfl (R2.out.set _ _)) rfl ?_
          exact D.out _ _ _ (J2.out.set2 R2.out _ _) (FX.out.set2 (Nat.le_refl _) _ _)
        · have hpe : (((parseE l' : Nat) : Int) == 0) = false := by rw [beq_eq_false_iff_ne]; omega
          have D : Hid (∀ W, Fr [] w W → ParseI w s l' (.returned (.tuple #[.agg #[.bool false, .slice none 0 0], .int .i64 (parseE l' : Int)])) W) := Lib.hid (fun W h2 => by unfold ParseI; rw [if_neg he]; exact ⟨rfl, h2⟩)
          have RES : Hid (∀ W e w1, ParseR W l' e w1 → e = .returned (.tuple #[.slice none 0 0, .int .i64 (parseE l' : Int)]) ∧ Fr [] W w1) := Lib.hid (fun W e w1 h => by unfold ParseR at h; rwa [if_neg he] at h)
          generalize numOf l' = x at *
          generalize parseE l' = pe at *
          subst hs
          clear he
          go_enter Tryz.func41, Tryz.ntmps41
          go_wp2_with fail
          try rw [HX.out]
          refine (CP.out _).mono ?_
          intro e w1 h
          obtain ⟨rfl, F1⟩ := RES.out _ _ _ h
          have R1 := Lib.hid (R.out.fr F1)
          have rc0 := R1.out.c0
          have rc1 := R1.out.c1
          have rl := R1.out.lt
          have rf0 := R1.out.f 0
          have rf1 := R1.out.f 1
          have FW := Lib.hid (F0.out.same F1)
          clear h CP CS RES
          go_wp2
          refine bodyPost_ret (ret_iv2 rfl _ _ _ _ _ rfl (R1.out.set _ _)) rfl ?_
          exact D.out _ (FW.out.set2 (Nat.le_refl _) _ _)
set_option maxRecDepth 100000 in
set_option maxHeartbeats 4000000 in
theorem r2parse_c (w : World) (l : List UInt8) (hsz : l.length ≤ 100000) : Calls Tryz.prog 43 #[.string ⟨l.toArray⟩] w (ParseI w (negS l) (cutS l)) := by
  have F0 : Hid (Fr [] w (w.alloc (.cells #[.bool false, .slice none 0 0] 36))) := Lib.hid ((Fr.refl [] w).alloc _)
  have R : Hid (Bx (w.alloc (.cells #[.bool false, .slice none 0 0] 36)) w.heap.size (.bool false) (.slice none 0 0)) := Lib.hid (Bx.new _ _ _)
  have CS : Hid (∀ W s x a c, In W a c (lims x) → Calls Tryz.prog 85 #[.bool s, .slice a (lims x).length c] W (GivesI W (sg s x) x)) := Lib.hid (fun W s x a c h => made_c W s x h)
  cases l with
  | nil =>
    obtain ⟨s, hs⟩ : ∃ s, s = false := ⟨_, rfl⟩
    obtain ⟨l', hl'⟩ : ∃ l', l' = ([] : List UInt8) := ⟨_, rfl⟩
    have hlen : l'.length ≤ 100000 := by rw [hl']; simp
    have CP : Hid (∀ W, Calls Tryz.prog 84 #[.string ⟨l'.toArray⟩] W (ParseR W l')) := Lib.hid (fun W => r1parse_c W l' (by omega))
    have hs0 : (⟨#[]⟩ : ByteArray).size = 0 := rfl
    have HX : Hid ((⟨#[]⟩ : ByteArray) = ⟨l'.toArray⟩) := Lib.hid (by rw [hl'])
    have hnl : ¬ (0 : Int) < ((l'.length : Nat) : Int) := by rw [hl']; decide
    show Calls Tryz.prog 43 #[.string ⟨#[]⟩] w (ParseI w false [])
    rw [← hl', ← hs]
    clear hl'
    by_cases he : parseE l' = 0
    · have D : Hid (∀ W a c, In W a c (lims (numOf l')) → Fr [] w W → ParseI w s l' (.returned (.tuple #[.agg #[.bool (sg s (numOf l')), .slice a (lims (numOf l')).length c], .int .i64 0])) W) := Lib.hid (fun W a c h1 h2 => by unfold ParseI; rw [if_pos he]; exact ⟨a, c, rfl, h1, h2⟩)
      have RES : Hid (∀ W e w1, ParseR W l' e w1 → ∃ a c, e = .returned (.tuple #[.slice a (lims (numOf l')).length c, .int .i64 0]) ∧ In w1 a c (lims (numOf l')) ∧ Fr [] W w1) := Lib.hid (fun W e w1 h => by
        unfold ParseR at h; rw [if_pos he] at h; obtain ⟨a, c, h1, h2, h3⟩ := h; exact ⟨a, c, h1, h2.in, h3⟩)
      generalize numOf l' = x at *
      generalize parseE l' = pe at *
      have hs2 := hs
      subst hs
      clear he hs2
      go_enter Tryz.func43, Tryz.ntmps43
      go_wp2_with fail
      try rw [HX.out]
      refine (CP.out _).mono ?_
      intro e w1 h
      obtain ⟨a1, c1, rfl, J1, F1⟩ := RES.out _ _ _ h
      have R1 := Lib.hid (R.out.fr F1)
      have rc0 := R1.out.c0
      have rc1 := R1.out.c1
      have rl := R1.out.lt
      have rf0 := R1.out.f 0
      have rf1 := R1.out.f 1
      have FW := Lib.hid (F0.out.same F1)
      have CK := Lib.hid (CS.out w1 (false) x a1 c1 J1)
      clear h CP CS RES J1
      go_wp2_with fail
      refine CK.out.mono ?_
      rintro e w2 ⟨a2, c2, rfl, J2, F2⟩
      have R2 := Lib.hid (R1.out.fr F2)
      have sc0 := R2.out.c0
      have sc1 := R2.out.c1
      have sl := R2.out.lt
      have sf0 := R2.out.f 0
      have sf1 := R2.out.f 1
      have J2 := Lib.hid J2
      have FX := Lib.hid (FW.out.same F2)
      clear F2
      go_wp2
      refine bodyPost_ret (ret_iv2 rfl _ _ _ _ _ rfl (R2.out.set _ _)) rfl ?_
      exact D.out _ _ _ (J2.out.set2 R2.out _ _) (FX.out.set2 (Nat.le_refl _) _ _)
    · have hpe : (((parseE l' : Nat) : Int) == 0) = false := by rw [beq_eq_false_iff_ne]; omega
      have D : Hid (∀ W, Fr [] w W → ParseI w s l' (.returned (.tuple #[.agg #[.bool false, .slice none 0 0], .int .i64 (parseE l' : Int)])) W) := Lib.hid (fun W h2 => by unfold ParseI; rw [if_neg he]; exact ⟨rfl, h2⟩)
      have RES : Hid (∀ W e w1, ParseR W l' e w1 → e = .returned (.tuple #[.slice none 0 0, .int .i64 (parseE l' : Int)]) ∧ Fr [] W w1) := Lib.hid (fun W e w1 h => by unfold ParseR at h; rwa [if_neg he] at h)
      generalize numOf l' = x at *
      generalize parseE l' = pe at *
      have hs2 := hs
      subst hs
      clear he hs2
      go_enter Tryz.func43, Tryz.ntmps43
      go_wp2_with fail
      try rw [HX.out]
      refine (CP.out _).mono ?_
      intro e w1 h
      obtain ⟨rfl, F1⟩ := RES.out _ _ _ h
      have R1 := Lib.hid (R.out.fr F1)
      have rc0 := R1.out.c0
      have rc1 := R1.out.c1
      have rl := R1.out.lt
      have rf0 := R1.out.f 0
      have rf1 := R1.out.f 1
      have FW := Lib.hid (F0.out.same F1)
      clear h CP CS RES
      go_wp2
      refine bodyPost_ret (ret_iv2 rfl _ _ _ _ _ rfl (R1.out.set _ _)) rfl ?_
      exact D.out _ (FW.out.set2 (Nat.le_refl _) _ _)
  | cons c t =>
    have hlt : t.length + 1 ≤ 100000 := by simpa using hsz
    obtain ⟨bs, hbs⟩ : ∃ bs : ByteArray, bs = ⟨(c :: t).toArray⟩ := ⟨_, rfl⟩
    have hss : bs.size = t.length + 1 := by rw [hbs]; simp [ByteArray.size]
    have hxx : bs.extract 1 (t.length + 1) = ⟨t.toArray⟩ := by rw [hbs]; apply ByteArray.ext; simp
    have hb0 : ∀ h : 0 < bs.size, (bs[0]'h).toNat = c.toNat := by subst hbs; intro h; rfl
    have hb1 : (⟨(c :: t).toArray⟩ : ByteArray) = bs := hbs.symm
    rw [hb1]
    by_cases c43 : c.toNat = 43
    · obtain ⟨s, hs⟩ : ∃ s, s = false := ⟨_, rfl⟩
      obtain ⟨l', hl'⟩ : ∃ l', l' = t := ⟨_, rfl⟩
      have hlen : l'.length ≤ 100000 := by rw [hl']; omega
      have CP : Hid (∀ W, Calls Tryz.prog 84 #[.string ⟨l'.toArray⟩] W (ParseR W l')) := Lib.hid (fun W => r1parse_c W l' (by omega))
      have HX : Hid ((⟨t.toArray⟩ : ByteArray) = ⟨l'.toArray⟩) := Lib.hid (by rw [hl'])
      have e1 : negS (c :: t) = false := by show decide (c.toNat = 45) = _; rw [c43]; rfl
      have e2 : cutS (c :: t) = l' := by rw [hl']; exact if_pos (by omega)
      have hb : ∀ h : 0 < bs.size, (bs[0]'h).toNat = 43 := fun h => by rw [hb0 h, c43]
      rw [e1, e2]
      rw [← hl'] at hxx hss
      have b1 : (1 : Int) ≤ (l'.length : Int) + 1 := by omega
      have b2 : (0 : Int) < (l'.length : Int) + 1 := by omega
      rw [← hs]
      clear e1 e2 hb0 c43 hl' hb1 hbs hsz
      by_cases he : parseE l' = 0
      · have D : Hid (∀ W a c, In W a c (lims (numOf l')) → Fr [] w W → ParseI w s l' (.returned (.tuple #[.agg #[.bool (sg s (numOf l')), .slice a (lims (numOf l')).length c], .int .i64 0])) W) := Lib.hid (fun W a c h1 h2 => by unfold ParseI; rw [if_pos he]; exact ⟨a, c, rfl, h1, h2⟩)
        have RES : Hid (∀ W e w1, ParseR W l' e w1 → ∃ a c, e = .returned (.tuple #[.slice a (lims (numOf l')).length c, .int .i64 0]) ∧ In w1 a c (lims (numOf l')) ∧ Fr [] W w1) := Lib.hid (fun W e w1 h => by
          unfold ParseR at h; rw [if_pos he] at h; obtain ⟨a, c, h1, h2, h3⟩ := h; exact ⟨a, c, h1, h2.in, h3⟩)
        generalize numOf l' = x at *
        generalize parseE l' = pe at *
        subst hs
        clear he
        go_enter Tryz.func43, Tryz.ntmps43
        go_wp2_with fail
        try rw [HX.out]
        refine (CP.out _).mono ?_
        intro e w1 h
        obtain ⟨a1, c1, rfl, J1, F1⟩ := RES.out _ _ _ h
        have R1 := Lib.hid (R.out.fr F1)
        have rc0 := R1.out.c0
        have rc1 := R1.out.c1
        have rl := R1.out.lt
        have rf0 := R1.out.f 0
        have rf1 := R1.out.f 1
        have FW := Lib.hid (F0.out.same F1)
        have CK := Lib.hid (CS.out w1 (false) x a1 c1 J1)
        clear h CP CS RES J1
        go_wp2_with fail
        refine CK.out.mono ?_
        rintro e w2 ⟨a2, c2, rfl, J2, F2⟩
        have R2 := Lib.hid (R1.out.fr F2)
        have sc0 := R2.out.c0
        have sc1 := R2.out.c1
        have sl := R2.out.lt
        have sf0 := R2.out.f 0
        have sf1 := R2.out.f 1
        have J2 := Lib.hid J2
        have FX := Lib.hid (FW.out.same F2)
        clear F2
        go_wp2
        refine bodyPost_ret (ret_iv2 rfl _ _ _ _ _ rfl (R2.out.set _ _)) rfl ?_
        exact D.out _ _ _ (J2.out.set2 R2.out _ _) (FX.out.set2 (Nat.le_refl _) _ _)
      · have hpe : (((parseE l' : Nat) : Int) == 0) = false := by rw [beq_eq_false_iff_ne]; omega
        have D : Hid (∀ W, Fr [] w W → ParseI w s l' (.returned (.tuple #[.agg #[.bool false, .slice none 0 0], .int .i64 (parseE l' : Int)])) W) := Lib.hid (fun W h2 => by unfold ParseI; rw [if_neg he]; exact ⟨rfl, h2⟩)
        have RES : Hid (∀ W e w1, ParseR W l' e w1 → e = .returned (.tuple #[.slice none 0 0, .int .i64 (parseE l' : Int)]) ∧ Fr [] W w1) := Lib.hid (fun W e w1 h => by unfold ParseR at h; rwa [if_neg he] at h)
        generalize numOf l' = x at *
        generalize parseE l' = pe at *
        subst hs
        clear he
        go_enter Tryz.func43, Tryz.ntmps43
        go_wp2_with fail
        try rw [HX.out]
        refine (CP.out _).mono ?_
        intro e w1 h
        obtain ⟨rfl, F1⟩ := RES.out _ _ _ h
        have R1 := Lib.hid (R.out.fr F1)
        have rc0 := R1.out.c0
        have rc1 := R1.out.c1
        have rl := R1.out.lt
        have rf0 := R1.out.f 0
        have rf1 := R1.out.f 1
        have FW := Lib.hid (F0.out.same F1)
        clear h CP CS RES
        go_wp2
        refine bodyPost_ret (ret_iv2 rfl _ _ _ _ _ rfl (R1.out.set _ _)) rfl ?_
        exact D.out _ (FW.out.set2 (Nat.le_refl _) _ _)
    · by_cases c45 : c.toNat = 45
      · obtain ⟨s, hs⟩ : ∃ s, s = true := ⟨_, rfl⟩
        obtain ⟨l', hl'⟩ : ∃ l', l' = t := ⟨_, rfl⟩
        have hlen : l'.length ≤ 100000 := by rw [hl']; omega
        have CP : Hid (∀ W, Calls Tryz.prog 84 #[.string ⟨l'.toArray⟩] W (ParseR W l')) := Lib.hid (fun W => r1parse_c W l' (by omega))
        have HX : Hid ((⟨t.toArray⟩ : ByteArray) = ⟨l'.toArray⟩) := Lib.hid (by rw [hl'])
        have e1 : negS (c :: t) = true := by show decide (c.toNat = 45) = _; rw [c45]; rfl
        have e2 : cutS (c :: t) = l' := by rw [hl']; exact if_pos (by omega)
        have hb : ∀ h : 0 < bs.size, (bs[0]'h).toNat = 45 := fun h => by rw [hb0 h, c45]
        rw [e1, e2]
        rw [← hl'] at hxx hss
        have b1 : (1 : Int) ≤ (l'.length : Int) + 1 := by omega
        have b2 : (0 : Int) < (l'.length : Int) + 1 := by omega
        rw [← hs]
        clear e1 e2 hb0 c45 hl' hb1 hbs hsz
        by_cases he : parseE l' = 0
        · have D : Hid (∀ W a c, In W a c (lims (numOf l')) → Fr [] w W → ParseI w s l' (.returned (.tuple #[.agg #[.bool (sg s (numOf l')), .slice a (lims (numOf l')).length c], .int .i64 0])) W) := Lib.hid (fun W a c h1 h2 => by unfold ParseI; rw [if_pos he]; exact ⟨a, c, rfl, h1, h2⟩)
          have RES : Hid (∀ W e w1, ParseR W l' e w1 → ∃ a c, e = .returned (.tuple #[.slice a (lims (numOf l')).length c, .int .i64 0]) ∧ In w1 a c (lims (numOf l')) ∧ Fr [] W w1) := Lib.hid (fun W e w1 h => by
            unfold ParseR at h; rw [if_pos he] at h; obtain ⟨a, c, h1, h2, h3⟩ := h; exact ⟨a, c, h1, h2.in, h3⟩)
          generalize numOf l' = x at *
          generalize parseE l' = pe at *
          subst hs
          clear he
          go_enter Tryz.func43, Tryz.ntmps43
          go_wp2_with fail
          try rw [HX.out]
          refine (CP.out _).mono ?_
          intro e w1 h
          obtain ⟨a1, c1, rfl, J1, F1⟩ := RES.out _ _ _ h
          have R1 := Lib.hid (R.out.fr F1)
          have rc0 := R1.out.c0
          have rc1 := R1.out.c1
          have rl := R1.out.lt
          have rf0 := R1.out.f 0
          have rf1 := R1.out.f 1
          have FW := Lib.hid (F0.out.same F1)
          have CK := Lib.hid (CS.out w1 (true) x a1 c1 J1)
          clear h CP CS RES J1
          go_wp2_with fail
          refine CK.out.mono ?_
          rintro e w2 ⟨a2, c2, rfl, J2, F2⟩
          have R2 := Lib.hid (R1.out.fr F2)
          have sc0 := R2.out.c0
          have sc1 := R2.out.c1
          have sl := R2.out.lt
          have sf0 := R2.out.f 0
          have sf1 := R2.out.f 1
          have J2 := Lib.hid J2
          have FX := Lib.hid (FW.out.same F2)
          clear F2
          go_wp2
          refine bodyPost_ret (ret_iv2 rfl _ _ _ _ _ rfl (R2.out.set _ _)) rfl ?_
          exact D.out _ _ _ (J2.out.set2 R2.out _ _) (FX.out.set2 (Nat.le_refl _) _ _)
        · have hpe : (((parseE l' : Nat) : Int) == 0) = false := by rw [beq_eq_false_iff_ne]; omega
          have D : Hid (∀ W, Fr [] w W → ParseI w s l' (.returned (.tuple #[.agg #[.bool false, .slice none 0 0], .int .i64 (parseE l' : Int)])) W) := Lib.hid (fun W h2 => by unfold ParseI; rw [if_neg he]; exact ⟨rfl, h2⟩)
          have RES : Hid (∀ W e w1, ParseR W l' e w1 → e = .returned (.tuple #[.slice none 0 0, .int .i64 (parseE l' : Int)]) ∧ Fr [] W w1) := Lib.hid (fun W e w1 h => by unfold ParseR at h; rwa [if_neg he] at h)
          generalize numOf l' = x at *
          generalize parseE l' = pe at *
          subst hs
          clear he
          go_enter Tryz.func43, Tryz.ntmps43
          go_wp2_with fail
          try rw [HX.out]
          refine (CP.out _).mono ?_
          intro e w1 h
          obtain ⟨rfl, F1⟩ := RES.out _ _ _ h
          have R1 := Lib.hid (R.out.fr F1)
          have rc0 := R1.out.c0
          have rc1 := R1.out.c1
          have rl := R1.out.lt
          have rf0 := R1.out.f 0
          have rf1 := R1.out.f 1
          have FW := Lib.hid (F0.out.same F1)
          clear h CP CS RES
          go_wp2
          refine bodyPost_ret (ret_iv2 rfl _ _ _ _ _ rfl (R1.out.set _ _)) rfl ?_
          exact D.out _ (FW.out.set2 (Nat.le_refl _) _ _)
      · obtain ⟨s, hs⟩ : ∃ s, s = false := ⟨_, rfl⟩
        obtain ⟨l', hl'⟩ : ∃ l', l' = (c :: t) := ⟨_, rfl⟩
        have hlen : l'.length ≤ 100000 := by rw [hl']; simp; omega
        have CP : Hid (∀ W, Calls Tryz.prog 84 #[.string ⟨l'.toArray⟩] W (ParseR W l')) := Lib.hid (fun W => r1parse_c W l' (by omega))
        have HX : Hid (bs = ⟨l'.toArray⟩) := Lib.hid (by rw [hl', hbs])
        obtain ⟨cn, hcn⟩ : ∃ cn, cn = c.toNat := ⟨_, rfl⟩
        have e1 : negS (c :: t) = false := by show decide (c.toNat = 45) = _; simp [c45]
        have e2 : cutS (c :: t) = l' := by rw [hl']; exact if_neg (by omega)
        have hb : ∀ h : 0 < bs.size, (bs[0]'h).toNat = cn := fun h => by rw [hb0 h, hcn]
        have z43 : ((cn : Int) == 43) = false := by rw [beq_eq_false_iff_ne]; omega
        have z45 : ((cn : Int) == 45) = false := by rw [beq_eq_false_iff_ne]; omega
        have b2 : (0 : Int) < (t.length : Int) + 1 := by omega
        rw [e1, e2]
        rw [← hs]
        clear e1 e2 hb0 c43 c45 hl' hb1 hbs hsz hcn hxx
        by_cases he : parseE l' = 0
        · have D : Hid (∀ W a c, In W a c (lims (numOf l')) → Fr [] w W → ParseI w s l' (.returned (.tuple #[.agg #[.bool (sg s (numOf l')), .slice a (lims (numOf l')).length c], .int .i64 0])) W) := Lib.hid (fun W a c h1 h2 => by unfold ParseI; rw [if_pos he]; exact ⟨a, c, rfl, h1, h2⟩)
          have RES : Hid (∀ W e w1, ParseR W l' e w1 → ∃ a c, e = .returned (.tuple #[.slice a (lims (numOf l')).length c, .int .i64 0]) ∧ In w1 a c (lims (numOf l')) ∧ Fr [] W w1) := Lib.hid (fun W e w1 h => by
            unfold ParseR at h; rw [if_pos he] at h; obtain ⟨a, c, h1, h2, h3⟩ := h; exact ⟨a, c, h1, h2.in, h3⟩)
          generalize numOf l' = x at *
          generalize parseE l' = pe at *
          subst hs
          clear he
          go_enter Tryz.func43, Tryz.ntmps43
          go_wp2_with fail
          try rw [HX.out]
          refine (CP.out _).mono ?_
          intro e w1 h
          obtain ⟨a1, c1, rfl, J1, F1⟩ := RES.out _ _ _ h
          have R1 := Lib.hid (R.out.fr F1)
          have rc0 := R1.out.c0
          have rc1 := R1.out.c1
          have rl := R1.out.lt
          have rf0 := R1.out.f 0
          have rf1 := R1.out.f 1
          have FW := Lib.hid (F0.out.same F1)
          have CK := Lib.hid (CS.out w1 (false) x a1 c1 J1)
          clear h CP CS RES J1
          go_wp2_with fail
          refine CK.out.mono ?_
          rintro e w2 ⟨a2, c2, rfl, J2, F2⟩
          have R2 := Lib.hid (R1.out.fr F2)
          have sc0 := R2.out.c0
          have sc1 := R2.out.c1
          have sl := R2.out.lt
          have sf0 := R2.out.f 0
          have sf1 := R2.out.f 1
          have J2 := Lib.hid J2
          have FX := Lib.hid (FW.out.same F2)
          clear F2
          go_wp2
          refine bodyPost_ret (ret_iv2 rfl _ _ _ _ _ rfl (R2.out.set _ _)) rfl ?_
          exact D.out _ _ _ (J2.out.set2 R2.out _ _) (FX.out.set2 (Nat.le_refl _) _ _)
        · have hpe : (((parseE l' : Nat) : Int) == 0) = false := by rw [beq_eq_false_iff_ne]; omega
          have D : Hid (∀ W, Fr [] w W → ParseI w s l' (.returned (.tuple #[.agg #[.bool false, .slice none 0 0], .int .i64 (parseE l' : Int)])) W) := Lib.hid (fun W h2 => by unfold ParseI; rw [if_neg he]; exact ⟨rfl, h2⟩)
          have RES : Hid (∀ W e w1, ParseR W l' e w1 → e = .returned (.tuple #[.slice none 0 0, .int .i64 (parseE l' : Int)]) ∧ Fr [] W w1) := Lib.hid (fun W e w1 h => by unfold ParseR at h; rwa [if_neg he] at h)
          generalize numOf l' = x at *
          generalize parseE l' = pe at *
          subst hs
          clear he
          go_enter Tryz.func43, Tryz.ntmps43
          go_wp2_with fail
          try rw [HX.out]
          refine (CP.out _).mono ?_
          intro e w1 h
          obtain ⟨rfl, F1⟩ := RES.out _ _ _ h
          have R1 := Lib.hid (R.out.fr F1)
          have rc0 := R1.out.c0
          have rc1 := R1.out.c1
          have rl := R1.out.lt
          have rf0 := R1.out.f 0
          have rf1 := R1.out.f 1
          have FW := Lib.hid (F0.out.same F1)
          clear h CP CS RES
          go_wp2
          refine bodyPost_ret (ret_iv2 rfl _ _ _ _ _ rfl (R1.out.set _ _)) rfl ?_
          exact D.out _ (FW.out.set2 (Nat.le_refl _) _ _)
end
end Go.Proofs.YtcjkgnafpkkjmaaGreatDoor
