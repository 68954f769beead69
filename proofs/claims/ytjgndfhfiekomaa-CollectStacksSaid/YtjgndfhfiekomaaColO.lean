/- Collecting: an object's fields are followed. -/
import Derived.Test.YtjgndfhfiekomaaColN
namespace Go.Proofs.Ytjgndfhfiekomaa
open Go.ChangeShapes Go.WideShapes Go.RowKit Go.Maps
variable {w w' : World} {c : Tk} {m n : Nat} {cl : Int → Int} {wv : Value} {T : Tr}
def scan1 (cl : Int → Int) (m : Nat) (x : Int) (T : Tr) (i : Int) : Tr :=
  if (followT cl m T (getF T.A m x i).1).2 = (getF T.A m x i).1 then (followT cl m T (getF T.A m x i).1).1 else
  { (followT cl m T (getF T.A m x i).1).1 with A := (setF (followT cl m T (getF T.A m x i).1).1.A m x i (followT cl m T (getF T.A m x i).1).2).1 }
def scanN (cl : Int → Int) (m : Nat) (x : Int) (T : Tr) : Nat → Tr
  | 0 => T
  | k + 1 => scan1 cl m x (scanN cl m x T k) k
def scanT (cl : Int → Int) (m : Nat) (x : Int) (T : Tr) : Tr := scanN cl m x T (countedF T.A m x).toNat
theorem setF_wd' {A : Ar} (wd : A.Wd) (m : Nat) (x i : Int) {v : Int} (h0 : 0 ≤ v) (h1 : v < 18446744073709551616) : (setF A m x i v).1.Wd := by
  unfold setF
  cases hAt A m x with
  | none => exact wd
  | some o =>
    simp only
    split
    · exact wd
    · exact wd.set _ _ h0 h1
theorem movedF_w {A : Ar} (wd : A.Wd) {m : Nat} {x y : Int} (h : movedF A m x = some y) : 0 ≤ y ∧ y < 18446744073709551616 := by
  unfold movedF at h
  split at h
  · have := wd.at (x / 8).toNat
    simp only [Option.some.injEq] at h
    rw [← h]
    unfold mkW
    omega
  · cases h
theorem followT_w (ok : T.A.Ok m) (wd : T.A.Wd) (x : Int) (x0 : 0 ≤ x) (x1 : x < 18446744073709551616) : 0 ≤ (followT cl m T x).2 ∧ (followT cl m T x).2 < 18446744073709551616 := by
  unfold followT
  split
  · exact ⟨x0, x1⟩
  · cases hy : movedF T.A m x with
    | some y => exact movedF_w wd hy
    | none =>
      simp only
      split
      · exact ⟨x0, x1⟩
      · rename_i h
        obtain ⟨a, h1, h2⟩ := moveT_at (cl := cl) ok wd x x0 (by omega)
        have := ok.m2
        simp only
        rw [h1]; omega
theorem TrAt.hset (h : TrAt w c m n cl wv T) (x i v : Int) (v0 : 0 ≤ v) (v1 : v < 18446744073709551616) {r : Value} {e : Ending} (hd : HDone c.hb c.b c.wb c.lb w (setF T.A m x i v).1 r e w') (hB : c.B ≤ w.heap.size) :
    TrAt w' c m n cl wv { T with A := (setF T.A m x i v).1 } ∧ FB c w w' := by
  obtain ⟨_, hH, hF⟩ := hd
  have := h.mv0 (Fr.refl _ _) hF hH (setF_ok h.ok x i v) (setF_wd' h.wd m x i v0 v1)
  exact ⟨this.1, FB.of this.2 hB (by simp [Tk.own])⟩
set_option maxRecDepth 10000 in
set_option maxHeartbeats 4000000 in
theorem scan_c (h : TrAt w c m n cl wv T) (hB : c.B ≤ w.heap.size) (x : Int) (x0 : 0 ≤ x) (x1 : x < 18446744073709551616) (bd : ∀ k : Nat, (k : Int) < countedF T.A m x → (scanN cl m x T k).Bd) :
    Calls Try.prog 89 #[.pointer (some ⟨c.tb, 0, none⟩), .int .u64 x] w fun e w' => e = .returned (.tuple #[]) ∧ (∃ wv', TrAt w' c m n cl wv' (scanT cl m x T)) ∧ FB c w w' := by
  have CC := Lib.hid (counted_c h x x0 x1)
  have H := Lib.hid h
  have HB := Lib.hid hB
  have HBd := Lib.hid bd
  obtain ⟨cn, hcn⟩ : ∃ cn, cn = countedF T.A m x := ⟨_, rfl⟩
  have hcb : cn ≤ 9007199254740992 := by
    rw [hcn]
    unfold countedF countF
    have := szI_b (m := m) h.wd x0
    split
    · omega
    · split
      · omega
      · split <;> omega
  have ST : Hid (scanT cl m x T = scanN cl m x T cn.toNat) := Lib.hid (by unfold scanT; rw [hcn])
  rw [← hcn] at CC HBd
  clear h hB bd hcn
  go_enter Try.func89, Try.ntmps89
  go_wp2_with fail
  refine CC.out.mono ?_
  rintro e w1 ⟨rfl, F1⟩
  have H1 : Hid (TrAt w1 c m n cl wv (scanN cl m x T 0)) := Lib.hid (H.out.keep F1)
  have F1 : Hid (FB c w w1) := Lib.hid (FB.nil F1 HB.out)
  clear CC H
  go_wp2_with fail
  go_loopw [11] (fun y wr => ∃ (k : Nat) (wv : Value), (k : Int) ≤ max cn 0 ∧ y = .int .i64 k ∧ Hid (TrAt wr c m n cl wv (scanN cl m x T k)) ∧ Hid (FB c w wr)) (fun y _ => cn.toNat - (intOf y).toNat)
  case atStart => exact ⟨0, wv, by omega, rfl, H1, F1⟩
  case round =>
    obtain ⟨k, wv', hk, rfl, HT, F⟩ := hrel
    clear H1 F1
    by_cases hlt : (k : Int) < cn
    · have hbd := Lib.hid (HBd.out k hlt)
      have CG := Lib.hid (oget_c wr HT.out.h HT.out.ok HT.out.wd x k x0 x1 (by omega))
      have k0 := HT.out.c0
      have NX : Hid (scanN cl m x T (k + 1) = scan1 cl m x (scanN cl m x T k) k) := Lib.hid rfl
      obtain ⟨T1, hT1⟩ : ∃ T1, T1 = scanN cl m x T k := ⟨_, rfl⟩
      rw [← hT1] at HT hbd CG NX
      obtain ⟨T2, hT2⟩ : ∃ T2, T2 = scanN cl m x T (k + 1) := ⟨_, rfl⟩
      rw [← hT2] at NX
      have REL : Hid (∀ wq wv, TrAt wq c m n cl wv T2 → TrAt wq c m n cl wv (scanN cl m x T (k + 1))) := Lib.hid (fun wq wv h => by rw [← hT2]; exact h)
      have vb := getF_w HT.out.wd m x k
      unfold scan1 at NX
      rcases hg : getF T1.A m x k with ⟨v, ve⟩
      rw [hg] at CG NX vb
      simp only [] at CG NX vb
      clear hT1 hT2 hg
      go_wp2_with fail
      refine CG.out.mono ?_
      rintro e w2 ⟨rfl, F2⟩
      have HT2 := Lib.hid (HT.out.keep F2)
      have F3 : Hid (FB c w w2) := Lib.hid (F.out.trans (FB.nil F2 F.out.ge))
      have CF := Lib.hid (follow_c HT2.out F3.out.ge hbd.out v vb.1 vb.2)
      have yb := followT_w (cl := cl) HT2.out.ok HT2.out.wd v vb.1 vb.2
      rcases hq : followT cl m T1 v with ⟨T3, y⟩
      rw [hq] at CF NX yb
      simp only [] at NX yb
      clear CG F HT hq k0 F2
      go_wp2_with fail
      refine CF.out.mono ?_
      rintro e w3 ⟨rfl, ⟨wv3, HT3⟩, F4⟩
      have HT3 := Lib.hid HT3
      have F4 := Lib.hid (F3.out.trans F4)
      simp only [] at HT3 ⊢
      clear CF F3 HT2 hbd
      by_cases hyv : y = v
      · have REL2 : Hid (TrAt w3 c m n cl wv3 (scanN cl m x T (k + 1))) := Lib.hid (REL.out _ _ (by rw [NX.out, if_pos hyv]; exact HT3.out))
        have hyb : (y == v) = true := by simpa using hyv
        clear NX REL HT3 hyv
        go_wp2
        go_roundw
        case rel => exact ⟨k + 1, wv3, by omega, by go_num, REL2, F4⟩
        case measure => simp [intOf]; omega
      · have CS := Lib.hid (oset_c w3 HT3.out.h HT3.out.ok HT3.out.wd x k y x0 x1 (by omega))
        have HS := Lib.hid (fun e w' hd => HT3.out.hset (w' := w') (e := e) (r := .int .i64 (setF T3.A m x k y).2) x k y yb.1 yb.2 hd F4.out.ge)
        have k0 := HT3.out.c0
        have hyb : (y == v) = false := by simpa using hyv
        have REL2 : Hid (∀ wq wv, TrAt wq c m n cl wv { T3 with A := (setF T3.A m x k y).1 } → TrAt wq c m n cl wv (scanN cl m x T (k + 1))) := Lib.hid (fun wq wv h => REL.out _ _ (by rw [NX.out, if_neg hyv]; exact h))
        rcases hq : setF T3.A m x k y with ⟨A', er⟩
        rw [hq] at CS HS REL2
        simp only [] at CS HS REL2
        clear NX REL HT3 hyv hq
        go_wp2_with fail
        refine CS.out.mono ?_
        intro e w4 hd
        have he := hd.1
        have HH := HS.out _ _ hd
        have HT4 := Lib.hid (REL2.out _ _ HH.1)
        have F5 := Lib.hid (F4.out.trans HH.2)
        subst he
        clear hd HH CS HS REL2 F4 k0
        go_wp2
        go_roundw
        case rel => exact ⟨k + 1, wv3, by omega, by go_num, HT4, F5⟩
        case measure => simp [intOf]; omega
    · have hkc : k = cn.toNat := by omega
      have E : Hid ((∃ wv', TrAt wr c m n cl wv' (scanT cl m x T)) ∧ FB c w wr) := Lib.hid ⟨⟨wv', by rw [ST.out, ← hkc]; exact HT.out⟩, F.out⟩
      clear HT F ST hkc
      go_wp2
      go_end0
      exact ⟨rfl, E.out⟩
end Go.Proofs.Ytjgndfhfiekomaa
