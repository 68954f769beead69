/- Fibers on paper: objects made, frames pushed, segments copied. No program in sight. -/
import Derived.Test.YtjgndfhfiekomaaFibY
namespace Go.Proofs.Ytjgndfhfiekomaa
variable {A A' : Ar} {m r : Nat} {M M' M'' : Mem} {x s prev below hand l0 : Int} {cap : Nat} {f : Frm} {fs r0 : List Frm}
/-- Words written one after the other. -/
def Mem.wr (M : Mem) (s p : Int) (g : Nat → Int) : Nat → Mem
  | 0 => M
  | k + 1 => (M.wr s p g k).put s (p + k) (g k)
theorem Mem.wr_lit {k n : Int} {f : Int → Int} (p : Int) (g : Nat → Int) (hx : M s = some ⟨k, n, f⟩) (N : Nat) : M.wr s p g N s = some ⟨k, n, fun j => if p ≤ j ∧ j < p + N then g (j - p).toNat else f j⟩ := by
  induction N with
  | zero =>
    rw [Mem.wr, hx]
    congr 2
    funext j
    rw [if_neg (by omega)]
  | succ N ih =>
    rw [Mem.wr, Mem.put_lit _ _ ih]
    congr 2
    funext j
    by_cases h1 : j = p + N
    · rw [if_pos h1, if_pos (by omega)]
      congr 1; omega
    · rw [if_neg h1]
      by_cases h2 : p ≤ j ∧ j < p + N
      · rw [if_pos h2, if_pos (by omega)]
      · rw [if_neg h2, if_neg (by omega)]
theorem Off.wr (M : Mem) (s p : Int) (g : Nat → Int) (N : Nat) : Off [s] M (M.wr s p g N) := by
  induction N with
  | zero => exact Off.refl _ _
  | succ N ih => exact ih.trans (Off.put _ _ _ _)
theorem Hp.wr (h : Hp A m r M) {k n : Int} {f : Int → Int} (hx : M s = some ⟨k, n, f⟩) {p : Int} (g : Nat → Int) (B : Nat → Ar) (h0 : B 0 = A) (N : Nat)
    (hs : ∀ k, k < N → Hp (B k) m r (M.wr s p g k) → B (k + 1) = stF (B k) m s (p + k) (g k)) (p0 : 0 ≤ p) (pN : p + N ≤ n) (hg : ∀ k, k < N → W64 (g k)) : ∀ K, K ≤ N → Hp (B K) m r (M.wr s p g K) := by
  intro K
  induction K with
  | zero => intro _; rw [h0]; exact h
  | succ K ih =>
    intro hK
    have hk := ih (by omega)
    rw [hs K (by omega) hk]
    exact hk.st (Mem.wr_lit p g hx K) (by omega) (by simp only; omega) (hg K (by omega))
/-- An object of so many fields. -/
theorem Hp.obj (h : Hp A m (r + 1) M) (kind : Int) (ws : List Int) (k0 : 0 ≤ kind) (k1 : kind < 32) (hn : ws.length ≤ 240) (hw : ∀ x, x ∈ ws → W64 x) :
    ∃ x, (objF A m kind ws).2 = some x ∧ M x = none ∧ x % 8 = 1 ∧ W64 x ∧ ∃ M', Hp (objF A m kind ws).1 m r M' ∧ Off [] M M' ∧ ∃ f, M' x = some ⟨kind, ws.length, f⟩ ∧ ∀ i : Nat, i < ws.length → f i = ws[i]?.getD 0 := by
  obtain ⟨x, h1, h2, h3, h4, h5⟩ := h.make kind ws.length k0 k1 (by omega) (by omega)
  have hx := Mem.new_eq M x kind ws.length
  have hB := h5.wr hx (p := 0) (fun i => ws[i]?.getD 0) (fun k => setN (makeF A m kind ws.length).1 m x ws k) rfl ws.length (fun k _ _ => by simp only [setN, Int.zero_add]) (by omega) (by omega) (fun k _ => w64_nth hw k) ws.length (Nat.le_refl _)
  have hl := Mem.wr_lit 0 (fun i => ws[i]?.getD 0) hx ws.length
  unfold objF
  rw [h1]
  refine ⟨x, rfl, h2, h3, h4, _, hB, ?_, _, hl, fun i hi => ?_⟩
  · intro y o _ ho
    have hyx : y ≠ x := by rintro rfl; rw [h2] at ho; cases ho
    exact Off.wr _ _ _ _ _ y o (by simpa using hyx) (by rw [Mem.new_ne _ _ _ hyx]; exact ho)
  · rw [if_pos (by omega)]; simp
theorem Hp.fiber (h : Hp A m (r + 1) M) (hb : W64 below) (hh : W64 hand) :
    ∃ x, (fibF A m below hand).2 = some x ∧ M x = none ∧ x % 8 = 1 ∧ W64 x ∧ ∃ M', Hp (fibF A m below hand).1 m r M' ∧ Off [] M M' ∧ Fib M' x below 45 (-1) hand := by
  obtain ⟨x, h1, h2, h3, h4, M', h5, h6, f, h7, h8⟩ := h.obj 7 [below, 45, smW (-1), hand] (by omega) (by omega) (by simp) (by
    intro y hy
    simp at hy
    rcases hy with rfl | rfl | rfl | rfl
    · exact hb
    · exact w64_45
    · exact smW_w _
    · exact hh)
  exact ⟨x, h1, h2, h3, h4, M', h5, h6, f, h7, h8 0 (by simp), h8 1 (by simp), h8 2 (by simp), h8 3 (by simp)⟩
/-- A segment without words. -/
theorem Hp.segment (h : Hp A m (r + 1) M) (hp : W64 prev) (room : Nat) (hr : room ≤ 238) :
    ∃ x, (segF A m prev room).2 = some x ∧ M x = none ∧ x % 8 = 1 ∧ W64 x ∧ ∃ M', Hp (segF A m prev room).1 m r M' ∧ Off [] M M' ∧ Seg M' x prev room [] := by
  obtain ⟨x, h1, h2, h3, h4, h5⟩ := h.make 15 (2 + room) (by omega) (by omega) (by omega) (by omega)
  have hx := Mem.new_eq M x 15 (2 + room)
  have hp1 := h5.st hx (i := 0) (v := prev) (by omega) (by simp only; omega) hp
  have hp2 := hp1.st (Mem.put_lit _ _ hx) (i := 1) (by omega) (by simp only; omega) (smW_w 0)
  unfold segF
  rw [h1]
  refine ⟨x, rfl, h2, h3, h4, _, hp2, ?_, ⟨_, Mem.put_lit _ _ (Mem.put_lit _ _ hx), ?_, ?_, fun i hi => (by simp at hi)⟩, by simp⟩
  · intro y o _ ho
    have hyx : y ≠ x := by rintro rfl; rw [h2] at ho; cases ho
    rw [Mem.put_ne _ _ _ hyx, Mem.put_ne _ _ _ hyx, Mem.new_ne _ _ _ hyx]; exact ho
  · rw [if_neg (by omega), if_pos rfl]
  · rw [if_pos rfl]; rfl
/-! ### A frame pushed where there is room -/
def Frm.fresh (cl : Int) (sl wd : Nat) : Frm := ⟨cl, 0, List.replicate sl (mkW 5 3), [], wd⟩
theorem Hp.pushed (h : Hp A m r M) {ws : List Int} {seg0 base cl : Int} (hf : Fib M x below seg0 base hand) (hs : Seg M s prev cap ws) (sl wd : Nat) (hc : ws.length + 5 + sl + wd ≤ cap) (hcl : W64 cl) :
    ∃ M', Hp (pushS A m x cl sl wd s) m r M' ∧ Fib M' x below s ws.length hand ∧ Seg M' s prev cap (ws ++ (Frm.fresh cl sl wd).enc base) ∧ Off [s, x] M M' := by
  have hne := fib_seg_ne hf hs
  have hu := hs.used h
  have hcp := hs.cp h
  have hsw := hs.w h
  obtain ⟨g, e1, e2, e3, e4⟩ := hs.ex
  have hg2 := (hf.g h).2.2.1
  have hL : headL A m x cl sl wd = [cl, smW 0, smW base, smW sl, smW wd] := by unfold headL; rw [hg2]
  have hLw : ∀ y, y ∈ headL A m x cl sl wd → W64 y := by
    rw [hL]
    intro y hy
    simp at hy
    rcases hy with rfl | rfl | rfl | rfl | rfl
    · exact hcl
    all_goals exact smW_w _
  have p1 := h.wr e1 (p := 2 + (ws.length : Int)) (fun i => (headL A m x cl sl wd)[i]?.getD 0) (fun k => headN A m s ws.length (headL A m x cl sl wd) k) rfl 5 (fun k _ _ => by simp only [headN]) (by omega) (by omega) (fun k _ => w64_nth hLw k) 5 (Nat.le_refl _)
  have q1 := Mem.wr_lit (2 + (ws.length : Int)) (fun i => (headL A m x cl sl wd)[i]?.getD 0) e1 5
  have p2 := p1.wr q1 (p := 2 + (ws.length : Int) + 5) (fun _ => mkW 5 3) (fun k => voidN (headN A m s ws.length (headL A m x cl sl wd) 5) m s ws.length k) rfl sl (fun k _ _ => by simp only [voidN]) (by omega) (by omega) (fun k _ => mkW_bd 5 3 (by omega) (by omega)) sl (Nat.le_refl _)
  have q2 := Mem.wr_lit (2 + (ws.length : Int) + 5) (fun _ => mkW 5 3) q1 sl
  have p3 := p2.st q2 (i := 1) (by omega) (by simp only; omega) (smW_w (ws.length + 5 + sl))
  have O3 : Off [s] M (((M.wr s (2 + (ws.length : Int)) (fun i => (headL A m x cl sl wd)[i]?.getD 0) 5).wr s (2 + (ws.length : Int) + 5) (fun _ => mkW 5 3) sl).put s 1 (smW (ws.length + 5 + sl))) := ((Off.wr _ _ _ _ _).trans (Off.wr _ _ _ _ _)).trans (Off.put _ _ _ _)
  have F3 := hf.off O3 (by simpa using hne)
  have q3 := Mem.put_lit 1 (smW (ws.length + 5 + sl)) q2
  obtain ⟨o, ho, hn, _⟩ := F3.obj
  have p4 := p3.st ho (i := 1) (by omega) (by omega) hsw
  have F4 := F3.seg' s
  obtain ⟨o4, ho4, hn4, _⟩ := F4.obj
  have p5 := p4.st ho4 (i := 2) (by omega) (by omega) (smW_w ws.length)
  have F5 := F4.base' ws.length
  have S3 : Seg (((M.wr s (2 + (ws.length : Int)) (fun i => (headL A m x cl sl wd)[i]?.getD 0) 5).wr s (2 + (ws.length : Int) + 5) (fun _ => mkW 5 3) sl).put s 1 (smW (ws.length + 5 + sl))) s prev cap (ws ++ (Frm.fresh cl sl wd).enc base) := by
    have hlen : ((Frm.fresh cl sl wd).enc base).length = 5 + sl := by rw [Frm.len_enc]; simp [Frm.len, Frm.fresh]
    refine hs.grow _ _ q3 (by rw [hlen]; omega) ?_ ?_ ?_ ?_
    · rw [if_neg (by omega), if_neg (by omega), if_neg (by omega)]; exact e2
    · rw [if_pos rfl, hlen]
      congr 1
      omega
    · intro i hi f2 hf2
      rw [e1] at hf2
      injection hf2 with hf2
      injection hf2 with _ _ hf2
      subst hf2
      rw [if_neg (by omega), if_neg (by omega), if_neg (by omega)]
    · intro i hi
      rw [hlen] at hi
      rw [if_neg (by omega)]
      by_cases h5 : i < 5
      · rw [if_neg (by omega), if_pos (by omega), hL]
        rw [show ((2 : Int) + ((ws.length + i : Nat) : Int) - (2 + (ws.length : Int))).toNat = i by omega]
        unfold Frm.enc Frm.fresh
        rw [List.getElem?_append_left (by simp; omega), List.getElem?_append_left (by simp; omega)]
        simp
      · rw [if_pos (by omega)]
        obtain ⟨j, rfl⟩ : ∃ j, i = 5 + j := ⟨i - 5, by omega⟩
        rw [Frm.at5 _ _ j (by simp [Frm.fresh]; omega)]
        simp only [Frm.fresh]
        rw [List.getElem?_replicate, if_pos (by omega)]; rfl
  have E : pushS A m x cl sl wd s = stF (stF (stF (voidN (headN A m s ws.length (headL A m x cl sl wd) 5) m s ws.length sl) m s 1 (smW (ws.length + 5 + sl))) m x 1 s) m x 2 (smW ws.length) := by
    unfold pushS
    rw [hu, Int.toNat_natCast]
  rw [E]
  refine ⟨_, p5, F5, ?_, ?_⟩
  · refine (S3.off (Off.put _ x 1 s) ?_).off (Off.put _ x 2 _) ?_
    · simpa using Ne.symm hne
    · simpa using Ne.symm hne
  · exact ((O3.mono (by simp)).trans ((Off.put _ x 1 s).mono (by simp))).trans ((Off.put _ x 2 _).mono (by simp))
end Go.Proofs.Ytjgndfhfiekomaa
