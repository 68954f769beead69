/- Fibers on paper: what is done with the topmost frame. No program in sight. -/
import Derived.Test.YtjgndfhfiekomaaFibX
namespace Go.Proofs.Ytjgndfhfiekomaa
variable {A A' : Ar} {m r : Nat} {M M' M'' : Mem} {x s prev below hand l0 : Int} {cap : Nat} {f : Frm} {fs r0 : List Frm}
/-- A fiber whose topmost segment holds these frames. -/
structure Top (M : Mem) (x s prev below hand l0 : Int) (cap : Nat) (fs : List Frm) : Prop where
  fib : Fib M x below s (lk l0 fs) hand
  seg : Seg M s prev cap (enc l0 fs)
  ok : fits cap fs
theorem Top.off {fp : List Int} (h : Top M x s prev below hand l0 cap fs) (ho : Off fp M M') (hx : x ∉ fp) (hs : s ∉ fp) : Top M' x s prev below hand l0 cap fs :=
  ⟨h.fib.off ho hx, h.seg.off ho hs, h.ok⟩
theorem Top.ne (h : Top M x s prev below hand l0 cap fs) : x ≠ s := fib_seg_ne h.fib h.seg
theorem Top.sz (h : Top M x s prev below hand l0 cap (f :: r0)) (hp : Hp A m r M) : szL r0 + 5 + f.slots.length + f.room ≤ cap ∧ f.words.length ≤ f.room ∧ cap ≤ 238 ∧ -1000000 ≤ f.pc ∧ f.pc ≤ 1000000 :=
  ⟨h.ok.1, h.ok.2.1, h.seg.cp hp, h.ok.2.2.1, h.ok.2.2.2.1⟩
theorem Top.b (h : Top M x s prev below hand l0 cap (f :: r0)) (hp : Hp A m r M) : nmF A m x 2 = szL r0 := by
  have := h.sz hp
  unfold nmF
  rw [(h.fib.g hp).2.2.1]
  exact smW_val (by simp only [lk]; omega) (by simp only [lk]; omega)
theorem Top.no (h : Top M x s prev below hand l0 cap (f :: r0)) (hp : Hp A m r M) : noF A m x = false := by
  unfold noF
  rw [h.b hp]
  exact beq_eq_false_iff_ne.2 (by omega)
theorem Top.used (h : Top M x s prev below hand l0 cap fs) (hp : Hp A m r M) : nmF A m s 1 = szL fs := by
  rw [h.seg.used hp, len_enc]
theorem Top.hd (h : Top M x s prev below hand l0 cap (f :: r0)) (hp : Hp A m r M) (k : Nat) (hk : k < f.len) : gtF A m s (2 + (szL r0 : Int) + k) = (f.enc (lk l0 r0))[k]?.getD 0 := by
  have := h.seg.at hp (i := szL r0 + k) (by rw [len_enc]; simp only [szL]; omega)
  rw [enc_at] at this
  rw [← this]
  congr 1
  omega
theorem Top.len (_ : Top M x s prev below hand l0 cap (f :: r0)) : f.len = 5 + f.slots.length + f.words.length := rfl
theorem Top.h0 (h : Top M x s prev below hand l0 cap (f :: r0)) (hp : Hp A m r M) : gtF A m s (2 + (szL r0 : Int)) = f.cl := by
  have := h.hd hp 0 (by rw [h.len]; omega)
  simpa [Frm.enc] using this
theorem Top.h1 (h : Top M x s prev below hand l0 cap (f :: r0)) (hp : Hp A m r M) : nmF A m s (2 + (szL r0 : Int) + 1) = f.pc := by
  have := h.hd hp 1 (by rw [h.len]; omega)
  have hz := h.sz hp
  unfold nmF
  rw [show gtF A m s (2 + (szL r0 : Int) + 1) = smW f.pc from this]
  exact smW_val (by omega) (by omega)
theorem Top.h2 (h : Top M x s prev below hand l0 cap (f :: r0)) (hp : Hp A m r M) : gtF A m s (2 + (szL r0 : Int) + 2) = smW (lk l0 r0) := h.hd hp 2 (by rw [h.len]; omega)
theorem Top.h3 (h : Top M x s prev below hand l0 cap (f :: r0)) (hp : Hp A m r M) : nmF A m s (2 + (szL r0 : Int) + 3) = f.slots.length := by
  have := h.hd hp 3 (by rw [h.len]; omega)
  have hz := h.sz hp
  unfold nmF
  rw [show gtF A m s (2 + (szL r0 : Int) + 3) = smW f.slots.length from this]
  exact smW_val (by omega) (by omega)
theorem Top.h4 (h : Top M x s prev below hand l0 cap (f :: r0)) (hp : Hp A m r M) : nmF A m s (2 + (szL r0 : Int) + 4) = f.room := by
  have := h.hd hp 4 (by rw [h.len]; omega)
  have hz := h.sz hp
  unfold nmF
  rw [show gtF A m s (2 + (szL r0 : Int) + 4) = smW f.room from this]
  exact smW_val (by omega) (by omega)
theorem Top.frok (h : Top M x s prev below hand l0 cap (f :: r0)) (hp : Hp A m r M) : FrOk A m x := by
  have hz := h.sz hp
  have hl := h.len
  have e1 := (h.fib.g hp).2.1
  have b := h.b hp
  have u := h.used hp
  simp only [szL] at u
  refine ⟨by rw [b]; omega, by rw [b]; omega, fun _ => ?_, fun _ => ?_, fun _ => ?_⟩
  · rw [e1, u]; omega
  · rw [e1, b, h.h3 hp]; omega
  · rw [e1, b, h.h4 hp]; omega
theorem Top.words (h : Top M x s prev below hand l0 cap (f :: r0)) (hp : Hp A m r M) : wordsF A m x = f.words.length := by
  have u := h.used hp
  have hl := h.len
  simp only [szL] at u
  unfold wordsF
  rw [h.no hp, (h.fib.g hp).2.1, h.b hp, h.h3 hp, u]
  simp only [Bool.false_eq_true, if_false]
  omega
theorem Top.cl (h : Top M x s prev below hand l0 cap (f :: r0)) (hp : Hp A m r M) : gtF A m (gtF A m x 1) (2 + nmF A m x 2) = f.cl := by
  rw [(h.fib.g hp).2.1, h.b hp, h.h0 hp]
theorem Top.pc (h : Top M x s prev below hand l0 cap (f :: r0)) (hp : Hp A m r M) : nmF A m (gtF A m x 1) (2 + nmF A m x 2 + 1) = f.pc := by
  rw [(h.fib.g hp).2.1, h.b hp, h.h1 hp]
/-- The segment's words are others: the fiber has other frames there. -/
theorem Top.setpc (h : Top M x s prev below hand l0 cap (f :: r0)) (hp : Hp A m r M) (n : Int) (n0 : -1000000 ≤ n) (n1 : n ≤ 1000000) :
    ∃ M', Hp (setpcF A m x n) m r M' ∧ Top M' x s prev below hand l0 cap ({ f with pc := n } :: r0) ∧ Off [s] M M' := by
  have hz := h.sz hp
  obtain ⟨o, ho, hn, _⟩ := h.seg.obj
  unfold setpcF
  rw [h.no hp, (h.fib.g hp).2.1, h.b hp]
  simp only [Bool.false_eq_true, if_false]
  refine ⟨_, hp.st ho (by omega) (by omega) (smW_w n), ⟨?_, ?_, ?_⟩, Off.put _ _ _ _⟩
  · exact h.fib.off (Off.put _ _ _ _) (by simpa using h.ne)
  · have := h.seg.put (i := szL r0 + 1) (by rw [len_enc]; simp only [szL]; rw [h.len]; omega) (smW n)
    have e : (2 : Int) + (szL r0 : Int) + 1 = 2 + (szL r0 + 1 : Nat) := by omega
    rw [e]
    have e2 : (enc l0 (f :: r0)).set (szL r0 + 1) (smW n) = enc l0 ({ f with pc := n } :: r0) := by
      simp only [enc]
      rw [List.set_append_right _ _ (by rw [len_enc]; omega), len_enc, show szL r0 + 1 - szL r0 = 1 by omega, Frm.enc_pc]
    rw [e2] at this
    exact this
  · exact ⟨h.ok.1, h.ok.2.1, n0, n1, h.ok.2.2.2.2⟩
theorem enc_push (l0 : Int) (f : Frm) (r0 : List Frm) (v : Int) : enc l0 (f :: r0) ++ [v] = enc l0 ({ f with words := f.words ++ [v] } :: r0) := by
  simp only [enc]
  rw [List.append_assoc, Frm.enc_push]
theorem Top.put (h : Top M x s prev below hand l0 cap (f :: r0)) (hp : Hp A m r M) (v : Int) (hv : W64 v) (hw : f.words.length < f.room) :
    (putF A m x v).2 = true ∧ ∃ M', Hp (putF A m x v).1 m r M' ∧ Top M' x s prev below hand l0 cap ({ f with words := f.words ++ [v] } :: r0) ∧ Off [s] M M' := by
  have hz := h.sz hp
  have hl := h.len
  have u := h.used hp
  obtain ⟨o, ho, hn, _⟩ := h.seg.obj
  have hu : szL (f :: r0) < cap := by simp only [szL]; omega
  unfold putF
  rw [h.no hp, h.words hp]
  unfold roomF usedF
  rw [(h.fib.g hp).2.1, h.b hp, h.h4 hp, u]
  simp only [Bool.false_eq_true, if_false]
  rw [if_neg (by omega)]
  have hp1 := hp.st ho (i := 2 + (szL (f :: r0) : Int)) (by omega) (by omega) hv
  have hp2 := hp1.st (Mem.put_lit _ _ ho) (i := 1) (by omega) (by simp only; omega) (smW_w ((szL (f :: r0) : Int) + 1))
  have O : Off [s] M ((M.put s (2 + (szL (f :: r0) : Int)) v).put s 1 (smW ((szL (f :: r0) : Int) + 1))) := (Off.put _ _ _ _).trans (Off.put _ _ _ _)
  refine ⟨rfl, _, hp2, ⟨?_, ?_, ?_⟩, O⟩
  · exact h.fib.off O (by simpa using h.ne)
  · have := h.seg.push (by rw [len_enc]; exact hu) v
    rw [len_enc, enc_push] at this
    exact this
  · refine ⟨h.ok.1, ?_, h.ok.2.2⟩
    simp only [List.length_append, List.length_singleton]; omega
theorem Top.put_no (h : Top M x s prev below hand l0 cap (f :: r0)) (hp : Hp A m r M) (v : Int) (hw : f.words.length = f.room) : putF A m x v = (A, false) := by
  unfold putF
  rw [h.no hp, h.words hp]
  unfold roomF
  rw [(h.fib.g hp).2.1, h.b hp, h.h4 hp]
  simp only [Bool.false_eq_true, if_false]
  rw [if_pos (by omega)]
theorem Top.take_no (h : Top M x s prev below hand l0 cap (f :: r0)) (hp : Hp A m r M) (hw : f.words = []) : takeF A m x = (A, 45) := by
  unfold takeF
  rw [h.words hp, hw, if_pos (by rfl)]
theorem Top.take {v : Int} (h : Top M x s prev below hand l0 cap ({ f with words := f.words ++ [v] } :: r0)) (hp : Hp A m r M) :
    (takeF A m x).2 = v ∧ ∃ M', Hp (takeF A m x).1 m r M' ∧ Top M' x s prev below hand l0 cap (f :: r0) ∧ Off [s] M M' := by
  have hz := h.sz hp
  have hl := h.len
  have u := h.used hp
  have hw := h.words hp
  obtain ⟨g, ho, g0, g1, g2⟩ := h.seg.ex
  simp only [List.length_append, List.length_singleton] at hz hl hw
  have hu : szL (({ f with words := f.words ++ [v] } : Frm) :: r0) = szL (f :: r0) + 1 := by
    simp only [szL, Frm.len, List.length_append, List.length_singleton]; omega
  have hlt : szL (f :: r0) < cap := by simp only [szL, Frm.len]; omega
  rw [hu] at u
  unfold takeF usedF
  rw [hw, if_neg (by omega), (h.fib.g hp).2.1, u]
  have e1 : ((szL (f :: r0) + 1 : Nat) : Int) - 1 = (szL (f :: r0) : Int) := by omega
  rw [e1]
  have hp1 := hp.st ho (i := 1) (by omega) (by simp only; omega) (smW_w (szL (f :: r0)))
  refine ⟨?_, _, hp1, ⟨?_, ?_, ?_⟩, Off.put _ _ _ _⟩
  · simp only
    rw [hp1.gt (Mem.put_lit _ _ ho), if_pos ⟨by omega, by simp only; omega⟩]
    simp only
    rw [if_neg (by omega), g2 _ (by rw [len_enc, hu]; omega), ← enc_push, List.getElem?_append_right (by rw [len_enc]; omega), len_enc]
    simp
  · exact h.fib.off (Off.put _ _ _ _) (by simpa using h.ne)
  · have := h.seg.cut (k := szL (f :: r0)) (by rw [len_enc, hu]; omega)
    rw [← enc_push, List.take_left' (len_enc _ _)] at this
    exact this
  · exact ⟨h.ok.1, by omega, h.ok.2.2⟩
theorem Top.pop (h : Top M x s prev below hand l0 cap (f :: r0)) (hp : Hp A m r M) (hr : r0 ≠ [] ∨ prev % 8 ≠ 1) :
    (popF A m x).2 = true ∧ ∃ M', Hp (popF A m x).1 m r M' ∧ Top M' x s prev below hand l0 cap r0 ∧ Off [s, x] M M' := by
  have hz := h.sz hp
  have hl := h.len
  have b := h.b hp
  have h2 := h.h2 hp
  obtain ⟨o, ho, hn, _⟩ := h.seg.obj
  have hp1 := hp.st ho (i := 1) (by omega) (by omega) (smW_w (szL r0))
  have S1 := h.seg.cut (k := szL r0) (by rw [len_enc]; simp only [szL]; omega)
  have e1 : (enc l0 (f :: r0)).take (szL r0) = enc l0 r0 := by simp only [enc]; rw [List.take_left' (len_enc _ _)]
  rw [e1] at S1
  have g0 := S1.g0 hp1
  have F1 := h.fib.off (Off.put M s 1 (smW (szL r0))) (by simpa using h.ne)
  obtain ⟨o2, ho2, hn2, _⟩ := F1.obj
  unfold popF
  rw [h.no hp]
  simp only [Bool.false_eq_true, if_false]
  rw [(h.fib.g hp).2.1, b, h2, g0, if_neg (by
    rintro ⟨c1, c2⟩
    rcases hr with hr | hr
    · cases r0 with
      | nil => exact hr rfl
      | cons q r1 => simp only [szL, Frm.len] at c1; omega
    · exact hr c2)]
  have hp2 := hp1.st ho2 (i := 2) (by omega) (by omega) (smW_w (lk l0 r0))
  refine ⟨trivial, _, hp2, ⟨?_, ?_, h.ok.2.2.2.2⟩, ?_⟩
  · exact F1.base' _
  · exact S1.off (Off.put _ _ _ _) (by simpa using Ne.symm h.ne)
  · exact ((Off.put _ _ _ _).mono (by simp)).trans ((Off.put _ _ _ _).mono (by simp))
end Go.Proofs.Ytjgndfhfiekomaa
