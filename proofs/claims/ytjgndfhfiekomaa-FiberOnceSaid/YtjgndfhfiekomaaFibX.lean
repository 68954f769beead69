/- Fibers on paper: segments, frames, fibers as objects of a memory. No program in sight. -/
import Derived.Test.YtjgndfhfiekomaaHeapN
namespace Go.Proofs.Ytjgndfhfiekomaa
variable {A A' : Ar} {m r : Nat} {M M' M'' : Mem}
/-- What is there stays as it was, but for these objects. -/
def Off (fp : List Int) (M M' : Mem) : Prop := ∀ x o, x ∉ fp → M x = some o → M' x = some o
theorem Off.refl (fp : List Int) (M : Mem) : Off fp M M := fun _ _ _ h => h
theorem Off.trans {fp : List Int} (h : Off fp M M') (h2 : Off fp M' M'') : Off fp M M'' := fun x o hx ho => h2 x o hx (h x o hx ho)
theorem Off.mono {fp fp' : List Int} (h : Off fp M M') (hs : ∀ x, x ∈ fp → x ∈ fp') : Off fp' M M' := fun x o hx ho => h x o (fun hc => hx (hs x hc)) ho
theorem Off.put (M : Mem) (x i v : Int) : Off [x] M (M.put x i v) := fun y o hy ho => by rw [Mem.put_ne _ _ _ (by simpa using hy)]; exact ho
theorem Off.new {x : Int} (hx : M x = none) (k n : Int) : Off [] M (M.new x k n) := fun y o _ ho => by
  rw [Mem.new_ne]
  · exact ho
  · rintro rfl; rw [hx] at ho; cases ho
/-! ### Segments -/
structure Seg (M : Mem) (s prev : Int) (cap : Nat) (ws : List Int) : Prop where
  ex : ∃ f, M s = some ⟨15, 2 + cap, f⟩ ∧ f 0 = prev ∧ f 1 = smW ws.length ∧ ∀ i : Nat, i < ws.length → f (2 + i) = ws[i]?.getD 0
  le : ws.length ≤ cap
variable {s prev x below seg base hand : Int} {cap : Nat} {ws : List Int}
theorem Seg.off {fp : List Int} (h : Seg M s prev cap ws) (ho : Off fp M M') (hs : s ∉ fp) : Seg M' s prev cap ws := by
  obtain ⟨⟨f, h1, h2⟩, h3⟩ := h
  exact ⟨⟨f, ho _ _ hs h1, h2⟩, h3⟩
theorem Seg.obj (h : Seg M s prev cap ws) : ∃ o, M s = some o ∧ o.n = 2 + cap ∧ o.kind = 15 := by
  obtain ⟨⟨f, h1, h2⟩, h3⟩ := h
  exact ⟨_, h1, rfl, rfl⟩
theorem Seg.cp (h : Seg M s prev cap ws) (hp : Hp A m r M) : cap ≤ 238 := by
  obtain ⟨o, h1, h2, _⟩ := h.obj
  have := hp.n h1
  omega
theorem Seg.w (h : Seg M s prev cap ws) (hp : Hp A m r M) : W64 s := by
  obtain ⟨o, h1, h2, _⟩ := h.obj
  exact hp.w h1
theorem Seg.tag (h : Seg M s prev cap ws) (hp : Hp A m r M) : s % 8 = 1 := by
  obtain ⟨o, h1, h2, _⟩ := h.obj
  exact hp.tag h1
theorem Seg.rm (h : Seg M s prev cap ws) (hp : Hp A m r M) : rmF A m s = cap := by
  obtain ⟨o, h1, h2, _⟩ := h.obj
  unfold rmF
  rw [hp.sz h1, h2]; omega
theorem Seg.g0 (h : Seg M s prev cap ws) (hp : Hp A m r M) : gtF A m s 0 = prev := by
  obtain ⟨⟨f, h1, h2, h3, h4⟩, h5⟩ := h
  rw [hp.gl h1 _ (by omega) (by omega), h2]
theorem Seg.used (h : Seg M s prev cap ws) (hp : Hp A m r M) : nmF A m s 1 = ws.length := by
  have hc := h.cp hp
  obtain ⟨⟨f, h1, h2, h3, h4⟩, h5⟩ := h
  unfold nmF
  rw [hp.gl h1 _ (by omega) (by omega), h3, smW_val (by omega) (by omega)]
theorem Seg.at (h : Seg M s prev cap ws) (hp : Hp A m r M) {i : Nat} (hi : i < ws.length) : gtF A m s (2 + i) = ws[i]?.getD 0 := by
  obtain ⟨⟨f, h1, h2, h3, h4⟩, h5⟩ := h
  rw [hp.gl h1 _ (by omega) (by omega), h4 i hi]
theorem Seg.wsw (h : Seg M s prev cap ws) (hp : Hp A m r M) : ∀ i : Nat, i < ws.length → W64 (ws[i]?.getD 0) := by
  intro i hi
  rw [← h.at hp hi]
  obtain ⟨L, hk, _⟩ := hp.ex
  exact gtF_w hk.wdA _ _ _
/-- A word is another one. -/
theorem Seg.put (h : Seg M s prev cap ws) {i : Nat} (hi : i < ws.length) (v : Int) : Seg (M.put s (2 + i) v) s prev cap (ws.set i v) := by
  obtain ⟨⟨f, h1, h2, h3, h4⟩, h5⟩ := h
  refine ⟨⟨_, Mem.put_lit _ _ h1, ?_, ?_, ?_⟩, by simpa using h5⟩
  · rw [if_neg (by omega)]; exact h2
  · rw [if_neg (by omega)]; simpa using h3
  · intro j hj
    simp only [List.length_set] at hj
    by_cases hji : j = i
    · subst hji
      rw [if_pos rfl, List.getElem?_set_self hj]; rfl
    · rw [if_neg (by omega), List.getElem?_set_ne (by omega)]; exact h4 j hj
/-- Words more. -/
theorem Seg.grow (h : Seg M s prev cap ws) (vs : List Int) (g : Int → Int) (hm : M' s = some ⟨15, 2 + cap, g⟩) (hc : ws.length + vs.length ≤ cap) (g0 : g 0 = prev) (g1 : g 1 = smW (ws.length + vs.length : Nat)) (hg : ∀ i : Nat, i < ws.length → ∀ f, M s = some ⟨15, 2 + cap, f⟩ → g (2 + i) = f (2 + i)) (hv : ∀ i : Nat, i < vs.length → g (2 + (ws.length + i : Nat)) = vs[i]?.getD 0) : Seg M' s prev cap (ws ++ vs) := by
  obtain ⟨⟨f, h1, h2, h3, h4⟩, h5⟩ := h
  refine ⟨⟨g, hm, g0, by rw [List.length_append]; exact g1, ?_⟩, by rw [List.length_append]; exact hc⟩
  intro i hi
  rw [List.length_append] at hi
  rcases Nat.lt_or_ge i ws.length with h | h
  · rw [hg i h f h1, h4 i h, List.getElem?_append_left h]
  · obtain ⟨j, rfl⟩ : ∃ j, i = ws.length + j := ⟨i - ws.length, by omega⟩
    rw [hv j (by omega), List.getElem?_append_right (by omega)]
    congr 3; omega
theorem Seg.push (h : Seg M s prev cap ws) (hc : ws.length < cap) (v : Int) : Seg ((M.put s (2 + ws.length) v).put s 1 (smW (ws.length + 1))) s prev cap (ws ++ [v]) := by
  obtain ⟨f, h1, h2, h3, h4⟩ := h.ex
  refine h.grow [v] _ (Mem.put_lit _ _ (Mem.put_lit _ _ h1)) (by simp; omega) ?_ ?_ ?_ ?_
  · rw [if_neg (by omega), if_neg (by omega)]; exact h2
  · rw [if_pos rfl]; simp
  · intro i hi f2 hf2
    rw [h1] at hf2
    injection hf2 with hf2
    injection hf2 with _ _ hf2
    subst hf2
    rw [if_neg (by omega), if_neg (by omega)]
  · intro i hi
    simp only [List.length_singleton] at hi
    have : i = 0 := by omega
    subst this
    rw [if_neg (by omega), if_pos (by simp)]; rfl
theorem Seg.cut (h : Seg M s prev cap ws) {k : Nat} (hk : k ≤ ws.length) : Seg (M.put s 1 (smW k)) s prev cap (ws.take k) := by
  obtain ⟨⟨f, h1, h2, h3, h4⟩, h5⟩ := h
  refine ⟨⟨_, Mem.put_lit _ _ h1, ?_, ?_, ?_⟩, by simp; omega⟩
  · rw [if_neg (by omega)]; exact h2
  · rw [if_pos rfl, List.length_take, Nat.min_eq_left hk]
  · intro j hj
    simp only [List.length_take] at hj
    rw [if_neg (by omega), h4 j (by omega), List.getElem?_take, if_pos (by omega)]
/-! ### Fibers -/
structure Fib (M : Mem) (x below seg base hand : Int) : Prop where
  ex : ∃ f, M x = some ⟨7, 4, f⟩ ∧ f 0 = below ∧ f 1 = seg ∧ f 2 = smW base ∧ f 3 = hand
theorem Fib.off {fp : List Int} (h : Fib M x below seg base hand) (ho : Off fp M M') (hs : x ∉ fp) : Fib M' x below seg base hand := by
  obtain ⟨f, h1, h2⟩ := h.ex
  exact ⟨f, ho _ _ hs h1, h2⟩
theorem Fib.obj (h : Fib M x below seg base hand) : ∃ o, M x = some o ∧ o.n = 4 ∧ o.kind = 7 := by
  obtain ⟨f, h1, h2⟩ := h.ex
  exact ⟨_, h1, rfl, rfl⟩
theorem Fib.w (h : Fib M x below seg base hand) (hp : Hp A m r M) : W64 x := by
  obtain ⟨o, h1, _⟩ := h.obj
  exact hp.w h1
theorem Fib.tag (h : Fib M x below seg base hand) (hp : Hp A m r M) : x % 8 = 1 := by
  obtain ⟨o, h1, _⟩ := h.obj
  exact hp.tag h1
theorem Fib.g (h : Fib M x below seg base hand) (hp : Hp A m r M) : gtF A m x 0 = below ∧ gtF A m x 1 = seg ∧ gtF A m x 2 = smW base ∧ gtF A m x 3 = hand := by
  obtain ⟨f, h1, h2, h3, h4, h5⟩ := h.ex
  refine ⟨?_, ?_, ?_, ?_⟩
  · rw [hp.gl h1 _ (by omega) (by omega), h2]
  · rw [hp.gl h1 _ (by omega) (by omega), h3]
  · rw [hp.gl h1 _ (by omega) (by omega), h4]
  · rw [hp.gl h1 _ (by omega) (by omega), h5]
theorem Fib.below' (h : Fib M x below seg base hand) (v : Int) : Fib (M.put x 0 v) x v seg base hand := by
  obtain ⟨f, h1, h2, h3, h4, h5⟩ := h.ex
  exact ⟨_, Mem.put_lit _ _ h1, if_pos rfl, by rw [if_neg (by omega)]; exact h3, by rw [if_neg (by omega)]; exact h4, by rw [if_neg (by omega)]; exact h5⟩
theorem Fib.seg' (h : Fib M x below seg base hand) (v : Int) : Fib (M.put x 1 v) x below v base hand := by
  obtain ⟨f, h1, h2, h3, h4, h5⟩ := h.ex
  exact ⟨_, Mem.put_lit _ _ h1, by rw [if_neg (by omega)]; exact h2, if_pos rfl, by rw [if_neg (by omega)]; exact h4, by rw [if_neg (by omega)]; exact h5⟩
theorem Fib.base' (h : Fib M x below seg base hand) (v : Int) : Fib (M.put x 2 (smW v)) x below seg v hand := by
  obtain ⟨f, h1, h2, h3, h4, h5⟩ := h.ex
  exact ⟨_, Mem.put_lit _ _ h1, by rw [if_neg (by omega)]; exact h2, by rw [if_neg (by omega)]; exact h3, if_pos rfl, by rw [if_neg (by omega)]; exact h5⟩
theorem Fib.hand' (h : Fib M x below seg base hand) (v : Int) : Fib (M.put x 3 v) x below seg base v := by
  obtain ⟨f, h1, h2, h3, h4, h5⟩ := h.ex
  exact ⟨_, Mem.put_lit _ _ h1, by rw [if_neg (by omega)]; exact h2, by rw [if_neg (by omega)]; exact h3, by rw [if_neg (by omega)]; exact h4, if_pos rfl⟩
theorem fib_seg_ne (h : Fib M x below seg base hand) (h2 : Seg M s prev cap ws) : x ≠ s := by
  rintro rfl
  obtain ⟨o, e1, _, e2⟩ := h.obj
  obtain ⟨o2, e3, _, e4⟩ := h2.obj
  rw [e1] at e3
  injection e3 with e3
  subst e3
  omega
/-! ### Frames -/
/-- A frame: its closure, its number, its slots, its words, for how many of them it has room. -/
structure Frm where
  cl : Int
  pc : Int
  slots : List Int
  words : List Int
  room : Nat
def Frm.len (f : Frm) : Nat := 5 + f.slots.length + f.words.length
def szL : List Frm → Nat
  | [] => 0
  | f :: r => szL r + f.len
/-- Where the topmost frame begins. -/
def lk (l0 : Int) : List Frm → Int
  | [] => l0
  | _ :: r => szL r
def Frm.enc (f : Frm) (link : Int) : List Int := [f.cl, smW f.pc, smW link, smW f.slots.length, smW f.room] ++ f.slots ++ f.words
def enc (l0 : Int) : List Frm → List Int
  | [] => []
  | f :: r => enc l0 r ++ f.enc (lk l0 r)
theorem Frm.len_enc (f : Frm) (link : Int) : (f.enc link).length = f.len := by simp [Frm.enc, Frm.len]; omega
theorem len_enc (l0 : Int) (fs : List Frm) : (enc l0 fs).length = szL fs := by
  induction fs with
  | nil => rfl
  | cons f r ih => simp only [enc, szL, List.length_append, ih, Frm.len_enc]
def fits (cap : Nat) : List Frm → Prop
  | [] => True
  | f :: r => szL r + 5 + f.slots.length + f.room ≤ cap ∧ f.words.length ≤ f.room ∧ -1000000 ≤ f.pc ∧ f.pc ≤ 1000000 ∧ fits cap r
theorem enc_at (l0 : Int) (f : Frm) (r : List Frm) (k : Nat) : (enc l0 (f :: r))[szL r + k]? = (f.enc (lk l0 r))[k]? := by
  simp only [enc]
  rw [List.getElem?_append_right (by rw [len_enc]; omega), len_enc]
  congr 1; omega
theorem Frm.at5 (f : Frm) (link : Int) (i : Nat) (hi : i < f.slots.length) : (f.enc link)[5 + i]? = f.slots[i]? := by
  unfold Frm.enc
  rw [List.getElem?_append_left (by simp; omega), List.getElem?_append_right (by simp)]
  congr 1; simp
theorem Frm.atw (f : Frm) (link : Int) (i : Nat) : (f.enc link)[5 + f.slots.length + i]? = f.words[i]? := by
  unfold Frm.enc
  rw [List.getElem?_append_right (by simp; omega)]
  congr 1; simp; omega
theorem Frm.enc_pc (f : Frm) (link n : Int) : (f.enc link).set 1 (smW n) = Frm.enc { f with pc := n } link := rfl
theorem Frm.enc_push (f : Frm) (link v : Int) : f.enc link ++ [v] = Frm.enc { f with words := f.words ++ [v] } link := by simp [Frm.enc]
end Go.Proofs.Ytjgndfhfiekomaa
