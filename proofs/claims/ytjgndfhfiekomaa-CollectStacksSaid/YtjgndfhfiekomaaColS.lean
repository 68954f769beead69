/- Collecting on paper: what the tracer keeps true. No program in sight. -/
import Derived.Test.YtjgndfhfiekomaaColR
import Derived.Test.YtjgndfhfiekomaaColP
namespace Go.Proofs.Ytjgndfhfiekomaa
variable {A A' : Ar} {m N : Nat} {G K G' K' : List Bool} {D C C' : Nat → Option Ob} {R E : Nat → Prop} {T : Tr} {ms ms' ws : List Nat} {p : Nat → Nat} {cl : Int → Int}
/-- A word and what stands for it. -/
def Tx (D C : Nat → Option Ob) (ms : List Nat) (x y : Int) : Prop :=
  (x % 8 ≠ 1 ∧ y = x) ∨ ∃ k ok ck, D k = some ok ∧ x = pw ok.a ∧ k ∈ ms ∧ C k = some ck ∧ y = pw ck.a
theorem Tx.mono {x y : Int} (h : Tx D C ms x y) (hm : ∀ j, j ∈ ms → j ∈ ms') (hc : ∀ j c, j ∈ ms → C j = some c → ∃ c', C' j = some c' ∧ c'.a = c.a) : Tx D C' ms' x y := by
  rcases h with h | ⟨k, ok, ck, h1, h2, h3, h4, h5⟩
  · exact .inl h
  · obtain ⟨c', h6, h7⟩ := hc k ck h3 h4
    exact .inr ⟨k, ok, c', h1, h2, hm k h3, h6, by rw [h7]; exact h5⟩
/-- An object as it was and as it is, so many of its fields translated. -/
structure Cur (D C : Nat → Option Ob) (ms : List Nat) (n : Nat) (o c : Ob) : Prop where
  k : c.kind = o.kind
  q : c.pins = o.pins
  l : c.fs.length = o.fs.length
  a : ∀ i, i < n → i < o.fs.length → Tx D C ms (o.fs[i]?.getD 0) (c.fs[i]?.getD 0)
  b : ∀ i, n ≤ i → c.fs[i]? = o.fs[i]?
theorem Cur.mono {n : Nat} {o c : Ob} (h : Cur D C ms n o c) (hm : ∀ j, j ∈ ms → j ∈ ms') (hc : ∀ j c, j ∈ ms → C j = some c → ∃ c', C' j = some c' ∧ c'.a = c.a) : Cur D C' ms' n o c :=
  ⟨h.k, h.q, h.l, fun i h1 h2 => (h.a i h1 h2).mono hm hc, h.b⟩
def cntO (o : Ob) : Nat := (countF o.kind o.fs.length (o.fs[1]?.getD 0)).toNat
theorem countF_le (k n u : Int) (hn : 0 ≤ n) : countF k n u ≤ n := by unfold countF; split; omega; split; omega; split <;> omega
theorem cntO_le (o : Ob) : cntO o ≤ o.fs.length := by
  have := countF_le o.kind o.fs.length (o.fs[1]?.getD 0) (by omega)
  unfold cntO; omega
structure TI (D : Nat → Option Ob) (R : Nat → Prop) (m : Nat) (cl : Int → Int) (T : Tr) (G K : List Bool) (C : Nat → Option Ob) (ms ws : List Nat) (p : Nat → Nat) (E : Nat → Prop) : Prop where
  hg : HG T.A m G K C
  cd : ∀ j c, C j = some c → ∃ o, D j = some o
  dc : ∀ j o, D j = some o → ∃ c, C j = some c ∧ Cur D C ms (p j) o c ∧ (j ∉ ms → c = o ∧ p j = 0)
  fw : ∀ j o c, D j = some o → C j = some c → c.a ≠ o.a → T.A.wd o.a = mkW 7 c.a ∧ own G K o.a ∧ c.pins = 0 ∧ ∀ i ci, C i = some ci → ¬(ci.a ≤ o.a ∧ o.a < ci.e)
  nd : ms.Nodup
  md : ∀ j, j ∈ ms → (∃ o, D j = some o) ∧ R j
  wn : ws.Nodup
  wm : ∀ j, j ∈ ws → j ∈ ms
  lv : T.live = ms.length
  m0 : 0 ≤ T.moved
  m1 : T.moved ≤ T.live
  mz : T.moved = 0 → ∀ j o c, D j = some o → C j = some c → c.a = o.a
  cz : (∀ x, cl x = 0) → T.moved = 0
  sl : T.seen.length = m * 256
  sn : ∀ a, a < m * 256 → (T.seen[a]?.getD true = true ↔ ∃ j c, j ∈ ms ∧ C j = some c ∧ c.a = a)
  mr : ∀ i, i < m * 16 → (mk' T.A.lines i = true ↔ ∃ j c, j ∈ ms ∧ C j = some c ∧ c.a / 16 ≤ i ∧ i ≤ (c.e - 1) / 16)
  wk : T.work = ws.map fun j => pw (((C j).map Ob.a).getD 0)
  p0 : ∀ j, j ∈ ws → p j = 0
  sc : ∀ j o, j ∈ ms → j ∉ ws → ¬ E j → D j = some o → p j = cntO o
theorem pw_mod (a : Nat) : pw a % 8 = 1 := by unfold pw; omega
theorem pw_div (a : Nat) : pw a / 8 = a := by unfold pw; omega
theorem pw_inj {a b : Nat} (h : pw a = pw b) : a = b := by unfold pw at h; omega
theorem wVal_pw (a : Nat) : wVal (pw a) = a := by rw [val1 _ (pw_mod a), pw_div]
theorem szI_ob (h : HG A m G K C) {j : Nat} {o : Ob} (ho : C j = some o) : szI A m (pw o.a) = o.fs.length := by
  unfold szI; rw [h.hat ho]; rfl
theorem movedF_ob (h : HG A m G K C) {j : Nat} {o : Ob} (ho : C j = some o) : movedF A m (pw o.a) = none := by
  unfold movedF
  rw [pw_div, Int.toNat_natCast, (h.ob j o ho).hd]
  rw [if_neg]
  unfold hdW; omega
theorem movedF_fw {a k : Nat} (ha : a < m * 256) (hk : k < 1048577) (h : A.wd a = mkW 7 k) : movedF A m (pw a) = some (pw k) := by
  unfold movedF
  rw [pw_div, Int.toNat_natCast, h, if_pos ⟨pw_mod a, by omega, by unfold mkW; omega⟩]
  congr 1
  unfold mkW pw; omega
/-- What move does with an object. -/
theorem moveT_ob (h : HG T.A m G K C) {j : Nat} {o : Ob} (ho : C j = some o) :
    ∃ (A' : Ar) (G' : List Bool) (k : Nat) (lf mv : Int) (b : Bool), moveT cl m T (pw o.a) = ({ T with A := A', left := lf, moved := mv }, pw k, b) ∧ HG A' m G' K (updD C j { o with a := k }) ∧
      (∀ q, own G K q → own G' K q) ∧ (∀ q, own G K q → q ≠ o.a → A'.wd q = T.A.wd q) ∧ (∀ i, mk' A'.lines i = mk' T.A.lines i) ∧ (k = o.a → mv = T.moved) ∧
      (k ≠ o.a → A'.wd o.a = mkW 7 k ∧ o.pins = 0 ∧ (¬ ∀ x, cl x = 0) ∧ mv = T.moved + 1 ∧ ∀ q, k ≤ q → q < k + o.fs.length + 1 → ¬ own G K q) := by
  unfold moveT
  split
  · exact ⟨T.A, G, o.a, T.left, T.moved, false, rfl, by rw [show ({ o with a := o.a } : Ob) = o from rfl, updD_same ho]; exact h, fun _ h => h, fun _ _ _ => rfl, fun _ => rfl, fun _ => rfl, fun h => absurd rfl h⟩
  · rename_i hc
    have hm := h.move ho
    obtain ⟨hm1, hm2⟩ := hm
    cases hx : (moveF T.A m (pw o.a)).2 with
    | none =>
      rw [hx] at hm2
      obtain ⟨h1, h2⟩ := hm2
      exact ⟨_, G, o.a, T.left, T.moved, false, rfl, by rw [show ({ o with a := o.a } : Ob) = o from rfl, updD_same ho]; exact h1, fun _ h => h, fun q _ _ => h2 q, hm1, fun _ => rfl, fun h => absurd rfl h⟩
    | some x =>
      rw [hx] at hm2
      obtain ⟨k, G', h1, h2, h3, h4, h5, h6, h7⟩ := hm2
      subst h1
      have hne : k ≠ o.a := by
        intro he
        exact h7 k (by omega) (by omega) (by rw [he]; exact (h.ob j o ho).gv o.a (by omega) (by rw [o.ee]; omega))
      refine ⟨_, G', k, _, _, true, rfl, h3, h5, h6, hm1, fun he => absurd he hne, fun _ => ⟨h4, h2, ?_, rfl, h7⟩⟩
      intro hz
      apply hc
      simp [mvB, hz]
/-- An object is met. -/
theorem TI.meet (h : TI D R m cl T G K C ms ws p E) {j : Nat} {o : Ob} (hD : D j = some o) (hj : j ∉ ms) (hR : R j) {k : Nat} {lf mv : Int}
    (hg : HG A' m G' K (updD C j { o with a := k })) (ho : ∀ q, own G K q → own G' K q) (hw : ∀ q, own G K q → q ≠ o.a → A'.wd q = T.A.wd q) (hm : ∀ i, mk' A'.lines i = mk' T.A.lines i) (h1 : k = o.a → mv = T.moved)
    (h2 : k ≠ o.a → A'.wd o.a = mkW 7 k ∧ o.pins = 0 ∧ (¬ ∀ x, cl x = 0) ∧ mv = T.moved + 1 ∧ ∀ q, k ≤ q → q < k + o.fs.length + 1 → ¬ own G K q) :
    TI D R m cl { T with A := A'.mark m (k : Int) ((o.fs.length + 1 : Nat) : Int), left := lf, moved := mv, seen := T.seen.set k true, live := T.live + 1, work := T.work ++ [pw k] } G' K (updD C j { o with a := k }) (ms ++ [j]) (ws ++ [j]) p E := by
  obtain ⟨c, hC, hcu, hcn⟩ := h.dc j o hD
  obtain ⟨hco, hp0⟩ := hcn hj
  subst hco
  have hb := (hg.ob j _ (updD_self _ _ _)).b
  have he : Ob.e { c with a := k } = k + c.fs.length + 1 := rfl
  have hce := c.ee
  rw [he] at hb
  obtain ⟨g1, g2, g3⟩ := hg.mark k (c.fs.length + 1) (by omega) (by omega)
  have hcown : own G K c.a := (h.hg.ob j c hC).gv c.a (by omega) (by omega)
  have hag : ∀ i, i ≠ j → updD C j { c with a := k } i = C i := fun i hi => updD_ne _ _ hi
  have hmj : ∀ i, i ∈ ms → i ≠ j := fun i hi hij => hj (hij ▸ hi)
  have hmono : ∀ i ci, i ∈ ms → C i = some ci → ∃ c', updD C j { c with a := k } i = some c' ∧ c'.a = ci.a := fun i ci hi hci => ⟨ci, by rw [hag i (hmj i hi)]; exact hci, rfl⟩
  have hmem : ∀ i, i ∈ ms ++ [j] → i ∈ ms ∨ i = j := fun i hi => by simpa using hi
  refine ⟨g1, ?_, ?_, ?_, ?_, ?_, ?_, ?_, ?_, ?_, ?_, ?_, ?_, ?_, ?_, ?_, ?_, ?_, ?_⟩
  · intro i ci hci
    by_cases hij : i = j
    · subst hij; exact ⟨_, hD⟩
    · rw [hag i hij] at hci; exact h.cd i ci hci
  · intro i oi hoi
    by_cases hij : i = j
    · subst hij
      rw [hD] at hoi
      injection hoi with hoi
      subst hoi
      refine ⟨_, updD_self _ _ _, ⟨rfl, rfl, rfl, fun q hq => by rw [hp0] at hq; omega, fun _ _ => rfl⟩, fun hn => absurd (by simp) hn⟩
    · obtain ⟨ci, a1, a2, a3⟩ := h.dc i oi hoi
      exact ⟨ci, by rw [hag i hij]; exact a1, a2.mono (fun q hq => by simp [hq]) hmono, fun hn => a3 (fun hi => hn (by simp [hi]))⟩
  · intro i oi ci hoi hci hne
    by_cases hij : i = j
    · subst hij
      rw [hD] at hoi
      injection hoi with hoi
      subst hoi
      rw [updD_self] at hci
      injection hci with hci
      subst hci
      simp only at hne ⊢
      obtain ⟨b1, b2, b3, b4, b5⟩ := h2 hne
      refine ⟨by rw [g2]; exact b1, ho _ hcown, b2, ?_⟩
      intro q cq hq hcon
      by_cases hqj : q = i
      · subst hqj
        rw [updD_self] at hq
        injection hq with hq
        subst hq
        rw [he] at hcon
        exact b5 c.a hcon.1 (by omega) hcown
      · rw [hag q hqj] at hq
        exact h.hg.ap q i cq c hqj hq hC c.a hcon.1 hcon.2 (by omega) (by omega)
    · rw [hag i hij] at hci
      obtain ⟨b1, b2, b3, b4⟩ := h.fw i oi ci hoi hci hne
      have hnc : oi.a ≠ c.a := fun heq => b4 j c hC ⟨by omega, by omega⟩
      refine ⟨by simp only; rw [g2, hw _ b2 hnc]; exact b1, ho _ b2, b3, ?_⟩
      intro q cq hq hcon
      by_cases hqj : q = j
      · subst hqj
        rw [updD_self] at hq
        injection hq with hq
        subst hq
        rw [he] at hcon
        by_cases hk : k = c.a
        · subst hk
          exact b4 q c hC ⟨hcon.1, by omega⟩
        · exact (h2 hk).2.2.2.2 oi.a hcon.1 (by omega) b2
      · rw [hag q hqj] at hq
        exact b4 q cq hq hcon
  · exact List.nodup_append.2 ⟨h.nd, by simp, fun a ha b hb => by simp at hb; subst hb; exact hmj a ha⟩
  · intro i hi
    rcases hmem i hi with hi | rfl
    · exact h.md i hi
    · exact ⟨⟨_, hD⟩, hR⟩
  · exact List.nodup_append.2 ⟨h.wn, by simp, fun a ha b hb => by simp at hb; subst hb; exact hmj a (h.wm a ha)⟩
  · intro i hi
    simp only [List.mem_append, List.mem_singleton] at hi ⊢
    exact hi.imp (h.wm i) id
  · simp [h.lv]
  · have := h.m0
    simp only
    by_cases hk : k = c.a
    · rw [h1 hk]; exact this
    · rw [(h2 hk).2.2.2.1]; omega
  · have := h.m1
    simp only
    by_cases hk : k = c.a
    · rw [h1 hk]; omega
    · rw [(h2 hk).2.2.2.1]; omega
  · have m0 := h.m0
    simp only
    intro hz i oi ci hoi hci
    by_cases hk : k = c.a
    · rw [h1 hk] at hz
      by_cases hij : i = j
      · subst hij
        rw [hD] at hoi
        injection hoi with hoi
        rw [updD_self] at hci
        injection hci with hci
        subst hci hoi
        exact hk
      · rw [hag i hij] at hci
        exact h.mz hz i oi ci hoi hci
    · rw [(h2 hk).2.2.2.1] at hz; omega
  · intro hz
    have := h.cz hz
    simp only
    by_cases hk : k = c.a
    · rw [h1 hk]; exact this
    · exact absurd hz (h2 hk).2.2.1
  · simp [h.sl]
  · intro a ha
    have hold := h.sn a ha
    have hsl := h.sl
    simp only
    by_cases hak : a = k
    · subst hak
      rw [List.getElem?_set_self (by omega)]
      simp only [Option.getD_some, true_iff]
      exact ⟨j, _, by simp, updD_self _ _ _, rfl⟩
    · rw [List.getElem?_set_ne (Ne.symm hak), hold]
      constructor
      · rintro ⟨i, ci, a1, a2, a3⟩
        exact ⟨i, ci, by simp [a1], by rw [hag i (hmj i a1)]; exact a2, a3⟩
      · rintro ⟨i, ci, a1, a2, a3⟩
        rcases hmem i a1 with a1 | rfl
        · rw [hag i (hmj i a1)] at a2
          exact ⟨i, ci, a1, a2, a3⟩
        · rw [updD_self] at a2
          injection a2 with a2
          subst a2
          exact absurd a3.symm hak
  · intro i hi
    have hold := h.mr i hi
    simp only
    rw [g3, hm]
    by_cases hc : k / 16 ≤ i ∧ i ≤ (k + (c.fs.length + 1) - 1) / 16
    · rw [if_pos hc]
      simp only [true_iff]
      exact ⟨j, _, by simp, updD_self _ _ _, hc.1, by rw [he]; exact hc.2⟩
    · rw [if_neg hc, hold]
      constructor
      · rintro ⟨i, ci, a1, a2, a3⟩
        exact ⟨i, ci, by simp [a1], by rw [hag i (hmj i a1)]; exact a2, a3⟩
      · rintro ⟨q, ci, a1, a2, a3⟩
        rcases hmem q a1 with a1 | rfl
        · rw [hag q (hmj q a1)] at a2
          exact ⟨q, ci, a1, a2, a3⟩
        · rw [updD_self] at a2
          injection a2 with a2
          subst a2
          rw [he] at a3
          exact absurd a3 hc
  · simp only [List.map_append, List.map_cons, List.map_nil, updD_self, Option.map_some, Option.getD_some]
    rw [h.wk]
    congr 1
    apply List.map_congr_left
    intro i hi
    rw [hag i (hmj i (h.wm i hi))]
  · intro i hi
    simp only [List.mem_append, List.mem_singleton] at hi
    rcases hi with hi | rfl
    · exact h.p0 i hi
    · exact hp0
  · intro i oi hi hn hE hoi
    simp only [List.mem_append, List.mem_singleton, not_or] at hn
    rcases hmem i hi with hi | rfl
    · exact h.sc i oi hi hn.1 hE hoi
    · exact absurd rfl hn.2
/-- A word that may be followed. -/
def Fol (D : Nat → Option Ob) (R : Nat → Prop) (x : Int) : Prop := x % 8 ≠ 1 ∨ ∃ j o, D j = some o ∧ x = pw o.a ∧ R j
theorem TI.follow (h : TI D R m cl T G K C ms ws p E) (x : Int) (hx : Fol D R x) :
    ∃ G' C' ns, TI D R m cl (followT cl m T x).1 G' K C' (ms ++ ns) (ws ++ ns) p E ∧ Tx D C' (ms ++ ns) x (followT cl m T x).2 ∧ ∀ j, j ∈ ms → C' j = C j := by
  rcases hx with hx | ⟨j, o, hD, rfl, hR⟩
  · have : followT cl m T x = (T, x) := by unfold followT; rw [if_pos hx]
    rw [this]
    exact ⟨G, C, [], by simpa using h, .inl ⟨hx, rfl⟩, fun _ _ => rfl⟩
  · obtain ⟨c, hC, hcu, hcn⟩ := h.dc j o hD
    have hm2 := h.hg.inv.ok.m2
    have hcb := (h.hg.ob j c hC).b
    have hce := c.ee
    by_cases hj : j ∈ ms
    · by_cases ha : c.a = o.a
      · have : followT cl m T (pw o.a) = (T, pw o.a) := by
          unfold followT
          rw [if_neg (by rw [pw_mod]; simp), ← ha, movedF_ob h.hg hC]
          simp only
          rw [if_pos]
          refine .inr (.inr ?_)
          rw [wVal_pw, Int.toNat_natCast]
          exact (h.sn c.a (by omega)).2 ⟨j, c, hj, hC, rfl⟩
        rw [this]
        exact ⟨G, C, [], by simpa using h, .inr ⟨j, o, c, hD, rfl, by simpa using hj, hC, by rw [ha]⟩, fun _ _ => rfl⟩
      · obtain ⟨f1, f2, f3, f4⟩ := h.fw j o c hD hC ha
        have hoa : o.a < m * 256 := h.hg.own_lt f2
        have : followT cl m T (pw o.a) = (T, pw c.a) := by
          unfold followT
          rw [if_neg (by rw [pw_mod]; simp), movedF_fw hoa (by omega) f1]
        rw [this]
        exact ⟨G, C, [], by simpa using h, .inr ⟨j, o, c, hD, rfl, by simpa using hj, hC, rfl⟩, fun _ _ => rfl⟩
    · obtain ⟨hco, hp0⟩ := hcn hj
      subst hco
      obtain ⟨A', G', k, lf, mv, b, e1, e2, e3, e4, e5, e6, e7⟩ := moveT_ob (cl := cl) h.hg hC
      have hkb := (e2.ob j _ (updD_self _ _ _)).b
      have hke : Ob.e { c with a := k } = k + c.fs.length + 1 := rfl
      rw [hke] at hkb
      have hfw : followT cl m T (pw c.a) = ({ T with A := A'.mark m (k : Int) ((c.fs.length + 1 : Nat) : Int), left := lf, moved := mv, seen := T.seen.set k true, live := T.live + 1, work := T.work ++ [pw k] }, pw k) := by
        unfold followT
        rw [if_neg (by rw [pw_mod]; simp), movedF_ob h.hg hC]
        simp only
        rw [if_neg, e1]
        · simp only [szI_ob h.hg hC, wVal_pw, Int.toNat_natCast]
          rfl
        · rw [szI_ob h.hg hC, wVal_pw, Int.toNat_natCast, h.sl]
          rintro (h1 | h1 | h1)
          · omega
          · omega
          · obtain ⟨i, ci, a1, a2, a3⟩ := (h.sn c.a (by omega)).1 h1
            have hij : i ≠ j := fun he => hj (he ▸ a1)
            have hcie := ci.ee
            exact h.hg.ap i j ci c hij a2 hC c.a (by omega) (by omega) (by omega) (by omega)
      rw [hfw]
      refine ⟨G', _, [j], h.meet hD hj hR e2 e3 e4 e5 e6 e7, .inr ⟨j, c, _, hD, rfl, by simp, updD_self _ _ _, rfl⟩, fun i hi => updD_ne _ _ (fun he => hj (he ▸ hi))⟩
theorem len_nodup (N : Nat) (l : List Nat) (hn : l.Nodup) (hl : ∀ x, x ∈ l → x < N) : l.length ≤ N := by
  induction N generalizing l with
  | zero =>
    cases l with
    | nil => simp
    | cons x l => have := hl x (by simp); omega
  | succ N ih =>
    by_cases hN : N ∈ l
    · have h1 := ih (l.erase N) (hn.erase N) (fun x hx => by
        have h2 := (hn.mem_erase_iff).1 hx
        have := hl x h2.2
        have := h2.1
        omega)
      rw [List.length_erase_of_mem hN] at h1
      omega
    · have := ih l hn (fun x hx => by
        have := hl x hx
        have : x ≠ N := fun h => hN (h ▸ hx)
        omega)
      omega
theorem TI.len (h : TI D R m cl T G K C ms ws p E) (hN : ∀ j o, D j = some o → j < N) : ms.length ≤ N ∧ ws.length ≤ N :=
  ⟨len_nodup N ms h.nd fun x hx => by obtain ⟨⟨o, ho⟩, _⟩ := h.md x hx; exact hN x o ho, len_nodup N ws h.wn fun x hx => by obtain ⟨⟨o, ho⟩, _⟩ := h.md x (h.wm x hx); exact hN x o ho⟩
theorem TI.bd (h : TI D R m cl T G K C ms ws p E) (hN : ∀ j o, D j = some o → j < N) (hN2 : N ≤ 1000000) : T.Bd := by
  have hl := h.len hN
  have := h.lv
  have := h.m0
  have := h.m1
  refine ⟨by omega, by omega, ?_⟩
  rw [h.wk, List.length_map]; omega
/-- Rows of words, and what stands for them. -/
def Rel2 (P : Int → Int → Prop) (l l' : List Int) : Prop := l'.length = l.length ∧ ∀ i, i < l.length → P (l[i]?.getD 0) (l'[i]?.getD 0)
theorem TI.followL (h : TI D R m cl T G K C ms ws p E) (hN : ∀ j o, D j = some o → j < N) (hN2 : N ≤ 1000000) (l : List Int) (hl : ∀ x, x ∈ l → Fol D R x) (hw : ∀ x, x ∈ l → 0 ≤ x ∧ x < 18446744073709551616) :
    BdL cl m T l ∧ ∃ G' C' ns, TI D R m cl (followL cl m T l).1 G' K C' (ms ++ ns) (ws ++ ns) p E ∧ Rel2 (Tx D C' (ms ++ ns)) l (Go.Proofs.Ytjgndfhfiekomaa.followL cl m T l).2 ∧ ∀ j, j ∈ ms → C' j = C j := by
  induction l generalizing T G C ms ws with
  | nil => exact ⟨trivial, G, C, [], by simpa [Go.Proofs.Ytjgndfhfiekomaa.followL] using h, ⟨rfl, by simp⟩, fun _ _ => rfl⟩
  | cons x l ih =>
    obtain ⟨G1, C1, n1, h1, h2, h3⟩ := h.follow x (hl x (by simp))
    obtain ⟨b, G2, C2, n2, k1, k2, k3⟩ := ih h1 (fun y hy => hl y (by simp [hy])) (fun y hy => hw y (by simp [hy]))
    refine ⟨⟨h.bd hN hN2, hw x (by simp), b⟩, G2, C2, n1 ++ n2, by simpa [Go.Proofs.Ytjgndfhfiekomaa.followL] using k1, ⟨by simp [Go.Proofs.Ytjgndfhfiekomaa.followL, k2.1], ?_⟩, fun j hj => by rw [k3 j (by simp [hj]), h3 j hj]⟩
    intro i hi
    cases i with
    | zero =>
      simp only [Go.Proofs.Ytjgndfhfiekomaa.followL, List.getElem?_cons_zero, Option.getD_some]
      refine h2.mono (fun j hj => by simp only [List.mem_append] at hj ⊢; rcases hj with hj | hj <;> simp [hj]) (fun j c hj hc => ⟨c, by rw [k3 j hj]; exact hc, rfl⟩)
    | succ i =>
      simp only [Go.Proofs.Ytjgndfhfiekomaa.followL, List.getElem?_cons_succ]
      have := k2.2 i (by simpa using hi)
      simpa using this
theorem TI.followR (h : TI D R m cl T G K C ms ws p E) (hN : ∀ j o, D j = some o → j < N) (hN2 : N ≤ 1000000) (ls : List (List Int)) (hl : ∀ l, l ∈ ls → ∀ x, x ∈ l → Fol D R x) (hw : ∀ l, l ∈ ls → ∀ x, x ∈ l → 0 ≤ x ∧ x < 18446744073709551616) :
    BdR cl m T ls ∧ ∃ G' C' ns, TI D R m cl (followR cl m T ls).1 G' K C' (ms ++ ns) (ws ++ ns) p E ∧ (∀ r, r < ls.length → Rel2 (Tx D C' (ms ++ ns)) (ls[r]?.getD []) ((Go.Proofs.Ytjgndfhfiekomaa.followR cl m T ls).2[r]?.getD [])) ∧ ∀ j, j ∈ ms → C' j = C j := by
  induction ls generalizing T G C ms ws with
  | nil => exact ⟨trivial, G, C, [], by simpa [Go.Proofs.Ytjgndfhfiekomaa.followR] using h, by simp, fun _ _ => rfl⟩
  | cons l ls ih =>
    obtain ⟨b1, G1, C1, n1, h1, h2, h3⟩ := h.followL hN hN2 l (hl l (by simp)) (hw l (by simp))
    obtain ⟨b, G2, C2, n2, k1, k2, k3⟩ := ih h1 (fun y hy => hl y (by simp [hy])) (fun y hy => hw y (by simp [hy]))
    refine ⟨⟨b1, b⟩, G2, C2, n1 ++ n2, by simpa [Go.Proofs.Ytjgndfhfiekomaa.followR] using k1, ?_, fun j hj => by rw [k3 j (by simp [hj]), h3 j hj]⟩
    intro i hi
    cases i with
    | zero =>
      simp only [Go.Proofs.Ytjgndfhfiekomaa.followR, List.getElem?_cons_zero, Option.getD_some]
      exact ⟨h2.1, fun q hq => (h2.2 q hq).mono (fun j hj => by simp only [List.mem_append] at hj ⊢; rcases hj with hj | hj <;> simp [hj]) (fun j c hj hc => ⟨c, by rw [k3 j hj]; exact hc, rfl⟩)⟩
    | succ i =>
      simp only [Go.Proofs.Ytjgndfhfiekomaa.followR, List.getElem?_cons_succ]
      have := k2 i (by simpa using hi)
      simpa using this
end Go.Proofs.Ytjgndfhfiekomaa
