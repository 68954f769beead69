/- AgendaRuns: the document's agenda on paper. No program in sight. -/
import Derived.Test.YtdaoaddpbibnmaaAgendaG
import Derived.Test.YtdaoaddpbibnmaaAgendaI
set_option linter.all false
namespace Go.Proofs.Ytdaoaddpbibnmaa
open Go.ChangeShapes Go.WideShapes Go.RowKit
def E3.w2 (e : E3) : W2 := ⟨e.t, e.w⟩
/-- The agenda, in order. -/
structure Mir (l : List E3) (added : Int) (L : List E3) : Prop where
  p : l.Perm L
  s : SortedE L
  nd : (L.map E3.n).Nodup
  lt : ∀ e, e ∈ L → e.n < added
variable {l l' L L2 : List E3} {added : Int}
theorem Mir.none : Mir [] 0 [] := ⟨List.Perm.refl _, List.Pairwise.nil, List.nodup_nil, by simp⟩
theorem same_turn {a b : E3} (nd : (L.map E3.n).Nodup) (ha : a ∈ L) (hb : b ∈ L) (h : a.n = b.n) : a = b := by
  obtain ⟨i, hi, rfl⟩ := List.mem_iff_getElem.1 ha
  obtain ⟨j, hj, rfl⟩ := List.mem_iff_getElem.1 hb
  have hp := List.pairwise_iff_getElem.1 nd
  rcases Nat.lt_trichotomy i j with hc | hc | hc
  · exact absurd (by rw [List.getElem_map, List.getElem_map]; exact h) (hp i j (by simpa using hi) (by simpa using hj) hc)
  · subst hc; rfl
  · exact absurd (by rw [List.getElem_map, List.getElem_map]; exact h.symm) (hp j i (by simpa using hj) (by simpa using hi) hc)
theorem Mir.uniq (h : Mir l added L) (hp : L2.Perm l) (hs : SortedE L2) : L2 = L := by
  have hq := hp.trans h.p
  refine List.Perm.eq_of_pairwise (le := fun a b => ltE b a = false) ?_ hs h.s hq
  intro a b ha hb h1 h2
  rw [ltE_no] at h1 h2
  exact same_turn h.nd (hq.mem_iff.1 ha) hb (by omega)
theorem Mir.len (h : Mir l added L) : l.length = L.length := h.p.length_eq
/-- One is added: behind all that come no later. -/
theorem Mir.add (h : Mir l added L) {t x : Int} {k : Nat} (hk : k ≤ L.length) (h1 : ∀ i, i < k → (nth L i).t ≤ t) (h2 : k < L.length → t < (nth L k).t) (hp : l'.Perm (⟨t, added, x⟩ :: l)) :
    Mir l' (added + 1) (L.take k ++ ⟨t, added, x⟩ :: L.drop k) := by
  have hmid : (L.take k ++ (⟨t, added, x⟩ : E3) :: L.drop k).Perm (⟨t, added, x⟩ :: L) := by
    have := List.perm_middle (a := (⟨t, added, x⟩ : E3)) (l₁ := L.take k) (l₂ := L.drop k)
    rwa [List.take_append_drop] at this
  have hs := List.pairwise_iff_getElem.1 h.s
  refine ⟨hp.trans ((h.p.cons _).trans hmid.symm), ?_, ?_, ?_⟩
  · unfold SortedE
    have hc : (L.take k ++ L.drop k).Pairwise (fun a b => ltE b a = false) := by rw [List.take_append_drop]; exact h.s
    rw [List.pairwise_append] at hc
    rw [List.pairwise_append, List.pairwise_cons]
    refine ⟨hc.1, ⟨fun b hb => ?_, hc.2.1⟩, fun a ha b hb => ?_⟩
    · obtain ⟨j, hj, rfl⟩ := List.mem_iff_getElem.1 hb
      rw [List.length_drop] at hj
      rw [List.getElem_drop, ltE_no]
      have h3 := h2 (by omega)
      have e1 : nth L k = L[k]'(by omega) := by simp [nth, List.getElem?_eq_getElem (show k < L.length by omega)]
      rw [e1] at h3
      by_cases hj0 : j = 0
      · subst hj0; simp only [Nat.add_zero]; omega
      · have := hs k (k + j) (by omega) (by omega) (by omega)
        rw [ltE_no] at this
        simp only
        omega
    · rcases List.mem_cons.1 hb with rfl | hb
      · obtain ⟨j, hj, rfl⟩ := List.mem_iff_getElem.1 ha
        rw [List.length_take] at hj
        have h3 := h1 j (by omega)
        have e1 : nth L j = L[j]'(by omega) := by simp [nth, List.getElem?_eq_getElem (show j < L.length by omega)]
        rw [e1] at h3
        have h4 := h.lt _ (List.mem_of_mem_take ha)
        rw [List.getElem_take] at h4 ⊢
        rw [ltE_no]
        simp only
        omega
      · exact hc.2.2 a ha b hb
  · refine (List.Perm.nodup_iff (hmid.map E3.n)).2 ?_
    simp only [List.map_cons, List.nodup_cons]
    refine ⟨fun hm => ?_, h.nd⟩
    obtain ⟨y, hy, he⟩ := List.mem_map.1 hm
    have := h.lt y hy
    omega
  · intro e he
    rcases List.mem_cons.1 (hmid.mem_iff.1 he) with rfl | he
    · simp only; omega
    · have := h.lt e he; omega
/-- The first one goes. -/
theorem Mir.next {x : E3} (h : Mir l added (x :: L)) (hh : HeapF ltE (nth l) l.length) (hp : l.Perm (nth l 0 :: l')) : nth l 0 = x ∧ Mir l' added L := by
  have hx : nth l 0 = x := first_is h.p hh (by simp) (fun y hy => by
    rcases List.mem_cons.1 hy with hy | hy
    · exact .inl hy
    · right
      have h1 := (List.pairwise_cons.1 h.s).1 y hy
      exact later h1 (fun he => by
        have h2 := h.nd
        simp only [List.map_cons, List.nodup_cons] at h2
        exact h2.1 (he ▸ List.mem_map_of_mem hy)))
  refine ⟨hx, ?_, (List.pairwise_cons.1 h.s).2, ?_, fun e he => h.lt e (List.mem_cons_of_mem _ he)⟩
  · rw [hx] at hp
    exact (List.perm_cons _).1 (hp.symm.trans h.p)
  · have h2 := h.nd
    simp only [List.map_cons, List.nodup_cons] at h2
    exact h2.2
theorem mir_nil (h : Mir l added []) : l = [] := by have := h.p; exact List.perm_nil.1 this
/-- Other words. -/
theorem nth_is {L : List E3} {i : Nat} (hi : i < L.length) : nth L i = L[i] := by simp [nth, List.getElem?_eq_getElem hi]
theorem Mir.put (h : Mir l added L) (ws : List Int) : Mir (setW L ws L.length) added (setW L ws L.length) := by
  have hl := len_setW L ws L.length
  have e : ∀ i, i < L.length → nth (setW L ws L.length) i = ⟨(nth L i).t, (nth L i).n, ws[i]?.getD 0⟩ := fun i hi => by rw [nth_setW L ws L.length i hi, if_pos hi]
  have hn : (setW L ws L.length).map E3.n = L.map E3.n := by
    apply List.ext_getElem (by simp [hl])
    intro i h1 h2
    simp only [List.getElem_map]
    simp only [List.length_map] at h1 h2
    rw [← nth_is, ← nth_is, e i h2]
  have hs := List.pairwise_iff_getElem.1 h.s
  refine ⟨List.Perm.refl _, ?_, by rw [hn]; exact h.nd, fun x hx => ?_⟩
  · unfold SortedE
    rw [List.pairwise_iff_getElem]
    intro i j hi hj hij
    rw [hl] at hi hj
    have h1 := hs i j hi hj hij
    rw [← nth_is, ← nth_is, ltE_no] at h1
    rw [← nth_is, ← nth_is, e i hi, e j hj, ltE_no]
    exact h1
  · obtain ⟨i, hi, rfl⟩ := List.mem_iff_getElem.1 hx
    rw [hl] at hi
    rw [← nth_is, e i hi]
    exact h.lt (nth L i) (nth_mem L i hi)
theorem put_w2 (L : List E3) (ws : List Int) : (setW L ws L.length).map E3.w2 = putW (L.map E3.w2) ws L.length := by
  unfold setW putW
  apply List.ext_getElem?
  intro i
  rw [List.getElem?_map, List.getElem?_mapIdx, List.getElem?_mapIdx, List.getElem?_map]
  cases L[i]? with
  | none => rfl
  | some x =>
    simp only [Option.map_some]
    split <;> rfl
theorem add_w2 (L : List E3) (k : Nat) (e : E3) : (L.take k ++ e :: L.drop k).map E3.w2 = (L.map E3.w2).take k ++ e.w2 :: (L.map E3.w2).drop k := by
  simp [List.map_take, List.map_drop]
/-! ### All words, in order -/
theorem info_word17 : (Try.prog.info? 29).map (fun i => (i.zero, i.size, i.bytes)) = some (some (.int .u64 0), 1, 8) := by kernel_rfl
def wordsOf (L : List E3) : List Value := L.map fun e => .int .u64 e.w
def WordsDone (w : World) (l : List E3) (e : Ending) (w' : World) : Prop :=
  ∃ v L, e = .returned v ∧ L.Perm l ∧ SortedE L ∧ w'.ownsRow w.heap.size 29 1 v L.length (wordsOf L) ∧ Fr [] w w'
theorem own_less {w : World} {B B2 : Nat} {t : TypeId} {z n : Nat} {v : Value} {xs : List Value} (h : w.ownsRow B2 t z v n xs) (hB : B ≤ B2) : w.ownsRow B t z v n xs := by
  obtain ⟨h1, h2⟩ := h
  refine ⟨h1, h2.imp id ?_⟩
  rintro ⟨g, cap, cur, a1, a2, a3⟩
  exact ⟨g, cap, cur, a1, by omega, a3⟩
theorem own_nil_base {w : World} {B : Nat} {t : TypeId} {z n : Nat} {v : Value} {xs : List Value} (h : w.ownsRow B t z v n xs) : ∀ x, x ∈ v.ownBlock.toList → B ≤ x := by
  intro x hx
  rcases h.2 with ⟨hv, _⟩ | ⟨g, cap, cur, hv, hb, _⟩
  · rw [hv] at hx; simp [Value.ownBlock] at hx
  · rw [hv] at hx; simp [Value.ownBlock] at hx; omega
set_option maxHeartbeats 1000000 in
theorem words_c (w : World) (B ab : Nat) (v : Value) (l : List E3) (added : Int) (h : AgAt w B ab v l added) (hn : l.length ≤ 9999) :
    Calls Try.prog 13 #[.pointer (some ⟨ab, 0, none⟩)] w (WordsDone w l) := by
  have CS := Lib.hid (sorted_c w B ab v l added h (by omega))
  obtain ⟨i0, hi, hz0, hz1, hz2⟩ := info_parts info_word17
  have II := Lib.hid hi
  have Z0 := Lib.hid hz0
  have Z1 := Lib.hid hz1
  have Z2 := Lib.hid hz2
  clear hi hz0 hz1 hz2 h
  go_enter Try.func13, Try.ntmps13
  go_wp2_with fail
  refine CS.out.mono ?_
  rintro e w1 ⟨v1, L, rfl, hp, hs, hE, F1⟩
  obtain ⟨n, hnl⟩ : ∃ n, n = L.length := ⟨_, rfl⟩
  have hnn : n ≤ 9999 := by rw [hnl, hp.length_eq]; exact hn
  have vf1 : ∃ a1 cap1, v1 = .slice a1 n cap1 := by
    rcases hE.2 with ⟨hv, hl2⟩ | ⟨g, cap, cur, hv, _⟩
    · exact ⟨none, 0, by rw [hv, hnl, hl2]⟩
    · exact ⟨some ⟨g, 0, none⟩, cap, by rw [hv, hnl]⟩
  obtain ⟨a1, cap1, rfl⟩ := vf1
  have PS := Lib.hid (And.intro hp hs)
  have HE := Lib.hid hE
  have F1 := Lib.hid F1
  have HN := Lib.hid hnl
  have O0 : Hid (w1.ownsRow w1.heap.size 29 1 (.slice none 0 0) 0 (wordsOf (L.take 0))) := Lib.hid (by simp only [List.take_zero, wordsOf, List.map_nil]; exact World.ownsRow_nil _ _ _ _)
  clear hp hs hE CS hnl
  go_wp2_with fail
  go_loopw [3, 5, 9] (fun q _ u wr => ∃ (k : Nat) (qa : Option Addr) (qc : Nat), k ≤ n ∧ u = .int .i64 (k : Int) ∧ q = .slice qa k qc ∧ Hid (wr.ownsRow w1.heap.size 29 1 (.slice qa k qc) k (wordsOf (L.take k))) ∧ Hid (Fr [] w1 wr)) (fun _ _ u _ => n - (intOf u).toNat)
  case atStart => exact ⟨0, none, 0, by omega, by go_num, rfl, O0, Lib.hid (Fr.refl _ _)⟩
  case round =>
    obtain ⟨k, qa, qc, hk, rfl, rfl, OK, F⟩ := hrel
    clear O0
    by_cases hlt : k < n
    · have hLn : k < L.length := by rw [← HN.out]; exact hlt
      obtain ⟨g, cap2, hv1, _, _⟩ := (HE.out).form (by omega)
      rw [← HN.out] at hv1
      obtain ⟨rfl, rfl⟩ : a1 = some ⟨g, 0, none⟩ ∧ cap1 = cap2 := by simpa using hv1
      have hE2 := HE.out
      unfold EnAt at hE2
      rw [← HN.out] at hE2
      have hE3 := own_fr hE2 F.out (by simp)
      obtain ⟨u0, u1, u2⟩ := entCells_get L k hLn
      have d0 := own_cell hE3 u0
      have d1 := own_cell hE3 u1
      have d2 := own_cell hE3 u2
      have hgl := own_lt hE3
      obtain ⟨x, hx⟩ : ∃ x, x = (nth L k).w := ⟨_, rfl⟩
      obtain ⟨y, hy⟩ : ∃ y, y = (nth L k).t := ⟨_, rfl⟩
      obtain ⟨z, hz⟩ : ∃ z, z = (nth L k).n := ⟨_, rfl⟩
      have HX : Hid (wordsOf (L.take k) ++ [.int .u64 x] = wordsOf (L.take (k + 1))) := Lib.hid (by
        unfold wordsOf
        rw [List.take_add_one, List.getElem?_eq_getElem hLn, List.map_append, hx, nth_is hLn]
        rfl)
      rw [← hx] at d2
      rw [← hy] at d0
      rw [← hz] at d1
      have HSZ : Hid (w1.heap.size ≤ wr.heap.size) := Lib.hid F.out.size
      clear hv1 hE2 hE3 u0 u1 u2 hx hy hz hLn
      go_wp2_with (at_builtin; refine wpList_append_lies _ rfl _ _ _ rfl w1.heap.size 29 i0 (.int .u64 0) 1 8 Try.underlying26 II.out Z0.out Z1.out Z2.out rfl (by decide) (.slice qa k qc) k _ rfl (own_fr OK.out (((Fr.refl [] wr).alloc _).alloc _) (by simp)) ⟨wr.heap.size + 1, 0, none⟩ 1 1 [.int .u64 x] rfl rfl (World.news_of_block (show blk (World.alloc (World.alloc _ _) _) _ = _ from by rw [blk_alloc, if_pos (by rw [size_alloc])])) (by simp [Value.oneCell']) (by omega) (by unfold maxLen; omega) (by omega) (Nat.le_trans HSZ.out (((Fr.refl [] wr).alloc _).alloc _).size) _ rfl ?_; intro g5 cap5 w5 own5 gr5 at5 lt5; rw [HX.out] at own5; have OW := Lib.hid own5; have F5 := Lib.hid ((F.out.same (((Fr.refl [] wr).alloc _).alloc _)).trans (grown_fr gr5) (fun x hx => .inr (own_nil_base OK.out x hx))); clear own5 gr5 at5 lt5)
      go_wp2
      go_roundw
      case rel => exact ⟨k + 1, _, _, by omega, by go_num, rfl, OW, F5⟩
      case measure => simp [intOf]; omega
    · have hkn : k = n := by omega
      have RES : Hid (WordsDone w l (.returned (.slice qa k qc)) wr) := Lib.hid (by
        have h0 := HN.out
        have hO := OK.out
        rw [hkn, h0, List.take_length] at hO
        exact ⟨_, L, by rw [hkn, h0], PS.out.1, PS.out.2, own_less hO F1.out.size, F1.out.same F.out⟩)
      have hlt := Lib.hid hlt
      have hkn := Lib.hid hkn
      clear OK F
      go_wp2
      go_ret
      exact RES.out
theorem ag_lt {w : World} {B ab : Nat} {va : Value} {la : List E3} {ka : Int} (h : AgAt w B ab va la ka) : ∀ x, x ∈ ab :: va.ownBlock.toList → x < w.heap.size := by
  intro x hx
  simp only [List.mem_cons, Option.mem_toList] at hx
  rcases hx with rfl | hx
  · exact lt_size h.p
  · rcases h.en.2 with ⟨hv, _⟩ | ⟨g, cap, cur, hv, _⟩
    · rw [hv] at hx; simp [Value.ownBlock] at hx
    · have he := h.en
      unfold EnAt at he
      rw [hv] at hx he
      simp [Value.ownBlock] at hx
      subst hx
      exact own_lt he
theorem ag_new {ab : Nat} {v v' : Value} {n : Nat} (h : v.ownBlock = v'.ownBlock ∨ ∀ g, v'.ownBlock = some g → n ≤ g) {x : Nat} (hx : x ∈ ab :: v'.ownBlock.toList) : x ∈ ab :: v.ownBlock.toList ∨ n ≤ x := by
  simp only [List.mem_cons, Option.mem_toList] at hx ⊢
  rcases hx with rfl | hx
  · exact .inl (.inl rfl)
  · rcases h with h | h
    · rw [h]; exact .inl (.inr hx)
    · exact .inr (h x hx)
end Go.Proofs.Ytdaoaddpbibnmaa
