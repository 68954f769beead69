/- The agenda: all of it in order. -/
import Derived.Test.YtdaoaddpbibnmaaAgendaE
import Derived.Test.YtdaoaddpbibnmaaAgShelf
import Derived.Shelf.SlSortCmp.WholeK
import Derived.Shelf.SlSortCmp.NoneTotal
import Derived.Shelf.SlicesE.Clone
set_option linter.all false
namespace Go.Proofs.Ytdaoaddpbibnmaa
open Go.ChangeShapes Go.WideShapes Go.RowKit Go.Sort
/-- An entry's cells. -/
def encE (e : E3) : List Value := [.int .i64 e.t, .int .i64 e.n, .int .u64 e.w]
theorem order_x (a b : E3) (w : World) : Calls Try.prog 20 #[.agg #[.int .i64 a.t, .int .i64 a.n, .int .u64 a.w], .agg #[.int .i64 b.t, .int .i64 b.n, .int .u64 b.w]] w fun e w' => e = .returned (.int .i64 (ordI a b)) ∧ ∃ q os', w' = grow (w.drewN q) os' := by
  have OR : ∀ w1 : World, w1 = (((w.alloc (.cells #[.int .i64 a.t, .int .i64 a.n, .int .u64 a.w] 54)).alloc (.cells #[.int .i64 b.t, .int .i64 b.n, .int .u64 b.w] 54)).alloc (.cells #[.int .i64 (cmpI a.t b.t), .int .i64 (cmpI a.n b.n)] 3)).drew →
      Calls Try.prog 24 #[.slice (some ⟨w.heap.size + 1 + 1, 0, none⟩) 2 2] w1 fun e w' => e = .returned (.int .i64 (ordI a b)) ∧ w1 = w' := fun w1 h1 =>
    or_c (cmpI a.t b.t) (cmpI a.n b.n) (w.heap.size + 1 + 1) 2 w1 (by rw [h1, blk_drew, blk_alloc, if_pos (by simp)])
  have OR := Lib.hid (OR _ rfl)
  go_enter Try.func20, Try.ntmps20
  go_wp2
  refine wp_region_still_tail 10 (by kernel_rfl) (by kernel_rfl) ?_
  simp only [List.take_succ_cons, List.take_zero, List.drop_succ_cons, List.drop_zero]
  change wpStill _ _ (World.drew _) _ _ _
  repeat still_step
  still_call ((compare_c _ _ _).mono fun e w' h => ⟨h.1, h.2.symm⟩)
  repeat still_step
  still_call ((compare_c _ _ _).mono fun e w' h => ⟨h.1, h.2.symm⟩)
  refine wpStill_nil ?_
  change wpList _ _ _ _ _ (World.drew _)
  go_wp2_with (go_at_call 24; refine OR.out.mono ?_; rintro e w' ⟨rfl, rfl⟩)
  go_ret
  exact ⟨rfl, 1, _, by rw [alloc_eq_grow, alloc_eq_grow, alloc_eq_grow, grow_grow, grow_grow]; rfl⟩
theorem cmp_lays (blk off size : Nat) (w : World) : CmpLays Try.prog 20 #[] encE 3 ordI blk off size w :=
  fun _ _ _ _ x y => order_x x y _
theorem ltOf_ord (x y : E3) : ltOf ordI x y = ltE x y := rfl
theorem swo : SWO (ltOf ordI) where
  irrefl x := by rw [ltOf_ord, ltE_no]; omega
  trans x y z h1 h2 := by rw [ltOf_ord, ltE_iff] at *; omega
  ntrans x y z h1 h2 := by rw [ltOf_ord, ltE_no] at *; omega
/-! ### The sort's last world -/
theorem toList_flat (d : Array E3) : (flatK encE 3 d).toList = entCells d.toList := by
  apply List.ext_getElem?
  intro i
  by_cases hi : i < d.size * 3
  · have h1 : (flatK encE 3 d).toList[i]? = some ((encE d[i / 3]!)[i % 3]!) := by
      rw [Array.getElem?_toList, ← get_flatK encE 3 d i hi, getElem!_pos _ i (by simpa using hi)]
      exact Array.getElem?_eq_getElem (by simpa using hi)
    have hq : i / 3 < d.toList.length := by simp; omega
    obtain ⟨e0, e1, e2⟩ := entCells_get d.toList (i / 3) hq
    have en : nth d.toList (i / 3) = d[i / 3]! := by
      unfold nth
      rw [Array.getElem?_toList, Array.getElem?_eq_getElem (by simpa using hq), getElem!_pos d (i / 3) (by simpa using hq)]
      rfl
    rw [en] at e0 e1 e2
    rw [h1]
    rcases (by omega : i % 3 = 0 ∨ i % 3 = 1 ∨ i % 3 = 2) with h | h | h
    · rw [show i = i / 3 * 3 by omega, e0, show i / 3 * 3 / 3 = i / 3 by omega, show i / 3 * 3 % 3 = 0 by omega]; rfl
    · rw [show i = i / 3 * 3 + 1 by omega, e1, show (i / 3 * 3 + 1) / 3 = i / 3 by omega, show (i / 3 * 3 + 1) % 3 = 1 by omega]; rfl
    · rw [show i = i / 3 * 3 + 2 by omega, e2, show (i / 3 * 3 + 2) / 3 = i / 3 by omega, show (i / 3 * 3 + 2) % 3 = 2 by omega]; rfl
  · rw [List.getElem?_eq_none (by simp; omega), List.getElem?_eq_none (by rw [len_entCells]; simp; omega)]
theorem fr_grow {S : List Nat} {a w : World} (h : Fr S a w) (os : Array Obj) : Fr S a (grow w os) :=
  ⟨h.os, h.tape, h.output, by rw [size_grow]; have := h.size; omega, fun k hk hn => by
    unfold blk; rw [heap_grow_old w os (Nat.lt_of_lt_of_le hk h.size)]; exact h.block k hk hn⟩
theorem blk_map (w : World) (g : Nat) (f : Array Value → Array Value) (k : Nat) : blk (mapBlock w g f) k = if k = g then (blk w k).map (onCells f) else blk w k := by
  unfold blk mapBlock
  by_cases h : k = g
  · subst h; simp [Array.getElem?_modify]
  · simp [Array.getElem?_modify, h, Ne.symm h]
theorem fr_sorted (w : World) (g m : Nat) (d : Array E3) (os : Array Obj) : Fr [g] w (sortWorldK encE 3 w g 0 m d os) := by
  unfold sortWorldK
  refine fr_grow ?_ os
  refine ⟨rfl, rfl, rfl, by simp [putRowK, putRow, mapBlock, Sort.ahead], fun k hk hn => ?_⟩
  unfold putRowK putRow
  rw [blk_map, if_neg (by simpa using hn)]
  rfl
theorem en_sorted {w : World} {B g cap n : Nat} {l : List E3} (h : EnAt w B (.slice (some ⟨g, 0, none⟩) n cap) l) (hn : l.length = n) (m : Nat) (d : Array E3) (hd : d.size = n) (os : Array Obj) :
    EnAt (sortWorldK encE 3 w g 0 m d os) B (.slice (some ⟨g, 0, none⟩) n cap) d.toList := by
  unfold EnAt at h ⊢
  rw [hn] at h
  obtain ⟨cur, h1, h2, h3, h4, h5, h6, h7⟩ := own_blk h
  have e : d.toList.length = n := by simpa using hd
  rw [e]
  have hb : blk (sortWorldK encE 3 w g 0 m d os) g = some (.cells (putCells id 0 (flatK encE 3 d) cur) 54 (0, 0)) := by
    unfold sortWorldK
    have h0 : g < (putRowK encE 3 (Sort.ahead w m) g 0 d).heap.size := by
      simp only [putRowK, size_putRow]; exact lt_size h1
    unfold blk
    rw [heap_grow_old _ os h0]
    show blk (putRowK encE 3 (Sort.ahead w m) g 0 d) g = _
    unfold putRowK putRow
    rw [blk_map, if_pos rfl]
    show (blk w g).map _ = _
    rw [h1]; rfl
  refine own_mk hb h2 h3 h4 ?_ ?_
  · simp [putCells]; exact h5
  · rw [← toList_flat]
    apply List.ext_getElem?
    intro i
    by_cases hi : i < n * 3
    · have hc : i < cur.size := by rw [h5]; have := Nat.mul_le_mul_right 3 h3; omega
      have hf : i < (flatK encE 3 d).size := by rw [size_flatK, hd]; exact hi
      rw [List.getElem?_take_of_lt hi, Array.getElem?_toList, Array.getElem?_toList]
      simp only [putCells, Array.getElem?_mapIdx, Array.getElem?_eq_getElem hc, Array.getElem?_eq_getElem hf, Option.map_some]
      rw [if_pos ⟨Nat.zero_le _, by omega⟩, Nat.sub_zero, getElem!_pos _ i hf]; rfl
    · rw [List.getElem?_eq_none (by simp; omega), List.getElem?_eq_none (by simp [hd]; omega)]
theorem holds_en {w : World} {B g cap n : Nat} {l : List E3} (h : EnAt w B (.slice (some ⟨g, 0, none⟩) n cap) l) (hn : l.length = n) : HoldsK encE 3 w g 0 l.toArray := by
  unfold EnAt at h
  rw [hn] at h
  intro j hj
  have hj' : j < l.length * 3 := by simpa using hj
  have e : (flatK encE 3 l.toArray)[j]! = (entCells l)[j]'(by rw [len_entCells]; exact hj') := by
    have := toList_flat l.toArray
    have e2 : (flatK encE 3 l.toArray).toList[j]? = (entCells l)[j]? := by rw [this]
    rw [Array.getElem?_toList, Array.getElem?_eq_getElem hj, List.getElem?_eq_getElem (by rw [len_entCells]; exact hj')] at e2
    rw [getElem!_pos _ j hj]
    exact Option.some.inj e2
  refine ⟨?_, ?_⟩
  · rw [Nat.zero_add, e]
    exact own_cell h (List.getElem?_eq_getElem _)
  · exact own_free h _
def SortedE (l : List E3) : Prop := l.Pairwise fun a b => ltE b a = false
/-- All of it, in order, in new memory. -/
def SortDone (w : World) (l : List E3) (e : Ending) (w' : World) : Prop :=
  ∃ v' l', e = .returned v' ∧ l'.Perm l ∧ SortedE l' ∧ EnAt w' w.heap.size v' l' ∧ Fr [] w w'
theorem sortedE_of {n : Nat} {d : Array E3} (hn : d.size = n) (h : SortedIn (ltOf ordI) 0 n d) : SortedE d.toList := by
  unfold SortedE
  rw [List.pairwise_iff_getElem]
  intro i j hi hj hij
  have hi' : i < d.size := by simpa using hi
  have hj' : j < d.size := by simpa using hj
  have := h i j (Nat.zero_le _) hij (by omega)
  rw [getElem!_pos d i hi', getElem!_pos d j hj', ltOf_ord] at this
  simpa using this
theorem perm_of {n : Nat} {d d' : Array E3} (hn : d.size = n) (h : PermIn 0 n d d') : d'.size = n ∧ d'.toList.Perm d.toList := by
  obtain ⟨h1, _, h3⟩ := h
  refine ⟨by rw [h1, hn], ?_⟩
  have e1 : d.extract 0 n = d := by rw [← hn]; exact Array.extract_size
  have e2 : d'.extract 0 n = d' := by rw [← hn, ← h1]; exact Array.extract_size
  rwa [e1, e2] at h3
theorem size_entry (w : World) : (Go.sizeOf 54).run Try.prog w = .ok 3 w := by kernel_rfl
theorem isAgg_entry (w : World) : (isAgg 54).run Try.prog w = .ok true w := by kernel_rfl
theorem one_enc (x : E3) (v : Value) (hv : v ∈ encE x) : v.oneCell' = true := by
  simp [encE] at hv
  rcases hv with rfl | rfl | rfl <;> rfl
theorem one_ent (l : List E3) (v : Value) (hv : v ∈ entCells l) : v.oneCell' = true := by
  unfold entCells at hv
  obtain ⟨x, _, hx⟩ := List.mem_flatMap.1 hv
  exact one_enc x v hx
/-- A copy of entries. -/
def CloneDone (w : World) (l : List E3) (e : Ending) (w' : World) : Prop := ∃ v', e = .returned v' ∧ EnAt w' w.heap.size v' l ∧ Fr [] w w'
theorem fr_of_below' {w w' : World} (h : Go.RowKit.Below w.heap.size w w') : Fr [] w w' := ⟨h.os, h.tape, h.output, h.size, fun k hk _ => h.block k hk⟩
theorem clone_c (w : World) (B : Nat) (v : Value) (l : List E3) (h : EnAt w B v l) (hn : l.length ≤ 999999) : Calls Try.prog 18 #[v] w (CloneDone w l) := by
  rcases h.2 with ⟨hv, hl⟩ | ⟨g, cap, cur, hv, _⟩
  · subst hv
    have hl0 : l = [] := by
      cases l with
      | nil => rfl
      | cons x l => simp [entCells] at hl
    subst hl0
    refine (AnyE.slices_Clone_nil Try.cloneE 0 0 w).mono ?_
    rintro e w' ⟨rfl, rfl⟩
    exact ⟨_, rfl, World.ownsRow_nil _ _ _ _, Fr.refl _ _⟩
  · subst hv
    obtain ⟨i0, hi, hz0, hz1, hz2⟩ := info_parts info_entry
    refine (AnyE.slices_Clone Try.cloneE i0 (.agg #[.int .i64 0, .int .i64 0, .int .u64 0]) 3 24 hi hz0 hz1 hz2 rfl (by decide) size_entry g 0 l.length cap (entCells l) w (len_entCells l) (by unfold maxLen; omega) (by omega) (fun j u hu => by rw [Nat.zero_add]; exact own_cell h hu) (fun u hu => one_ent l u hu)).mono ?_
    rintro e w' ⟨v', rfl, h1, _, h2⟩
    exact ⟨v', rfl, h1, fr_of_below' h2⟩
theorem blen_c (n : Nat) (hn : n ≤ 999999) (w : World) : Calls Try.prog 23 #[.int .u64 (n : Int)] w fun e w' => e = .returned (.int .i64 (Lib.bitLen n : Nat)) ∧ w = w' := by
  have h := Any.bits_Len Try.lenE (n : Int) w (by omega) (by omega)
  rw [Int.toNat_natCast] at h
  exact h.mono fun e w' h => ⟨h.1, h.2.symm⟩
theorem sort_none (w : World) (a : Option Addr) (cap : Nat) (fv : Value) : Calls Try.prog 19 #[.slice a 0 cap, fv] w fun e w' => e = .returned (.tuple #[]) ∧ w = w' := by
  have CL := Lib.hid (fun W => blen_c 0 (by omega) W)
  have CP := Lib.hid (fun lim W => (AnyF.pdqsortCmpFunc_none Try.pdqE a cap lim fv W).mono fun e w' h => (⟨h.1, h.2.symm⟩ : e = .returned (.tuple #[]) ∧ W = w'))
  go_enter Try.func19, Try.ntmps19
  go_wp2_with fail
  refine (CL.out _).mono ?_
  rintro e w' ⟨rfl, rfl⟩
  go_wp2_with fail
  refine (CP.out _ _).mono ?_
  rintro e w' ⟨rfl, rfl⟩
  go_wp2
  go_end0
  exact ⟨rfl, rfl⟩
theorem sort_some (w : World) (g cap n : Nat) (d : Array E3) (hd : d.size = n) (hn : n ≤ 999999) (hH : HoldsK encE 3 w g 0 d) (hg : g < w.heap.size) : Calls Try.prog 19 #[.slice (some ⟨g, 0, none⟩) n cap, .func (.func 20) #[] #[]] w fun e w' => e = .returned (.tuple #[]) ∧ ∃ d' m os, PermIn 0 n d d' ∧ SortedIn (ltOf ordI) 0 n d' ∧ w' = sortWorldK encE 3 w g 0 m d' os := by
  have eg : ∀ args w, (callFunc 20 args).run Try.prog w = .ok (.enter 20 args) w := enters_of Try.func20 (by kernel_rfl) rfl
  have hlim : Lib.bitLen n < 4611686018427387904 := Nat.lt_of_le_of_lt (Lib.bitLen_le n 62 (by omega) (by omega)) (by omega)
  have CL := Lib.hid (fun W => blen_c n hn W)
  have hp := AnyQ.pdqsortCmpFunc_all Try.pdqE 3 isAgg_entry size_entry encE ordI 20 #[] swo g 0 cap d w eg (cmp_lays g 0 d.size w) ⟨fun _ => rfl, one_enc, hH, hg⟩ (d.size + 1) 0 d.size (Lib.bitLen n) d w (by omega) rfl (SWK.start hH) (Nat.zero_le _) (Nat.le_refl _) (by omega) hlim (Or.inl rfl)
  have hs := pdq_sorts (ltOf ordI) swo d 0 d.size (Lib.bitLen n) true true (Nat.zero_le _) (Nat.le_refl _) (Or.inl rfl)
  rw [hd] at hp hs
  have CP := Lib.hid hp
  have D : Hid (∀ w', SWK encE 3 w g 0 (pdq (ltOf ordI) d 0 n (Lib.bitLen n) true true) w' → ∃ d' m os, PermIn 0 n d d' ∧ SortedIn (ltOf ordI) 0 n d' ∧ w' = sortWorldK encE 3 w g 0 m d' os) := Lib.hid (fun w' h => by
    obtain ⟨m, os, h⟩ := h
    exact ⟨_, m, os, hs.1, hs.2, h⟩)
  have hni : (n : Int) ≤ 999999 := by omega
  generalize Lib.bitLen n = lim at *
  clear hp hs hH eg hd hlim
  go_enter Try.func19, Try.ntmps19
  go_wp2_with fail
  refine (CL.out _).mono ?_
  rintro e w' ⟨rfl, rfl⟩
  go_wp2_with fail
  refine CP.out.mono ?_
  rintro e w' ⟨rfl, h⟩
  have h := Lib.hid (D.out _ h)
  go_wp2
  go_end0
  exact ⟨rfl, h.out⟩
theorem sort_c (w : World) (B : Nat) (v : Value) (l : List E3) (h : EnAt w B v l) (hn : l.length ≤ 999999) : Calls Try.prog 19 #[v, .func (.func 20) #[] #[]] w fun e w' => e = .returned (.tuple #[]) ∧ ∃ l', l'.Perm l ∧ SortedE l' ∧ EnAt w' B v l' ∧ Fr v.ownBlock.toList w w' := by
  rcases h.2 with ⟨hv, hl⟩ | ⟨g, cap, cur, hv, _⟩
  · subst hv
    have hl0 : l = [] := by
      cases l with
      | nil => rfl
      | cons x l => simp [entCells] at hl
    subst hl0
    refine (sort_none w none 0 _).mono ?_
    rintro e w' ⟨rfl, rfl⟩
    exact ⟨rfl, [], List.Perm.refl _, List.Pairwise.nil, h, Fr.refl _ _⟩
  · subst hv
    refine (sort_some w g cap l.length l.toArray (by simp) hn (holds_en h rfl) (own_lt h)).mono ?_
    rintro e w' ⟨rfl, d', n, os, hp, hs, rfl⟩
    obtain ⟨e1, e2⟩ := perm_of (by simp) hp
    have e3 := en_sorted h rfl n d' e1 os
    exact ⟨rfl, d'.toList, by simpa using e2, sortedE_of e1 hs, by
      unfold EnAt at e3 ⊢
      have e4 : d'.toList.length = l.length := by simpa using e1
      rw [e4] at e3 ⊢; exact e3, fr_sorted w g n d' os⟩
theorem sorted_c (w : World) (B ab : Nat) (v : Value) (l : List E3) (added : Int) (h : AgAt w B ab v l added) (hn : l.length ≤ 999999) :
    Calls Try.prog 15 #[.pointer (some ⟨ab, 0, none⟩)] w (SortDone w l) := by
  have c0 : w.cell? ⟨ab, 0, none⟩ = some v := cell_of h.p rfl
  have CC : Hid (∀ W, Fr [] w W → Calls Try.prog 18 #[v] W (CloneDone W l)) := Lib.hid (fun W hW => clone_c W B v l (own_fr h.en hW (by simp)) hn)
  have CS : Hid (∀ W v', EnAt W w.heap.size v' l → Calls Try.prog 19 #[v', .func (.func 20) #[] #[]] W fun e w' => e = .returned (.tuple #[]) ∧ ∃ l', l'.Perm l ∧ SortedE l' ∧ EnAt w' w.heap.size v' l' ∧ Fr v'.ownBlock.toList W w') := Lib.hid (fun W v' h => sort_c W w.heap.size v' l h hn)
  clear h
  go_enter Try.func15, Try.ntmps15
  go_wp2_with fail
  refine (CC.out _ (Fr.refl _ _)).mono ?_
  rintro e w1 ⟨v1, rfl, h1, F1⟩
  have h1 := Lib.hid h1
  have F1 := Lib.hid F1
  go_wp2_with fail
  refine (CS.out _ _ h1.out).mono ?_
  rintro e w2 ⟨rfl, l2, p2, s2, h2, F2⟩
  have D : Hid (SortDone w l (.returned v1) w2) := Lib.hid ⟨v1, l2, rfl, p2, s2, h2, F1.out.trans F2 (fun x hx => by
    right
    rcases h1.out.2 with ⟨hv, _⟩ | ⟨g, cap, cur, hv, hb, _⟩
    · rw [hv] at hx; simp [Value.ownBlock] at hx
    · rw [hv] at hx; simp [Value.ownBlock] at hx; omega)⟩
  clear p2 s2 h2 F2 h1
  go_wp2
  go_ret
  exact D.out
end Go.Proofs.Ytdaoaddpbibnmaa
