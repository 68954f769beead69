/- The agenda: the library's Push and Pop over it; Add, Next. -/
import Derived.Test.YtdaoaddpbibnmaaAgendaC
set_option linter.all false
namespace Go.Proofs.Ytdaoaddpbibnmaa
open Go.ChangeShapes Go.WideShapes Go.RowKit
variable {w : World} {B g cap pb : Nat} {l : List E3} {v : Value} {c : Array Value} {T : TypeId}
def PushDone (w : World) (B pb : Nat) (c : Array Value) (T : TypeId) (v : Value) (l : List E3) (x : E3) (e : Ending) (w' : World) : Prop :=
  e = .returned (.tuple #[]) ∧ ∃ g cap l', l'.Perm (x :: l) ∧ HeapF ltE (nth l') (l.length + 1) ∧ HpAt w' B pb (c.setIfInBounds 0 (.slice (some ⟨g, 0, none⟩) (l.length + 1) cap)) T g cap l' ∧ (v.ownBlock = some g ∨ w.heap.size ≤ g) ∧ Fr (pb :: v.ownBlock.toList) w w'
theorem nth_append_left (l : List E3) (x : E3) (i : Nat) (h : i < l.length) : nth (l ++ [x]) i = nth l i := by
  simp [nth, List.getElem?_append_left h]
theorem hpush_c (w : World) (hP : blk w pb = some (.cells c T (0, 0))) (hc : c[0]? = some v) (hE : EnAt w B v l) (hne : v.ownBlock ≠ some pb) (hB : B ≤ w.heap.size) (hn : l.length ≤ 999999) (hh : HeapF ltE (nth l) l.length) (x : E3) :
    Calls Try.prog 14 #[.iface 52 (.pointer (some ⟨pb, 0, none⟩)), .iface 54 (.agg #[.int .i64 x.t, .int .i64 x.n, .int .u64 x.w])] w (PushDone w B pb c T v l x) := by
  have CP := Lib.hid (epush_c w hP hc hE hne hB (by omega) x)
  have HH := Lib.hid hh
  have h0 : 0 < c.size := by
    rcases Nat.lt_or_ge 0 c.size with h | h
    · exact h
    · rw [Array.getElem?_eq_none h] at hc; simp at hc
  have MP := method_push w pb
  clear hP hc hE hB hh hne
  go_enter Try.func14, Try.ntmps14
  go_wp2_with fail
  refine CP.out.mono ?_
  rintro e w1 ⟨rfl, g, cap, hE1, hP1, hat, hne1, hF1⟩
  clear MP
  have hlen : (l ++ [x]).length = l.length + 1 := by simp
  have HP1 : Hid (HpAt w1 B pb (c.setIfInBounds 0 (.slice (some ⟨g, 0, none⟩) (l.length + 1) cap)) T g cap (l ++ [x])) := Lib.hid ⟨hP1, by rw [hlen]; simp [h0], by rw [hlen]; exact hE1, hne1⟩
  have ML := HP1.out.len
  rw [hlen] at ML
  have AT := Lib.hid hat
  have HL := Lib.hid hlen
  have F1 := Lib.hid hF1
  clear hE1 hP1 hat hlen hF1 hne1
  obtain ⟨N, hN⟩ : ∃ N, N = l.length := ⟨_, rfl⟩
  have HN := Lib.hid hN
  rw [← hN] at ML hn
  clear hN
  go_wp2_with fail
  refine (len_c _ _ _ _).mono ?_
  rintro e w' ⟨rfl, rfl⟩
  clear ML
  go_wp2_with fail
  have hup : UpInv ltE (nth (l ++ [x])) (N + 1) N := by
    rw [HN.out]
    exact (HH.out.congr (fun i hi => nth_append_left l x i hi)).up
  refine (up_c w1 (N + 1) (by rw [HL.out, HN.out]) N (by omega) HP1.out hup (by omega)).mono ?_
  rintro e w2 ⟨rfl, l', hp, hheap, hat2, hF2⟩
  go_wp2
  go_end0
  refine ⟨rfl, g, cap, l', hp.trans (List.perm_append_comm (l₁ := l) (l₂ := [x])), by rw [← HN.out]; exact hheap, hat2, AT.out, F1.out.trans hF2 ?_⟩
  intro y hy
  have : y = g := by simpa using hy
  subst this
  rcases AT.out with h | h
  · left; rw [h]; simp
  · exact .inr h
def PopDone (w : World) (B g cap pb : Nat) (c : Array Value) (T : TypeId) (l : List E3) (n : Nat) (e : Ending) (w' : World) : Prop :=
  e = .returned (.iface 54 (.agg #[.int .i64 (nth l 0).t, .int .i64 (nth l 0).n, .int .u64 (nth l 0).w])) ∧ ∃ l', l.Perm (nth l 0 :: l') ∧ HeapF ltE (nth l') n ∧ HpAt w' B pb (c.setIfInBounds 0 (.slice (some ⟨g, 0, none⟩) n cap)) T g cap l' ∧ Fr [pb, g] w w'
theorem take_snoc (l : List E3) (n : Nat) (h : l.length = n + 1) : l = l.take n ++ [nth l n] := by
  have := List.take_append_drop n l
  have h2 : l.drop n = [nth l n] := by
    rw [List.drop_eq_getElem_cons (by omega)]
    simp [nth, List.drop_of_length_le, h]
  rw [h2] at this
  exact this.symm
theorem nth_take (l : List E3) (n i : Nat) (h : i < n) : nth (l.take n) i = nth l i := by
  simp [nth, h]
theorem hpop_c (w : World) (n : Nat) (hl : l.length = n + 1) (h : HpAt w B pb c T g cap l) (hh : HeapF ltE (nth l) (n + 1)) (hn : n ≤ 999999) :
    Calls Try.prog 16 #[.iface 52 (.pointer (some ⟨pb, 0, none⟩))] w (PopDone w B g cap pb c T l n) := by
  have H := Lib.hid h
  have HH := Lib.hid hh
  have HL := Lib.hid hl
  have ML := h.len
  have MS := h.swap
  rw [hl] at ML MS
  have SC := Lib.hid (swap_c w h.en 0 n (by omega) (by omega))
  rw [hl] at SC
  clear h hh hl
  go_enter Try.func16, Try.ntmps16
  go_wp2_with fail
  refine (len_c _ _ _ _).mono ?_
  rintro e w' ⟨rfl, rfl⟩
  clear ML
  go_wp2_with fail
  refine SC.out.mono ?_
  rintro e w1 ⟨rfl, hE1, hF1⟩
  clear MS
  have H1 := Lib.hid (H.out.swapped 0 n hF1 (by rw [HL.out]; exact hE1))
  have hls : Hid ((swapL l 0 n).length = n + 1) := Lib.hid (by rw [len_swapL, HL.out])
  have hdn : DnInv ltE (nth (swapL l 0 n)) n 0 := HH.out.down.congr (fun i _ => nth_swapL l 0 n i (by rw [HL.out]; omega) (by rw [HL.out]; omega))
  have CD := Lib.hid (down_c w1 n (n + 1) hls.out (by omega) H1.out hdn (by omega))
  have F1 := Lib.hid hF1
  clear hdn hE1 hF1
  go_wp2_with fail
  refine CD.out.mono ?_
  rintro e w2 ⟨r, rfl, l', hp, hheap, hkeep, hat, hF2⟩
  have hll : l'.length = n + 1 := hp.length_eq.trans hls.out
  have CP := epop_c w2 n hll hat.p (by rw [← hll]; exact hat.c0) (by rw [← hll]; exact hat.en) hat.ne (by omega)
  have MP := method_pop w2 pb
  have hlast : Hid (nth l' n = nth l 0) := Lib.hid (by
    rw [hkeep n (Nat.le_refl _), nth_swapL l 0 n n (by rw [HL.out]; omega) (by rw [HL.out]; omega)]
    unfold swapF
    by_cases h0 : n = 0
    · rw [if_pos h0, h0]
    · rw [if_neg h0, if_pos rfl])
  have hc0 := Lib.hid hat.c0
  have HLL := Lib.hid hll
  have HP := Lib.hid (hp.trans (swapL_perm l 0 n (by rw [HL.out]; omega) (by rw [HL.out]; omega)))
  have HHp := Lib.hid hheap
  have hne := Lib.hid hat.ne
  have F2 := Lib.hid (F1.out.same hF2)
  have CP := Lib.hid CP
  clear hp hheap hkeep hat hF2 hll F1 SC CD
  go_wp2_with fail
  refine CP.out.mono ?_
  rintro e w3 ⟨rfl, hE3, hP3, hF3⟩
  have hlt : (l'.take n).length = n := by simp [HLL.out]
  have D : Hid (PopDone w B g cap pb c T l n (.returned (.iface 54 (.agg #[.int .i64 (nth l' n).t, .int .i64 (nth l' n).n, .int .u64 (nth l' n).w]))) w3) := Lib.hid (by
    have h0 : 0 < c.size := by
      have := hc0.out
      rcases Nat.lt_or_ge 0 c.size with h | h
      · exact h
      · rw [Array.getElem?_eq_none h] at this; simp at this
    refine ⟨by rw [hlast.out], l'.take n, ?_, HHp.out.congr (fun i hi => nth_take l' n i hi), ⟨hP3, by rw [hlt]; simp [h0], by rw [hlt]; exact hE3, hne.out⟩, ?_⟩
    · have e1 := take_snoc l' n HLL.out
      rw [hlast.out] at e1
      exact (HP.out.symm.trans (List.Perm.of_eq e1)).trans (List.perm_append_comm (l₁ := (l'.take n)) (l₂ := [nth l 0]))
    · exact (F2.out.mono (by simp)).trans hF3 (by simp))
  clear MP CP hE3 hP3 hF3 hlt
  go_wp2
  go_ret
  exact D.out
/-- The agenda at its block: what is to be done, and how much was added. -/
structure AgAt (w : World) (B ab : Nat) (v : Value) (l : List E3) (added : Int) : Prop where
  p : blk w ab = some (.cells #[v, .int .i64 added] 50 (0, 0))
  en : EnAt w B v l
  ne : v.ownBlock ≠ some ab
  hp : HeapF ltE (nth l) l.length
  lo : B ≤ ab
theorem AgAt.fr {w w' : World} {B ab : Nat} {v : Value} {l : List E3} {added : Int} {S : List Nat} (h : AgAt w B ab v l added) (hF : Fr S w w') (h1 : ab ∉ S) (h2 : ∀ x, v.ownBlock = some x → x ∉ S) : AgAt w' B ab v l added :=
  ⟨hF.at h.p h1, own_fr h.en hF h2, h.ne, h.hp, h.lo⟩
def AddDone (w : World) (B ab : Nat) (v : Value) (l : List E3) (added : Int) (t x : Int) (e : Ending) (w' : World) : Prop :=
  e = .returned (.tuple #[]) ∧ ∃ v' l', l'.Perm (⟨t, added, x⟩ :: l) ∧ AgAt w' B ab v' l' (added + 1) ∧ (v.ownBlock = v'.ownBlock ∨ ∀ g, v'.ownBlock = some g → w.heap.size ≤ g) ∧ Fr (ab :: v.ownBlock.toList) w w'
theorem add_c (w : World) (B ab : Nat) (v : Value) (l : List E3) (added : Int) (h : AgAt w B ab v l added) (hB : B ≤ w.heap.size) (hn : l.length ≤ 999999) (h0 : 0 ≤ added) (h1 : added ≤ 999999) (t x : Int) :
    Calls Try.prog 7 #[.pointer (some ⟨ab, 0, none⟩), .int .i64 t, .int .u64 x] w (AddDone w B ab v l added t x) := by
  have c1 : w.cell? ⟨ab, 1, none⟩ = some (.int .i64 added) := cell_of h.p rfl
  have CP := fun w1 (h : AgAt w1 B ab v l added) (hs : w.heap.size ≤ w1.heap.size) => hpush_c (v := v) w1 h.p rfl h.en h.ne (by omega) hn h.hp ⟨t, added, x⟩
  have H := Lib.hid h
  have CP := Lib.hid CP
  clear h
  go_enter Try.func7, Try.ntmps7
  go_wp2
  refine wp_region_still_tail 12 (by kernel_rfl) (by kernel_rfl) ?_
  simp only [List.take_succ_cons, List.take_zero, List.drop_succ_cons, List.drop_zero]
  change wpStill _ _ (World.drew _) _ _ _
  repeat still_step
  refine wpStill_nil ?_
  change wpList _ _ _ _ _ (World.drew _)
  go_wp2_with fail
  refine (CP.out w.drew (H.out.fr (Fr.refl [] w).drew (by simp) (by simp)) (Nat.le_refl _)).mono ?_
  rintro e w1 ⟨rfl, g, cap, l', hp, hh, hat, hg, hF⟩
  have hP1 : blk w1 ab = some (.cells #[.slice (some ⟨g, 0, none⟩) (l.length + 1) cap, .int .i64 added] 50 (0, 0)) := hat.p
  have c2 : w1.cell? ⟨ab, 1, none⟩ = some (.int .i64 added) := cell_of hP1 rfl
  have f2 := free_of hP1 (i := 1)
  have hl' : l'.length = l.length + 1 := by rw [hp.length_eq]; rfl
  have hen := hat.en
  rw [hl'] at hen
  have D : Hid (AddDone w B ab v l added t x (.returned (.tuple #[])) (w1.setCell ⟨ab, 1, none⟩ (.int .i64 (added + 1)))) := Lib.hid (by
    have hne := hat.ne
    refine ⟨rfl, .slice (some ⟨g, 0, none⟩) (l.length + 1) cap, l', hp, ⟨?_, own_fr hen ((Fr.refl [ab] _).setCell (by simp) _) (by simp [Value.ownBlock]; exact hne), by simp [Value.ownBlock]; exact hne, by rw [hl']; exact hh, H.out.lo⟩, ?_, ((Fr.refl _ w).drew.same hF).setCell (by simp) _⟩
    · rw [blk_set, if_pos rfl, hP1]; rfl
    · rcases hg with hg | hg
      · exact .inl (by rw [hg]; rfl)
      · exact .inr (fun y hy => by simp [Value.ownBlock] at hy; rw [← hy]; exact hg))
  clear hP1 hl' hen hat hg hF hp hh c1
  go_wp2
  go_end0
  exact D.out
def NextDone (w : World) (B ab : Nat) (v : Value) (l : List E3) (added : Int) (e : Ending) (w' : World) : Prop :=
  e = .returned (.tuple #[.int .i64 (nth l 0).t, .int .u64 (nth l 0).w, .bool true]) ∧ ∃ v' l', l.Perm (nth l 0 :: l') ∧ AgAt w' B ab v' l' added ∧ v'.ownBlock = v.ownBlock ∧ Fr (ab :: v.ownBlock.toList) w w'
theorem next_none (w : World) (B ab : Nat) (v : Value) (added : Int) (h : AgAt w B ab v [] added) :
    Calls Try.prog 9 #[.pointer (some ⟨ab, 0, none⟩)] w fun e w' => e = .returned (.tuple #[.int .i64 0, .int .u64 0, .bool false]) ∧ w = w' := by
  have c0 : w.cell? ⟨ab, 0, none⟩ = some v := cell_of h.p rfl
  rcases h.en.2 with ⟨hv, _⟩ | ⟨g, cap, cur, hv, _⟩
  · subst hv
    clear h
    go_enter Try.func9, Try.ntmps9
    go_wp2
    go_ret3
    exact ⟨rfl, rfl⟩
  · subst hv
    clear h
    simp only [List.length_nil] at c0
    go_enter Try.func9, Try.ntmps9
    go_wp2
    go_ret3
    exact ⟨rfl, rfl⟩
theorem next_c (w : World) (B ab : Nat) (v : Value) (l : List E3) (added : Int) (h : AgAt w B ab v l added) (n : Nat) (hl : l.length = n + 1) (hn : n ≤ 999999) :
    Calls Try.prog 9 #[.pointer (some ⟨ab, 0, none⟩)] w (NextDone w B ab v l added) := by
  obtain ⟨g, cap, hv, _, _⟩ := h.en.form (by omega)
  subst hv
  have c0 : w.cell? ⟨ab, 0, none⟩ = some (.slice (some ⟨g, 0, none⟩) (n + 1) cap) := by rw [← hl]; exact cell_of h.p rfl
  have hne : g ≠ ab := by have := h.ne; simpa [Value.ownBlock] using this
  have CP := Lib.hid (hpop_c w n hl ⟨h.p, rfl, h.en, hne⟩ (by rw [← hl]; exact h.hp) hn)
  have H := Lib.hid h
  have HL := Lib.hid hl
  have TA := fun w1 => assert_entry w1 (nth l 0).t (nth l 0).n (nth l 0).w
  clear h
  rw [hl]
  clear hl
  go_enter Try.func9, Try.ntmps9
  go_wp2_with fail
  refine CP.out.mono ?_
  rintro e w1 ⟨rfl, l', hp, hh, hat, hF⟩
  have hll : l'.length = n := by have := hp.length_eq; rw [HL.out] at this; simp at this; omega
  have hP1 : blk w1 ab = some (.cells #[.slice (some ⟨g, 0, none⟩) n cap, .int .i64 added] 50 (0, 0)) := hat.p
  have hen := hat.en
  rw [hll] at hen
  have NX : Hid (∀ w2, Fr [] w1 w2 → NextDone w B ab (.slice (some ⟨g, 0, none⟩) (n + 1) cap) l added (.returned (.tuple #[.int .i64 (nth l 0).t, .int .u64 (nth l 0).w, .bool true])) w2) := Lib.hid (fun w2 h2 =>
    ⟨rfl, .slice (some ⟨g, 0, none⟩) n cap, l', hp, ⟨h2.at hP1 (by simp), own_fr hen h2 (by simp), by simp [Value.ownBlock]; exact hne, by rw [hll]; exact hh, H.out.lo⟩, rfl, (hF.mono (by simp [Value.ownBlock])).trans h2 (by simp)⟩)
  clear hP1 hen hat hF hp hh hll c0
  obtain ⟨x, hx⟩ : ∃ x, x = nth l 0 := ⟨_, rfl⟩
  rw [← hx] at NX TA ⊢
  clear hx CP
  go_wp2
  go_region
  all_goals
    go_wp2
    go_ret3
    exact NX.out _ (((Fr.refl _ _).alloc _).drew)
theorem gnew_c (w : World) : Calls Try.prog 6 #[] w fun e w' => e = .returned (.pointer (some ⟨w.heap.size, 0, none⟩)) ∧ w' = w.alloc (.cells #[.slice none 0 0, .int .i64 0] 50) := by
  go_enter Try.func6, Try.ntmps6
  go_wp2
  go_ret
  exact ⟨rfl, rfl⟩
theorem AgAt.new (w : World) (B : Nat) (hB : B ≤ w.heap.size) : AgAt (w.alloc (.cells #[.slice none 0 0, .int .i64 0] 50)) B w.heap.size (.slice none 0 0) [] 0 :=
  ⟨by rw [blk_alloc, if_pos rfl], World.ownsRow_nil _ _ _ _, by simp [Value.ownBlock], fun c h0 hc => by simp at hc, hB⟩
theorem glen_c (w : World) (B ab : Nat) (v : Value) (l : List E3) (added : Int) (h : AgAt w B ab v l added) :
    Calls Try.prog 10 #[.pointer (some ⟨ab, 0, none⟩)] w fun e w' => e = .returned (.int .i64 l.length) ∧ w = w' := by
  have c0 : w.cell? ⟨ab, 0, none⟩ = some v := cell_of h.p rfl
  rcases h.en.2 with ⟨hv, hl⟩ | ⟨g, cap, cur, hv, _⟩
  · subst hv
    rw [hl]
    clear h
    go_enter Try.func10, Try.ntmps10
    go_wp2
    go_ret
    exact ⟨rfl, rfl⟩
  · subst hv
    clear h
    go_enter Try.func10, Try.ntmps10
    go_wp2
    go_ret
    exact ⟨rfl, rfl⟩
end Go.Proofs.Ytdaoaddpbibnmaa
