/- The agenda: other words in the place of the old ones. -/
import Derived.Test.YtdaoaddpbibnmaaAgendaF
set_option linter.all false
namespace Go.Proofs.Ytdaoaddpbibnmaa
open Go.ChangeShapes Go.WideShapes Go.RowKit
def setW (l : List E3) (ws : List Int) (k : Nat) : List E3 := l.mapIdx fun i e => if i < k then ⟨e.t, e.n, ws[i]?.getD 0⟩ else e
theorem len_setW (l : List E3) (ws : List Int) (k : Nat) : (setW l ws k).length = l.length := by simp [setW]
theorem setW_zero (l : List E3) (ws : List Int) : setW l ws 0 = l := by
  unfold setW
  apply List.ext_getElem?
  intro i
  rw [List.getElem?_mapIdx]
  cases l[i]? <;> simp
theorem nth_setW (l : List E3) (ws : List Int) (k i : Nat) (hi : i < l.length) : nth (setW l ws k) i = if i < k then ⟨(nth l i).t, (nth l i).n, ws[i]?.getD 0⟩ else nth l i := by
  unfold setW nth
  rw [List.getElem?_mapIdx, List.getElem?_eq_getElem hi]
  simp
theorem set_same {α : Type} {l : List α} {i : Nat} {v : α} (h : l[i]? = some v) : l.set i v = l := by
  apply List.ext_getElem?
  intro j
  by_cases hj : j = i
  · subst hj
    rw [List.getElem?_set_self', h]; rfl
  · rw [List.getElem?_set_ne (by omega)]
theorem setW_step (l : List E3) (ws : List Int) (k : Nat) (hk : k < l.length) : (entCells (setW l ws k)).set (k * 3 + 2) (.int .u64 (ws[k]?.getD 0)) = entCells (setW l ws (k + 1)) := by
  have hk' : k < (setW l ws k).length := by rw [len_setW]; exact hk
  have e := entCells_set (setW l ws k) k ⟨(nth l k).t, (nth l k).n, ws[k]?.getD 0⟩ hk'
  obtain ⟨e0, e1, _⟩ := entCells_get (setW l ws k) k hk'
  have en : nth (setW l ws k) k = nth l k := by rw [nth_setW l ws k k hk, if_neg (by omega)]
  rw [en] at e0 e1
  rw [set_same e0, set_same e1] at e
  rw [e]
  congr 1
  apply List.ext_getElem?
  intro j
  by_cases hj : j = k
  · subst hj
    rw [List.getElem?_set_self hk']
    unfold setW
    rw [List.getElem?_mapIdx, List.getElem?_eq_getElem hk]
    simp [nth, hk]
  · rw [List.getElem?_set_ne (by omega)]
    unfold setW
    rw [List.getElem?_mapIdx, List.getElem?_mapIdx]
    cases l[j]? with
    | none => rfl
    | some x =>
      simp only [Option.map_some]
      by_cases h : j < k
      · rw [if_pos h, if_pos (by omega)]
      · rw [if_neg h, if_neg (by omega)]
theorem heap_setW {l : List E3} (h : SortedE l) (ws : List Int) (k : Nat) : HeapF ltE (nth (setW l ws k)) (setW l ws k).length := by
  intro c h0 hc
  rw [len_setW] at hc
  have hp : (c - 1) / 2 < l.length := by omega
  have key : ∀ (x y : E3) (p q : Prop) [Decidable p] [Decidable q] (u v : Int), ltE (if p then ⟨x.t, x.n, u⟩ else x) (if q then ⟨y.t, y.n, v⟩ else y) = ltE x y := by
    intro x y p q _ _ u v
    by_cases hp : p <;> by_cases hq : q <;> simp only [hp, hq, if_true, if_false] <;> rfl
  rw [nth_setW _ _ _ _ hc, nth_setW _ _ _ _ hp, key]
  unfold SortedE at h
  rw [List.pairwise_iff_getElem] at h
  have := h ((c - 1) / 2) c hp hc (by omega)
  simpa [nth, hc, hp] using this
/-- A slice of words, as it is read. -/
def WsAt (w : World) (a : Option Addr) (ws : List Int) : Prop := ws = [] ∨ ∃ b o, a = some ⟨b, o, none⟩ ∧ b < w.heap.size ∧ ∀ i, i < ws.length → w.cell? ⟨b, o + i, none⟩ = some (.int .u64 (ws[i]?.getD 0))
theorem WsAt.keep {w w' : World} {a : Option Addr} {ws : List Int} {S : List Nat} (h : WsAt w a ws) (hF : Fr S w w') (hS : ∀ b o, a = some ⟨b, o, none⟩ → b ∉ S) : WsAt w' a ws := by
  rcases h with h | ⟨b, o, h1, h2, h3⟩
  · exact .inl h
  · exact .inr ⟨b, o, h1, Nat.lt_of_lt_of_le h2 hF.size, fun i hi => by
      rw [← h3 i hi]
      exact World.cell?_of_block (w := w) (hF.block b h2 (hS b o h1))⟩
def PutDone (w : World) (B ab : Nat) (l : List E3) (added : Int) (ws : List Int) (e : Ending) (w' : World) : Prop :=
  e = .returned (.bool true) ∧ ∃ v' l1, l1.Perm l ∧ SortedE l1 ∧ AgAt w' B ab v' (setW l1 ws l1.length) added ∧ (∀ g, v'.ownBlock = some g → w.heap.size ≤ g) ∧ Fr [ab] w w'
theorem put_no (w : World) (B ab : Nat) (v : Value) (l : List E3) (added : Int) (h : AgAt w B ab v l added) (a : Option Addr) (n cap : Nat) (hl : n ≠ l.length) :
    Calls Try.prog 8 #[.pointer (some ⟨ab, 0, none⟩), .slice a n cap] w fun e w' => e = .returned (.bool false) ∧ w = w' := by
  have c0 : w.cell? ⟨ab, 0, none⟩ = some v := cell_of h.p rfl
  have ht : ((n : Int) != (l.length : Int)) = true := by simp; omega
  rcases h.en.2 with ⟨hv, hl2⟩ | ⟨g, cap, cur, hv, _⟩
  · subst hv
    rw [hl2] at ht
    clear h hl hl2
    go_enter Try.func8, Try.ntmps8
    go_wp2
    go_ret
    exact ⟨rfl, rfl⟩
  · subst hv
    clear h hl
    go_enter Try.func8, Try.ntmps8
    go_wp2
    go_ret
    exact ⟨rfl, rfl⟩
set_option maxHeartbeats 1000000 in
theorem put_c (w : World) (B ab : Nat) (v : Value) (l : List E3) (added : Int) (h : AgAt w B ab v l added) (hB : B ≤ w.heap.size) (hn : l.length ≤ 999999) (a : Option Addr) (n cap : Nat) (ws : List Int) (hw : WsAt w a ws) (hwn : ws.length = n) (hl : l.length = n) :
    Calls Try.prog 8 #[.pointer (some ⟨ab, 0, none⟩), .slice a n cap] w (PutDone w B ab l added ws) := by
  have c0 : w.cell? ⟨ab, 0, none⟩ = some v := cell_of h.p rfl
  have vf : ∃ a0 cap0, v = .slice a0 n cap0 := by
    rcases h.en.2 with ⟨hv, hl2⟩ | ⟨g, cap, cur, hv, _⟩
    · exact ⟨none, 0, by rw [hv, ← hl, hl2]⟩
    · exact ⟨some ⟨g, 0, none⟩, cap, by rw [hv, hl]⟩
  obtain ⟨a0, cap0, rfl⟩ := vf
  have CS := Lib.hid (sorted_c w B ab _ l added h hn)
  have H := Lib.hid h
  have HW := Lib.hid hw
  have HN := Lib.hid hl
  have HM := Lib.hid hwn
  have hns : n ≤ 999999 := by omega
  have habl : ab < w.heap.size := lt_size h.p
  have hfz : w.frozen? ⟨ab, 0, none⟩ = false := free_of h.p
  clear h hw hl hwn hn
  go_enter Try.func8, Try.ntmps8
  go_wp2_with fail
  refine CS.out.mono ?_
  rintro e w1 ⟨v1, l1, rfl, p1, s1, h1, F1⟩
  have PS : Hid (l1.Perm l ∧ SortedE l1 ∧ l1.length = n) := Lib.hid ⟨p1, s1, by rw [p1.length_eq, HN.out]⟩
  have vf1 : ∃ a1 cap1, v1 = .slice a1 n cap1 := by
    rcases h1.2 with ⟨hv, hl2⟩ | ⟨g, cap, cur, hv, _⟩
    · exact ⟨none, 0, by rw [hv, ← PS.out.2.2, hl2]⟩
    · exact ⟨some ⟨g, 0, none⟩, cap, by rw [hv, PS.out.2.2]⟩
  obtain ⟨a1, cap1, rfl⟩ := vf1
  have h1 : Hid (EnAt w1 w.heap.size (.slice a1 n cap1) (setW l1 ws 0)) := Lib.hid (by rw [setW_zero]; exact h1)
  clear p1 s1 CS c0
  go_wp2_with fail
  go_loopw [20] (fun x wr => ∃ k : Nat, k ≤ n ∧ x = .int .i64 (k : Int) ∧ Hid (EnAt wr w.heap.size (.slice a1 n cap1) (setW l1 ws k)) ∧ Hid (Fr [] w wr)) (fun x _ => n - (intOf x).toNat)
  case atStart => exact ⟨0, Nat.zero_le _, rfl, h1, Lib.hid F1⟩
  case round =>
    obtain ⟨k, hk, rfl, hE, hF⟩ := hrel
    by_cases hlt : k < n
    · have hln : (setW l1 ws k).length = n := by rw [len_setW]; exact PS.out.2.2
      obtain ⟨g, cap2, hv1, _, _⟩ := hE.out.form (by rw [hln]; omega)
      rw [hln] at hv1
      obtain ⟨rfl, rfl⟩ : a1 = some ⟨g, 0, none⟩ ∧ cap1 = cap2 := by simpa using hv1
      have hE2 := hE.out
      unfold EnAt at hE2
      rw [hln] at hE2
      have fz := own_free hE2 (k * 3 + 2)
      have hkl : k < l1.length := by rw [PS.out.2.2]; exact hlt
      obtain ⟨_, _, u2⟩ := entCells_get (setW l1 ws k) k (by rw [hln]; exact hlt)
      have d2 := own_cell hE2 u2
      have hr := (HW.out.keep hF.out (by simp))
      rcases hr with hr | ⟨bb, bo, rfl, hb1, hb2⟩
      · have := HM.out; rw [hr] at this; simp at this; omega
      have d0 := hb2 k (by rw [HM.out]; exact hlt)
      have hnx : Hid (EnAt (wr.setCell ⟨g, k * 3 + 2, none⟩ (.int .u64 (ws[k]?.getD 0))) w.heap.size (.slice (some ⟨g, 0, none⟩) n cap1) (setW l1 ws (k + 1))) := Lib.hid (by
        have := own_set hE2 (k * 3 + 2) (.int .u64 (ws[k]?.getD 0))
        rw [setW_step l1 ws k hkl] at this
        unfold EnAt
        rw [len_setW, PS.out.2.2]
        exact this)
      have hF2 : Hid (Fr [] w (wr.setCell ⟨g, k * 3 + 2, none⟩ (.int .u64 (ws[k]?.getD 0)))) := Lib.hid (hF.out.setCell (.inr (own_base hE2)) _)
      obtain ⟨y, hy⟩ : ∃ y, y = ws[k]?.getD 0 := ⟨_, rfl⟩
      rw [← hy] at d0 hnx hF2
      clear hE hE2 u2 hln hkl hy hb2 hb1 hv1
      go_wp2
      go_roundw
      case rel => exact ⟨k + 1, by omega, by go_num, hnx, hF2⟩
      case measure => simp [intOf]; omega
    · have hkn : k = n := by omega
      subst hkn
      have hE2 : Hid (EnAt wr w.heap.size (.slice a1 k cap1) (setW l1 ws l1.length)) := Lib.hid (by rw [PS.out.2.2]; exact hE.out)
      have hab := hF.out.at H.out.p (by simp)
      have hc0 : wr.cell? ⟨ab, 0, none⟩ = some (.slice a0 k cap0) := cell_of hab rfl
      have hf0 : wr.frozen? ⟨ab, 0, none⟩ = false := free_of hab
      have hob : ∀ g, (Value.slice a1 k cap1).ownBlock = some g → w.heap.size ≤ g := by
        intro g hg
        rcases hE2.out.2 with ⟨hv, _⟩ | ⟨g', cap, cur, hv, hb, _⟩
        · rw [hv] at hg; simp [Value.ownBlock] at hg
        · rw [hv] at hg; simp [Value.ownBlock] at hg; omega
      have D : Hid (PutDone w B ab l added ws (.returned (.bool true)) (wr.setCell ⟨ab, 0, none⟩ (.slice a1 k cap1))) := Lib.hid (by
        have hF3 : Fr [ab] wr (wr.setCell ⟨ab, 0, none⟩ (.slice a1 k cap1)) := (Fr.refl _ _).setCell (by simp) _
        refine ⟨rfl, .slice a1 k cap1, l1, PS.out.1, PS.out.2.1, ⟨?_, ?_, ?_, heap_setW PS.out.2.1 _ _, H.out.lo⟩, hob, (hF.out.mono (by simp)).trans hF3 (by simp)⟩
        · rw [blk_set, if_pos rfl, hab]; rfl
        · refine own_fr ?_ hF3 (fun x hx => ?_)
          · have := hE2.out
            unfold EnAt at this
            rcases this.2 with ⟨hv, hx⟩ | ⟨g', cap', cur, hv, hb, hb2, hb3⟩
            · rw [hv, hx]
              have hz : setW l1 ws l1.length = [] := List.length_eq_zero_iff.1 hx
              rw [hz]; exact World.ownsRow_nil _ _ _ _
            · rw [hv] at this ⊢
              obtain ⟨cur, q1, q2, q3, q4, q5, q6, q7⟩ := own_blk this
              exact own_mk q1 (Nat.le_trans hB q2) q3 q4 q5 q6
          · have := hob x hx
            simp; omega
        · intro he
          have := hob ab he
          omega)
      clear hE2 hab hob hE
      go_wp2
      go_ret
      exact D.out
end Go.Proofs.Ytdaoaddpbibnmaa
