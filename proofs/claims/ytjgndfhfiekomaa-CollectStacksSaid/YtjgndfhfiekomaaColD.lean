/- Collecting: the library's Push and Pop over it. -/
import Derived.Test.YtjgndfhfiekomaaColC
namespace Go.Proofs.Ytjgndfhfiekomaa
open Go.ChangeShapes Go.WideShapes Go.RowKit
variable {w : World} {B g cap pb : Nat} {l : List C2} {v : Value} {c : Array Value} {T : TypeId}
def PushDone (w : World) (B pb : Nat) (c : Array Value) (T : TypeId) (v : Value) (l : List C2) (x : C2) (e : Ending) (w' : World) : Prop :=
  e = .returned (.tuple #[]) ∧ ∃ g cap l', l'.Perm (x :: l) ∧ HeapF ltE (nth l') (l.length + 1) ∧ HpAt w' B pb (c.setIfInBounds 0 (.slice (some ⟨g, 0, none⟩) (l.length + 1) cap)) T g cap l' ∧ (v.ownBlock = some g ∨ w.heap.size ≤ g) ∧ Fr (pb :: v.ownBlock.toList) w w'
theorem nth_append_left (l : List C2) (x : C2) (i : Nat) (h : i < l.length) : nth (l ++ [x]) i = nth l i := by
  simp [nth, List.getElem?_append_left h]
theorem hpush_c (w : World) (hP : blk w pb = some (.cells c T (0, 0))) (hc : c[0]? = some v) (hE : EnAt w B v l) (hne : v.ownBlock ≠ some pb) (hB : B ≤ w.heap.size) (hn : l.length ≤ 999999) (hh : HeapF ltE (nth l) l.length) (x : C2) :
    Calls Try.prog 132 #[.iface 183 (.pointer (some ⟨pb, 0, none⟩)), .iface 188 (.agg #[.int .i64 x.b, .int .i64 x.f])] w (PushDone w B pb c T v l x) := by
  have CP := Lib.hid (epush_c w hP hc hE hne hB (by omega) x)
  have HH := Lib.hid hh
  have h0 : 0 < c.size := by
    rcases Nat.lt_or_ge 0 c.size with h | h
    · exact h
    · rw [Array.getElem?_eq_none h] at hc; simp at hc
  have MP := method_push w pb
  clear hP hc hE hB hh hne
  go_enter Try.func132, Try.ntmps132
  go_wp2_with fail
  refine CP.out.mono ?_
  rintro e w1 ⟨rfl, g, cap, hE1, hP1, hat, hne1, hF1⟩
  clear MP
  have hlen : (l ++ [x]).length = l.length + 1 := by simp
  have HP1 : Hid (HpAt w1 B pb (c.setIfInBounds 0 (.slice (some ⟨g, 0, none⟩) (l.length + 1) cap)) T g cap (l ++ [x])) := Lib.hid ⟨hP1, by rw [hlen]; simp [h0], by rw [hlen]; exact hE1, hne1⟩
  have ML := HP1.out.len
  rw [hlen] at ML
  have AT := Lib.hid hat
  have HL := Lib.hid hlen
  have F1 := Lib.hid hF1
  clear hE1 hP1 hat hlen hF1 hne1
  obtain ⟨N, hN⟩ : ∃ N, N = l.length := ⟨_, rfl⟩
  have HN := Lib.hid hN
  rw [← hN] at ML hn
  clear hN
  go_wp2_with fail
  refine (len_c _ _ _ _).mono ?_
  rintro e w' ⟨rfl, rfl⟩
  clear ML
  go_wp2_with fail
  have hup : UpInv ltE (nth (l ++ [x])) (N + 1) N := by
    rw [HN.out]
    exact (HH.out.congr (fun i hi => nth_append_left l x i hi)).up
  refine (up_c w1 (N + 1) (by rw [HL.out, HN.out]) N (by omega) HP1.out hup (by omega)).mono ?_
  rintro e w2 ⟨rfl, l', hp, hheap, hat2, hF2⟩
  go_wp2
  go_end0
  refine ⟨rfl, g, cap, l', hp.trans (List.perm_append_comm (l₁ := l) (l₂ := [x])), by rw [← HN.out]; exact hheap, hat2, AT.out, F1.out.trans hF2 ?_⟩
  intro y hy
  have : y = g := by simpa using hy
  subst this
  rcases AT.out with h | h
  · left; rw [h]; simp
  · exact .inr h
def PopDone (w : World) (B g cap pb : Nat) (c : Array Value) (T : TypeId) (l : List C2) (n : Nat) (e : Ending) (w' : World) : Prop :=
  e = .returned (.iface 188 (.agg #[.int .i64 (nth l 0).b, .int .i64 (nth l 0).f])) ∧ ∃ l', l.Perm (nth l 0 :: l') ∧ HeapF ltE (nth l') n ∧ HpAt w' B pb (c.setIfInBounds 0 (.slice (some ⟨g, 0, none⟩) n cap)) T g cap l' ∧ Fr [pb, g] w w'
theorem take_snoc (l : List C2) (n : Nat) (h : l.length = n + 1) : l = l.take n ++ [nth l n] := by
  have := List.take_append_drop n l
  have h2 : l.drop n = [nth l n] := by
    rw [List.drop_eq_getElem_cons (by omega)]
    simp [nth, List.drop_of_length_le, h]
  rw [h2] at this
  exact this.symm
theorem nth_take (l : List C2) (n i : Nat) (h : i < n) : nth (l.take n) i = nth l i := by
  simp [nth, h]
theorem hpop_c (w : World) (n : Nat) (hl : l.length = n + 1) (h : HpAt w B pb c T g cap l) (hh : HeapF ltE (nth l) (n + 1)) (hn : n ≤ 999999) :
    Calls Try.prog 134 #[.iface 183 (.pointer (some ⟨pb, 0, none⟩))] w (PopDone w B g cap pb c T l n) := by
  have H := Lib.hid h
  have HH := Lib.hid hh
  have HL := Lib.hid hl
  have ML := h.len
  have MS := h.swap
  rw [hl] at ML MS
  have SC := Lib.hid (swap_c w h.en 0 n (by omega) (by omega))
  rw [hl] at SC
  clear h hh hl
  go_enter Try.func134, Try.ntmps134
  go_wp2_with fail
  refine (len_c _ _ _ _).mono ?_
  rintro e w' ⟨rfl, rfl⟩
  clear ML
  go_wp2_with fail
  refine SC.out.mono ?_
  rintro e w1 ⟨rfl, hE1, hF1⟩
  clear MS
  have H1 := Lib.hid (H.out.swapped 0 n hF1 (by rw [HL.out]; exact hE1))
  have hls : Hid ((swapL l 0 n).length = n + 1) := Lib.hid (by rw [len_swapL, HL.out])
  have hdn : DnInv ltE (nth (swapL l 0 n)) n 0 := HH.out.down.congr (fun i _ => nth_swapL l 0 n i (by rw [HL.out]; omega) (by rw [HL.out]; omega))
  have CD := Lib.hid (down_c w1 n (n + 1) hls.out (by omega) H1.out hdn (by omega))
  have F1 := Lib.hid hF1
  clear hdn hE1 hF1
  go_wp2_with fail
  refine CD.out.mono ?_
  rintro e w2 ⟨r, rfl, l', hp, hheap, hkeep, hat, hF2⟩
  have hll : l'.length = n + 1 := hp.length_eq.trans hls.out
  have CP := epop_c w2 n hll hat.p (by rw [← hll]; exact hat.c0) (by rw [← hll]; exact hat.en) hat.ne (by omega)
  have MP := method_pop w2 pb
  have hlast : Hid (nth l' n = nth l 0) := Lib.hid (by
    rw [hkeep n (Nat.le_refl _), nth_swapL l 0 n n (by rw [HL.out]; omega) (by rw [HL.out]; omega)]
    unfold swapF
    by_cases h0 : n = 0
    · rw [if_pos h0, h0]
    · rw [if_neg h0, if_pos rfl])
  have hc0 := Lib.hid hat.c0
  have HLL := Lib.hid hll
  have HP := Lib.hid (hp.trans (swapL_perm l 0 n (by rw [HL.out]; omega) (by rw [HL.out]; omega)))
  have HHp := Lib.hid hheap
  have hne := Lib.hid hat.ne
  have F2 := Lib.hid (F1.out.same hF2)
  have CP := Lib.hid CP
  clear hp hheap hkeep hat hF2 hll F1 SC CD
  go_wp2_with fail
  refine CP.out.mono ?_
  rintro e w3 ⟨rfl, hC2, hP3, hF3⟩
  have hlt : (l'.take n).length = n := by simp [HLL.out]
  have D : Hid (PopDone w B g cap pb c T l n (.returned (.iface 188 (.agg #[.int .i64 (nth l' n).b, .int .i64 (nth l' n).f]))) w3) := Lib.hid (by
    have h0 : 0 < c.size := by
      have := hc0.out
      rcases Nat.lt_or_ge 0 c.size with h | h
      · exact h
      · rw [Array.getElem?_eq_none h] at this; simp at this
    refine ⟨by rw [hlast.out], l'.take n, ?_, HHp.out.congr (fun i hi => nth_take l' n i hi), ⟨hP3, by rw [hlt]; simp [h0], by rw [hlt]; exact hC2, hne.out⟩, ?_⟩
    · have e1 := take_snoc l' n HLL.out
      rw [hlast.out] at e1
      exact (HP.out.symm.trans (List.Perm.of_eq e1)).trans (List.perm_append_comm (l₁ := (l'.take n)) (l₂ := [nth l 0]))
    · exact (F2.out.mono (by simp)).trans hF3 (by simp))
  clear MP CP hC2 hP3 hF3 hlt
  go_wp2
  go_ret
  exact D.out
end Go.Proofs.Ytjgndfhfiekomaa
