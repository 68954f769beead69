/- The agenda: the chapter's example; what comes first. -/
import Derived.Test.YtdaoaddpbibnmaaAgendaD
set_option linter.all false
namespace Go.Proofs.Ytdaoaddpbibnmaa
open Go.ChangeShapes Go.WideShapes Go.RowKit
theorem nth_mem (l : List E3) (i : Nat) (h : i < l.length) : nth l i ∈ l := by
  simp only [nth, List.getElem?_eq_getElem h, Option.getD_some]; exact List.getElem_mem h
theorem mem_nth {l : List E3} {x : E3} (h : x ∈ l) : ∃ i, i < l.length ∧ nth l i = x := by
  obtain ⟨i, hi, rfl⟩ := List.mem_iff_getElem.1 h
  exact ⟨i, hi, by simp [nth, hi]⟩
theorem first_least {l : List E3} (hh : HeapF ltE (nth l) l.length) {y : E3} (hy : y ∈ l) : ltE y (nth l 0) = false := by
  obtain ⟨i, hi, rfl⟩ := mem_nth hy
  exact hh.least ordE i hi
theorem first_is {l L : List E3} (hp : l.Perm L) (hh : HeapF ltE (nth l) l.length) {x : E3} (hx : x ∈ L) (hm : ∀ y, y ∈ L → y = x ∨ ltE x y = true) : nth l 0 = x := by
  have hx' : x ∈ l := hp.mem_iff.2 hx
  have h0 : 0 < l.length := List.length_pos_of_mem hx'
  rcases hm _ (hp.mem_iff.1 (nth_mem l 0 h0)) with h | h
  · exact h
  · rw [first_least hh hx'] at h; simp at h
theorem AgAt.ob {w : World} {B ab : Nat} {v : Value} {l : List E3} {added : Int} (h : AgAt w B ab v l added) : ∀ x, v.ownBlock = some x → B ≤ x := by
  intro x hx
  rcases h.en.2 with ⟨hv, _⟩ | ⟨g, cap, cur, hv, hb, _⟩
  · rw [hv] at hx; simp [Value.ownBlock] at hx
  · rw [hv] at hx; simp [Value.ownBlock] at hx; omega
theorem AgAt.own {w : World} {B ab : Nat} {v : Value} {l : List E3} {added : Int} (h : AgAt w B ab v l added) : ∀ x, x ∈ ab :: v.ownBlock.toList → B ≤ x := by
  intro x hx
  simp only [List.mem_cons, Option.mem_toList] at hx
  rcases hx with rfl | hx
  · exact h.lo
  · exact h.ob x hx
def e1 : E3 := ⟨5, 0, 10⟩
def e2 : E3 := ⟨3, 1, 20⟩
def e3 : E3 := ⟨5, 2, 30⟩
theorem agAlive_c (w : World) : Calls Try.prog 5 #[] w fun e w' => e = .returned (.bool true) ∧ Fr [] w w' := by
  go_enter Try.func5, Try.ntmps5
  go_wp2_with fail
  refine (gnew_c _).mono ?_
  rintro e w0 ⟨rfl, hw0⟩
  have A0 := AgAt.new w w.heap.size (Nat.le_refl _)
  rw [← hw0] at A0
  have F0 : Fr [] w w0 := by rw [hw0]; exact (Fr.refl _ _).alloc _
  have A0 := Lib.hid A0
  generalize hB : w.heap.size = B at *
  have S0 := F0.size
  clear hw0
  go_wp2_with fail
  refine (add_c w0 B B _ [] 0 A0.out (by omega) (by simp) (by omega) (by omega) 5 10).mono ?_
  rintro e w1 ⟨rfl, v1, l1, P1, A1, _, F1⟩
  have F1 : Fr [] w w1 := F0.trans F1 (fun x hx => .inr (by rw [hB]; exact A0.out.own x hx))
  have S1 := F1.size
  have P1 : Hid (l1.Perm [e1]) := Lib.hid P1
  have A1 := Lib.hid A1
  go_wp2_with fail
  refine (add_c w1 B B _ l1 1 A1.out (by omega) (by rw [P1.out.length_eq]; simp) (by omega) (by omega) 3 20).mono ?_
  rintro e w2 ⟨rfl, v2, l2, P2, A2, _, F2⟩
  have F2 : Fr [] w w2 := F1.trans F2 (fun x hx => .inr (by rw [hB]; exact A1.out.own x hx))
  have S2 := F2.size
  have P2 : Hid (l2.Perm [e2, e1]) := Lib.hid (P2.trans (P1.out.cons _))
  have A2 := Lib.hid A2
  go_wp2_with fail
  refine (add_c w2 B B _ l2 2 A2.out (by omega) (by rw [P2.out.length_eq]; simp) (by omega) (by omega) 5 30).mono ?_
  rintro e w3 ⟨rfl, v3, l3, P3, A3, _, F3⟩
  have F3 : Fr [] w w3 := F2.trans F3 (fun x hx => .inr (by rw [hB]; exact A2.out.own x hx))
  have P3 : Hid (l3.Perm [e3, e2, e1]) := Lib.hid (P3.trans (P2.out.cons _))
  have A3 := Lib.hid A3
  have N3 : Hid (nth l3 0 = e2) := Lib.hid (first_is P3.out A3.out.hp (by simp) (by intro y hy; simp at hy; rcases hy with rfl | rfl | rfl <;> first | exact .inl rfl | exact .inr (by decide)))
  go_wp2_with fail
  refine (next_c w3 B B _ l3 3 A3.out 2 (by rw [P3.out.length_eq]; rfl) (by omega)).mono ?_
  rintro e w4 ⟨rfl, v4, l4, P4, A4, _, F4⟩
  rw [N3.out] at P4 ⊢
  have F4 : Fr [] w w4 := F3.trans F4 (fun x hx => .inr (by rw [hB]; exact A3.out.own x hx))
  have P4 : Hid (l4.Perm [e3, e1]) := Lib.hid ((List.perm_cons e2).1 (P4.symm.trans (P3.out.trans (List.Perm.swap _ _ _))))
  have A4 := Lib.hid A4
  have N4 : Hid (nth l4 0 = e1) := Lib.hid (first_is P4.out A4.out.hp (by simp) (by intro y hy; simp at hy; rcases hy with rfl | rfl <;> first | exact .inl rfl | exact .inr (by decide)))
  go_wp2_with fail
  refine (next_c w4 B B _ l4 3 A4.out 1 (by rw [P4.out.length_eq]; rfl) (by omega)).mono ?_
  rintro e w5 ⟨rfl, v5, l5, P5, A5, _, F5⟩
  rw [N4.out] at P5 ⊢
  have F5 : Fr [] w w5 := F4.trans F5 (fun x hx => .inr (by rw [hB]; exact A4.out.own x hx))
  have P5 : Hid (l5.Perm [e3]) := Lib.hid ((List.perm_cons e1).1 (P5.symm.trans (P4.out.trans (List.Perm.swap _ _ _))))
  have A5 := Lib.hid A5
  have N5 : Hid (nth l5 0 = e3) := Lib.hid (first_is P5.out A5.out.hp (by simp) (by intro y hy; simp at hy; exact .inl hy))
  go_wp2_with fail
  refine (next_c w5 B B _ l5 3 A5.out 0 (by rw [P5.out.length_eq]; rfl) (by omega)).mono ?_
  rintro e w6 ⟨rfl, v6, l6, P6, A6, _, F6⟩
  rw [N5.out] at P6 ⊢
  have F6 : Fr [] w w6 := F5.trans F6 (fun x hx => .inr (by rw [hB]; exact A5.out.own x hx))
  have P6 := (List.perm_cons e3).1 (P6.symm.trans P5.out)
  have L6 : l6 = [] := List.perm_nil.1 P6
  subst L6
  have A6 := Lib.hid A6
  clear P6
  go_wp2_with fail
  refine (next_none w6 B B _ 3 A6.out).mono ?_
  rintro e w' ⟨rfl, rfl⟩
  go_wp2_with fail
  refine (glen_c w6 B B _ [] 3 A6.out).mono ?_
  rintro e w' ⟨rfl, rfl⟩
  go_wp2
  go_ret
  exact ⟨rfl, F6⟩
/-- What is to be done bears its turn as its word. -/
structure Turns (times : List Int) (l : List E3) : Prop where
  nd : (l.map E3.n).Nodup
  ok : ∀ y, y ∈ l → 0 ≤ y.n ∧ y.w = y.n ∧ y.n < times.length ∧ times[y.n.toNat]? = some y.t
theorem Turns.perm {times : List Int} {l l' : List E3} (h : Turns times l) (hp : l.Perm l') : Turns times l' :=
  ⟨(hp.map E3.n).nodup_iff.1 h.nd, fun y hy => h.ok y (hp.mem_iff.2 hy)⟩
theorem Turns.tail {times : List Int} {x : E3} {l : List E3} (h : Turns times (x :: l)) : Turns times l ∧ ∀ y, y ∈ l → y.n ≠ x.n := by
  obtain ⟨nd, ok⟩ := h
  simp only [List.map_cons, List.nodup_cons] at nd
  refine ⟨⟨nd.2, fun y hy => ok y (by simp [hy])⟩, fun y hy he => nd.1 ?_⟩
  rw [← he]; exact List.mem_map_of_mem hy
theorem later {x y : E3} (h : ltE y x = false) (hn : y.n ≠ x.n) : ltE x y = true := by
  rw [ltE_no] at h; rw [ltE_iff]; omega
end Go.Proofs.Ytdaoaddpbibnmaa
