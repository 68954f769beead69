/- The arena: what stays as it should; the chapter's example; the names' law. -/
import Derived.Test.YtjcpjgdknelhnaaArenaH
namespace Go.Proofs.Ytjcpjgdknelhnaa
open Go.ChangeShapes Go.WideShapes Go.RowKit
variable {w : World} {b wb lb : Nat} {A : Ar} {m : Nat}
theorem Ar.Ok.smallA (ok : A.Ok m) (n : Nat) (h1 : n ≤ 16) : (A.smallA n).1.Ok m := by
  obtain ⟨m1, m2, wl, ll, s1, s2, g1, g2, c1, c2, x1⟩ := ok
  unfold Ar.smallA
  split
  · exact ⟨m1, m2, wl, ll, by simp only []; omega, s2, g1, g2, c1, c2, x1⟩
  · split
    · exact ⟨m1, m2, wl, ll, s1, s2, g1, g2, c1, c2, x1⟩
    · rename_i f t hf
      obtain ⟨p1, p2, p3, p4, p5⟩ := find_spec _ _ _ (by omega) _ _ hf
      rw [ll] at p3
      exact ⟨m1, m2, wl, by simp [Ar.claim, len_claimed, ll], by simp only []; omega, by simp only []; omega, g1, g2, c1, c2, p3⟩
theorem Ar.Ok.greatA (ok : A.Ok m) (n : Nat) (h0 : 1 ≤ n) (h1 : n ≤ 256) : (A.greatA n m).1.Ok m := by
  obtain ⟨m1, m2, wl, ll, s1, s2, g1, g2, c1, c2, x1⟩ := ok
  unfold Ar.greatA
  split
  · exact ⟨m1, m2, wl, ll, s1, s2, by simp only []; omega, g2, c1, c2, x1⟩
  · split
    · rename_i q hq
      have := (blockBelow_lt _ _ _ hq).1
      exact ⟨m1, m2, wl, by simp [Ar.claim, len_claimed, ll], s1, s2, by simp only []; omega, by simp only []; omega, c1, c2, x1⟩
    · split
      · exact ⟨m1, m2, wl, ll, s1, s2, g1, g2, c1, c2, x1⟩
      · rename_i f t hf
        obtain ⟨p1, p2, p3, p4, p5⟩ := find_spec _ _ _ (by omega) _ _ hf
        rw [ll] at p3
        exact ⟨m1, m2, wl, by simp [Ar.claim, len_claimed, ll], s1, s2, by simp only []; omega, by simp only []; omega, c1, c2, x1⟩
theorem Ar.Ok.alloc (ok : A.Ok m) (n : Int) : (A.alloc m n).1.Ok m := by
  unfold Ar.alloc
  split
  · exact ok
  · split
    · exact ok.greatA _ (by omega) (by omega)
    · exact ok.smallA _ (by omega)
theorem Ar.Ok.fresh (ok : A.Ok m) (n : Int) : (A.fresh m n).1.Ok m := by
  unfold Ar.fresh
  split
  · exact ok
  · obtain ⟨m1, m2, wl, ll, s1, s2, g1, g2, c1, c2, x1⟩ := ok
    unfold Ar.freshA
    split
    · exact ⟨m1, m2, wl, ll, s1, s2, g1, g2, by simp only []; omega, c2, x1⟩
    · split
      · rename_i q hq
        have := (blockBelow_lt _ _ _ hq).1
        exact ⟨m1, m2, wl, by simp [Ar.claim, len_claimed, ll], s1, s2, g1, g2, by simp only []; omega, by simp only []; omega, x1⟩
      · exact ⟨m1, m2, wl, ll, s1, s2, g1, g2, c1, c2, x1⟩
theorem Ar.Ok.mark (ok : A.Ok m) (a n : Int) : (A.mark m a n).Ok m := by
  obtain ⟨m1, m2, wl, ll, s1, s2, g1, g2, c1, c2, x1⟩ := ok
  unfold Ar.mark
  split
  · exact ⟨m1, m2, wl, ll, s1, s2, g1, g2, c1, c2, x1⟩
  · exact ⟨m1, m2, wl, by simp [Ar.markL, len_markedL, ll], s1, s2, g1, g2, c1, c2, x1⟩
theorem Ar.Ok.sweep (ok : A.Ok m) : A.sweep.Ok m := by
  obtain ⟨m1, m2, wl, ll, s1, s2, g1, g2, c1, c2, x1⟩ := ok
  exact ⟨m1, m2, wl, by simp [Ar.sweep, ll], by simp [Ar.sweep], by simp [Ar.sweep], by simp [Ar.sweep], by simp [Ar.sweep], by simp [Ar.sweep], by simp [Ar.sweep], by simp [Ar.sweep]⟩
theorem Ar.Ok.set (ok : A.Ok m) (i : Nat) (v : Int) : (A.set i v).Ok m := by
  obtain ⟨m1, m2, wl, ll, s1, s2, g1, g2, c1, c2, x1⟩ := ok
  exact ⟨m1, m2, by simp [Ar.set, wl], ll, s1, s2, g1, g2, c1, c2, x1⟩
def ex1 : Ar := ((Ar.new 1).alloc 1 10).1
def ex2 : Ar := (ex1.alloc 1 10).1
def ex3 : Ar := (ex2.alloc 1 10).1
def ex4 : Ar := ex3.set 20 7
def ex5 : Ar := ex4.mark 1 20 10
def ex6 : Ar := ex5.sweep
def ex7 : Ar := (ex6.alloc 1 3).1
theorem alive_c (w : World) : Calls Try.prog 18 #[] w fun e w' => e = .returned (.bool true) ∧ Fr [] w w' := by
  have e1 : Hid (((Ar.new 1).alloc 1 10).2 = some 0) := Lib.hid (by decide +kernel)
  have e2 : Hid ((ex1.alloc 1 10).2 = some 10) := Lib.hid (by decide +kernel)
  have e3 : Hid ((ex2.alloc 1 10).2 = some 20) := Lib.hid (by decide +kernel)
  have e4 : Hid (ex6.words[20]?.getD 0 = 7) := Lib.hid (by decide +kernel)
  have e5 : Hid ((ex6.alloc 1 3).2 = some 0) := Lib.hid (by decide +kernel)
  have e6 : Hid (freeOf ex7.lines 0 = 14) := Lib.hid (by decide +kernel)
  have o0 : Hid ((Ar.new 1).Ok 1) := Lib.hid (Ar.new_ok 1 (by omega) (by omega))
  have o1 : Hid (ex1.Ok 1) := Lib.hid (o0.out.alloc _)
  have o2 : Hid (ex2.Ok 1) := Lib.hid (o1.out.alloc _)
  have o3 : Hid (ex3.Ok 1) := Lib.hid (o2.out.alloc _)
  have o4 : Hid (ex4.Ok 1) := Lib.hid (o3.out.set _ _)
  have o5 : Hid (ex5.Ok 1) := Lib.hid (o4.out.mark _ _)
  have o6 : Hid (ex6.Ok 1) := Lib.hid o5.out.sweep
  have o7 : Hid (ex7.Ok 1) := Lib.hid (o6.out.alloc _)
  go_enter Try.func18, Try.ntmps18
  go_wp2_with fail
  refine (new_c _ _).mono ?_
  rintro e w0 ⟨b, wb, lb, rfl, A0, F0, hb, hwb, hlb⟩
  have A0 : Hid (ArAt w0 b wb lb (Ar.new 1)) := Lib.hid A0
  go_wp2_with fail
  refine (alloc_c _ A0.out o0.out 10).mono ?_
  rintro e w1 ⟨rfl, A1, F1⟩
  rw [e1.out]; simp only [optVal]
  have A1 : Hid (ArAt w1 b wb lb ex1) := Lib.hid A1
  go_wp2_with fail
  refine (alloc_c _ A1.out o1.out 10).mono ?_
  rintro e w2 ⟨rfl, A2, F2⟩
  rw [e2.out]; simp only [optVal]
  have A2 : Hid (ArAt w2 b wb lb ex2) := Lib.hid A2
  go_wp2_with fail
  refine (alloc_c _ A2.out o2.out 10).mono ?_
  rintro e w3 ⟨rfl, A3, F3⟩
  rw [e3.out]; simp only [optVal]
  have A3 : Hid (ArAt w3 b wb lb ex3) := Lib.hid A3
  go_wp2_with fail
  refine (set_yes _ A3.out o3.out 20 7 (by omega)).mono ?_
  rintro e w4 ⟨rfl, A4, F4⟩
  have A4 : Hid (ArAt w4 b wb lb ex4) := Lib.hid A4
  go_wp2_with fail
  refine (mark_c _ A4.out o4.out 20 10 (by omega) (by omega)).mono ?_
  rintro e w5 ⟨rfl, A5, F5⟩
  have A5 : Hid (ArAt w5 b wb lb ex5) := Lib.hid A5
  go_wp2_with fail
  refine (sweep_c _ A5.out o5.out).mono ?_
  rintro e w6 ⟨rfl, A6, F6⟩
  have A6 : Hid (ArAt w6 b wb lb ex6) := Lib.hid A6
  go_wp2_with fail
  refine (get_yes _ A6.out o6.out 20 (by omega)).mono ?_
  rintro e w' ⟨rfl, rfl⟩
  rw [e4.out]
  go_wp2_with fail
  refine (alloc_c _ A6.out o6.out 3).mono ?_
  rintro e w7 ⟨rfl, A7, F7⟩
  rw [e5.out]; simp only [optVal]
  have A7 : Hid (ArAt w7 b wb lb ex7) := Lib.hid A7
  go_wp2_with fail
  refine (free_yes _ A7.out o7.out 0 (by omega)).mono ?_
  rintro e w8 ⟨rfl, F8⟩
  rw [e6.out]
  go_wp2
  go_ret
  refine ⟨rfl, ?_⟩
  have hs : ∀ x, x ∈ [b, wb, lb] → x ∈ ([] : List Nat) ∨ w.heap.size ≤ x := by simp; omega
  have hm : ∀ {S : List Nat} {a c : World}, Fr S a c → (∀ x, x ∈ S → x ∈ [b, wb, lb]) → Fr [b, wb, lb] a c := fun h k => h.mono fun x hx => .inl (k x hx)
  exact (F0.same (Fr.refl _ _)).trans (((((((hm F1 (by simp)).same (hm F2 (by simp))).same (hm F3 (by simp))).same (hm F4 (by simp))).same (hm F5 (by simp))).same (hm F6 (by simp))).same (hm F7 (by simp)) |>.same (hm F8 (by simp))) hs
end Go.Proofs.Ytjcpjgdknelhnaa
