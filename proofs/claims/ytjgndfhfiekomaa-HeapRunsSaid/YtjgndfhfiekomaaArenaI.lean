/- The arena: what stays as it should; the chapter's example; the names' law. -/
import Derived.Test.YtjgndfhfiekomaaArenaH
set_option linter.all false
namespace Go.Proofs.Ytjgndfhfiekomaa
open Go.ChangeShapes Go.WideShapes Go.RowKit
variable {w : World} {b wb lb : Nat} {A : Ar} {m : Nat}
theorem Ar.Ok.smallA (ok : A.Ok m) (n : Nat) (h1 : n ≤ 16) : (A.smallA n).1.Ok m := by
  obtain ⟨m1, m2, wl, ll, s1, s2, g1, g2, c1, c2, x1⟩ := ok
  unfold Ar.smallA
  split
  · exact ⟨m1, m2, wl, ll, by simp only []; omega, s2, g1, g2, c1, c2, x1⟩
  · split
    · exact ⟨m1, m2, wl, ll, s1, s2, g1, g2, c1, c2, x1⟩
    · rename_i f t hf
      obtain ⟨p1, p2, p3, p4, p5⟩ := find_spec _ _ _ (by omega) _ _ hf
      rw [ll] at p3
      exact ⟨m1, m2, wl, by simp [Ar.claim, len_claimed, ll], by simp only []; omega, by simp only []; omega, g1, g2, c1, c2, p3⟩
theorem Ar.Ok.greatA (ok : A.Ok m) (n : Nat) (h0 : 1 ≤ n) (h1 : n ≤ 256) : (A.greatA n m).1.Ok m := by
  obtain ⟨m1, m2, wl, ll, s1, s2, g1, g2, c1, c2, x1⟩ := ok
  unfold Ar.greatA
  split
  · exact ⟨m1, m2, wl, ll, s1, s2, by simp only []; omega, g2, c1, c2, x1⟩
  · split
    · rename_i q hq
      have := (blockBelow_lt _ _ _ hq).1
      exact ⟨m1, m2, wl, by simp [Ar.claim, len_claimed, ll], s1, s2, by simp only []; omega, by simp only []; omega, c1, c2, x1⟩
    · split
      · exact ⟨m1, m2, wl, ll, s1, s2, g1, g2, c1, c2, x1⟩
      · rename_i f t hf
        obtain ⟨p1, p2, p3, p4, p5⟩ := find_spec _ _ _ (by omega) _ _ hf
        rw [ll] at p3
        exact ⟨m1, m2, wl, by simp [Ar.claim, len_claimed, ll], s1, s2, by simp only []; omega, by simp only []; omega, c1, c2, x1⟩
theorem Ar.Ok.alloc (ok : A.Ok m) (n : Int) : (A.alloc m n).1.Ok m := by
  unfold Ar.alloc
  split
  · exact ok
  · split
    · exact ok.greatA _ (by omega) (by omega)
    · exact ok.smallA _ (by omega)
theorem Ar.Ok.fresh (ok : A.Ok m) (n : Int) : (A.fresh m n).1.Ok m := by
  unfold Ar.fresh
  split
  · exact ok
  · obtain ⟨m1, m2, wl, ll, s1, s2, g1, g2, c1, c2, x1⟩ := ok
    unfold Ar.freshA
    split
    · exact ⟨m1, m2, wl, ll, s1, s2, g1, g2, by simp only []; omega, c2, x1⟩
    · split
      · rename_i q hq
        have := (blockBelow_lt _ _ _ hq).1
        exact ⟨m1, m2, wl, by simp [Ar.claim, len_claimed, ll], s1, s2, g1, g2, by simp only []; omega, by simp only []; omega, x1⟩
      · exact ⟨m1, m2, wl, ll, s1, s2, g1, g2, c1, c2, x1⟩
theorem Ar.Ok.mark (ok : A.Ok m) (a n : Int) : (A.mark m a n).Ok m := by
  obtain ⟨m1, m2, wl, ll, s1, s2, g1, g2, c1, c2, x1⟩ := ok
  unfold Ar.mark
  split
  · exact ⟨m1, m2, wl, ll, s1, s2, g1, g2, c1, c2, x1⟩
  · exact ⟨m1, m2, wl, by simp [Ar.markL, len_markedL, ll], s1, s2, g1, g2, c1, c2, x1⟩
theorem Ar.Ok.sweep (ok : A.Ok m) : A.sweep.Ok m := by
  obtain ⟨m1, m2, wl, ll, s1, s2, g1, g2, c1, c2, x1⟩ := ok
  exact ⟨m1, m2, wl, by simp [Ar.sweep, ll], by simp [Ar.sweep], by simp [Ar.sweep], by simp [Ar.sweep], by simp [Ar.sweep], by simp [Ar.sweep], by simp [Ar.sweep], by simp [Ar.sweep]⟩
theorem Ar.Ok.set (ok : A.Ok m) (i : Nat) (v : Int) : (A.set i v).Ok m := by
  obtain ⟨m1, m2, wl, ll, s1, s2, g1, g2, c1, c2, x1⟩ := ok
  exact ⟨m1, m2, by simp [Ar.set, wl], ll, s1, s2, g1, g2, c1, c2, x1⟩
end Go.Proofs.Ytjgndfhfiekomaa
