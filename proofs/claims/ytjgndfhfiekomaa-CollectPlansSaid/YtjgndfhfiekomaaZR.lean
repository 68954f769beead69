/- The law's step: a collection; no act; all together. -/
import Derived.Test.YtjgndfhfiekomaaZL
import Derived.Test.YtjgndfhfiekomaaZM
import Derived.Test.YtjgndfhfiekomaaZN
import Derived.Test.YtjgndfhfiekomaaZO
import Derived.Test.YtjgndfhfiekomaaZQ
set_option linter.all false
namespace Go.Proofs.Ytjgndfhfiekomaa
open Go.ChangeShapes Go.WideShapes Go.RowKit
variable {w0 w : World} {c : Yk} {A : Ar} {S : Ys} {ex : List RV} {m : Nat} {G K : List Bool} {D : Nat → Option Ob}
set_option maxRecDepth 100000 in
set_option maxHeartbeats 8000000 in
theorem step_5 (hY : YAt w0 w c A S ex) (hI : YI m A S G K D) (a b : Nat) (ha : a < 8) (hb : b < 8) (i : Int) (n wd p0 p1 : Int) (ka kb : Int) (HKA : Hid (ka = (S.mr[a]?.getD ⟨0, -1⟩).k)) (HKB : Hid (kb = (S.mr[b]?.getD ⟨0, -1⟩).k))  :
    Calls Try.prog 40 #[.pointer (some ⟨c.y, 0, none⟩), .agg #[.int .i64 5, .int .i64 (a : Int), .int .i64 (b : Int), .int .i64 i, .int .i64 n, .int .u64 wd, .int .i64 p0, .int .i64 p1]] w (StepOk w0 c ex m S ⟨5, a, b, i, n, wd, p0, p1⟩) := by
  have fin : Hid (∀ e w', ColOk w0 c ex m S e w' → StepOk w0 c ex m S ⟨5, a, b, i, n, wd, p0, p1⟩ e w') := Lib.hid (by
    rintro e w' ⟨A', R, G', K', D', h1, h2, h3⟩
    exact ⟨true, A', _, G', K', D', h1, h2, h3, by rw [stepM_no (.inr (.inl rfl))]; rfl⟩)
  have CC := Lib.hid (fun wz (hF : Fr [] w wz) => wcollect_c (hY.keep hF) hI p0 p1)
  have HY := Lib.hid hY
  have CO := Lib.hid (fun w' (hF : Fr [] w w') => yobject_k (hY.keep hF) a ha ka HKA.out)
  have CB := Lib.hid (fun w' (hF : Fr [] w w') => yobject_k (hY.keep hF) b hb kb HKB.out)
  obtain ⟨mg, mcap, hmv, _, _, _, _⟩ := hY.mrow
  have HMV := Lib.hid hmv
  clear hY hI hmv
  have ha0 : (0 : Int) ≤ (a : Int) := by omega
  have ha8 : (a : Int) < 8 := by omega
  have hb0 : (0 : Int) ≤ (b : Int) := by omega
  have hb8 : (b : Int) < 8 := by omega
  go_enter Try.func40, Try.ntmps40
  go_wp2_with fail
  refine (CO.out _ ((Fr.refl _ _).alloc _)).mono ?_
  rintro e w' ⟨rfl, rfl⟩
  have F1 : Fr [] w (w.alloc (.cells #[.int .i64 5, .int .i64 (a : Int), .int .i64 (b : Int), .int .i64 i, .int .i64 n, .int .u64 wd, .int .i64 p0, .int .i64 p1] 80)) := (Fr.refl [] w).alloc _
  have Y1 := Lib.hid (HY.out.keep F1)
  have B1 := Lib.hid (show blk (w.alloc (.cells #[.int .i64 5, .int .i64 (a : Int), .int .i64 (b : Int), .int .i64 i, .int .i64 n, .int .u64 wd, .int .i64 p0, .int .i64 p1] 80)) w.heap.size = some (.cells #[.int .i64 5, .int .i64 (a : Int), .int .i64 (b : Int), .int .i64 i, .int .i64 n, .int .u64 wd, .int .i64 p0, .int .i64 p1] 80 (0, 0)) by rw [blk_alloc, if_pos rfl])
  have NB := Lib.hid (HY.out.lt_all)
  have NY := Lib.hid HY.out.ny
  have HTOP := Lib.hid HY.out.all_lt
  have FD := Lib.hid (fun (j : Nat) (o : Mo) (ho : S.objs[j]? = some o) (x : Nat) (hx : o.v.ownBlock = some x) => HY.out.nfd ho hx)
  have CB1 := Lib.hid (fun w' (hF : Fr [] (w.alloc (.cells #[.int .i64 5, .int .i64 (a : Int), .int .i64 (b : Int), .int .i64 i, .int .i64 n, .int .u64 wd, .int .i64 p0, .int .i64 p1] 80)) w') => yobject_k (Y1.out.keep hF) b hb kb HKB.out)
  generalize w.alloc (.cells #[.int .i64 5, .int .i64 (a : Int), .int .i64 (b : Int), .int .i64 i, .int .i64 n, .int .u64 wd, .int .i64 p0, .int .i64 p1] 80) = w1 at *
  generalize w.heap.size = bx at *
  have hnb : bx ≠ S.rb := by have := NB.out.2.1; omega
  have hny : c.y ≠ S.rb := NY.out.1
  have hnc : bx ≠ c.y := by have := NB.out.1; omega
  have hn3 : bx ∉ [c.b, c.wb, c.lb] := Yk.three (fun hm => by have := HTOP.out bx hm; omega)
  have hy3 : c.y ∉ [c.b, c.wb, c.lb] := HY.out.yne.1
  have hr3 : S.rb ∉ [c.b, c.wb, c.lb] := HY.out.nall (rowsY_r S ex) rfl rfl
  have hmo : S.mv.ownBlock = some mg := by rw [HMV.out]; rfl
  have hnm : bx ≠ mg := by have := NB.out.2.2.1 mg hmo; omega
  have hym : c.y ≠ mg := NY.out.2.1 mg hmo
  clear hmo
  have k0 := cell_of B1.out (i := 0) rfl
  have k6 := cell_of B1.out (i := 6) rfl
  have k7 := cell_of B1.out (i := 7) rfl
  go_wp2_with fail
  clear k0 k6 k7
  refine (CC.out _ F1).mono ?_
  rintro e w2 hp
  have FP := Lib.hid (fin.out e w2 hp)
  obtain ⟨A', R, G', K', D', he, _⟩ := hp
  subst he
  go_wp2
  go_ret
  exact FP.out
set_option maxRecDepth 100000 in
set_option maxHeartbeats 8000000 in
theorem step_no0 (hY : YAt w0 w c A S ex) (hI : YI m A S G K D) (a b : Nat) (ha : a < 8) (hb : b < 8) (k i n wd p0 p1 : Int) (hk : k < 0) :
    Calls Try.prog 40 #[.pointer (some ⟨c.y, 0, none⟩), .agg #[.int .i64 k, .int .i64 (a : Int), .int .i64 (b : Int), .int .i64 i, .int .i64 n, .int .u64 wd, .int .i64 p0, .int .i64 p1]] w (StepOk w0 c ex m S ⟨k, a, b, i, n, wd, p0, p1⟩) := by
  have fin : Hid (∀ w', YAt w0 w' c A S ex → StepOk w0 c ex m S ⟨k, a, b, i, n, wd, p0, p1⟩ (.returned (.bool true)) w') := Lib.hid (fun w' h => ⟨true, _, _, G, K, D, rfl, h, hI, by rw [stepM_no (.inl hk)]⟩)
  have HY := Lib.hid hY
  have CO := Lib.hid (fun w' (hF : Fr [] w w') => yobject_c (hY.keep hF) a ha)
  have e0 : (k == 0) = false := by simp; omega
  have n0 : ¬ k = 0 := by omega
  have e1 : (k == 1) = false := by simp; omega
  have n1 : ¬ k = 1 := by omega
  have e2 : (k == 2) = false := by simp; omega
  have n2 : ¬ k = 2 := by omega
  have e3 : (k == 3) = false := by simp; omega
  have n3 : ¬ k = 3 := by omega
  have e4 : (k == 4) = false := by simp; omega
  have n4 : ¬ k = 4 := by omega
  have e5 : (k == 5) = false := by simp; omega
  have n5 : ¬ k = 5 := by omega
  have e6 : (k == 6) = false := by simp; omega
  have n6 : ¬ k = 6 := by omega
  have e7 : (k == 7) = false := by simp; omega
  have n7 : ¬ k = 7 := by omega
  clear hY hI
  go_enter Try.func40, Try.ntmps40
  go_wp2_with fail
  refine (CO.out _ ((Fr.refl _ _).alloc _)).mono ?_
  rintro e w' ⟨rfl, rfl⟩
  go_wp2
  go_ret
  exact fin.out _ (HY.out.keep ((Fr.refl [] w).alloc _))
set_option maxRecDepth 100000 in
set_option maxHeartbeats 8000000 in
theorem step_no8 (hY : YAt w0 w c A S ex) (hI : YI m A S G K D) (a b : Nat) (ha : a < 8) (hb : b < 8) (k i n wd p0 p1 : Int) (hk : 7 < k) :
    Calls Try.prog 40 #[.pointer (some ⟨c.y, 0, none⟩), .agg #[.int .i64 k, .int .i64 (a : Int), .int .i64 (b : Int), .int .i64 i, .int .i64 n, .int .u64 wd, .int .i64 p0, .int .i64 p1]] w (StepOk w0 c ex m S ⟨k, a, b, i, n, wd, p0, p1⟩) := by
  have fin : Hid (∀ w', YAt w0 w' c A S ex → StepOk w0 c ex m S ⟨k, a, b, i, n, wd, p0, p1⟩ (.returned (.bool true)) w') := Lib.hid (fun w' h => ⟨true, _, _, G, K, D, rfl, h, hI, by rw [stepM_no (.inr (.inr hk))]⟩)
  have HY := Lib.hid hY
  have CO := Lib.hid (fun w' (hF : Fr [] w w') => yobject_c (hY.keep hF) a ha)
  have e0 : (k == 0) = false := by simp; omega
  have n0 : ¬ k = 0 := by omega
  have e1 : (k == 1) = false := by simp; omega
  have n1 : ¬ k = 1 := by omega
  have e2 : (k == 2) = false := by simp; omega
  have n2 : ¬ k = 2 := by omega
  have e3 : (k == 3) = false := by simp; omega
  have n3 : ¬ k = 3 := by omega
  have e4 : (k == 4) = false := by simp; omega
  have n4 : ¬ k = 4 := by omega
  have e5 : (k == 5) = false := by simp; omega
  have n5 : ¬ k = 5 := by omega
  have e6 : (k == 6) = false := by simp; omega
  have n6 : ¬ k = 6 := by omega
  have e7 : (k == 7) = false := by simp; omega
  have n7 : ¬ k = 7 := by omega
  clear hY hI
  go_enter Try.func40, Try.ntmps40
  go_wp2_with fail
  refine (CO.out _ ((Fr.refl _ _).alloc _)).mono ?_
  rintro e w' ⟨rfl, rfl⟩
  go_wp2
  go_ret
  exact fin.out _ (HY.out.keep ((Fr.refl [] w).alloc _))
/-- Whatever is done, all goes as it should. -/
theorem step_c (hY : YAt w0 w c A S ex) (hI : YI m A S G K D) (hlen : S.objs.length < 1000) (x : Ac) (hw : Wd64 x.w) : Calls Try.prog 40 #[.pointer (some ⟨c.y, 0, none⟩), x.v] w (StepOk w0 c ex m S x) := by
  by_cases hoff : x.off
  · exact step_off hY hI x hoff
  obtain ⟨kind, a, b, i, n, wd, p0, p1⟩ := x
  unfold Ac.off at hoff
  unfold Ac.v
  simp only at hoff hw ⊢
  obtain ⟨a, rfl⟩ : ∃ q : Nat, a = q := ⟨a.toNat, by omega⟩
  obtain ⟨b, rfl⟩ : ∃ q : Nat, b = q := ⟨b.toNat, by omega⟩
  have ha : a < 8 := by omega
  have hb : b < 8 := by omega
  have HWD := Lib.hid hw
  by_cases h0 : kind = 0
  · subst h0
    cases hmk : (makeF A m n i).2 with
    | none => exact step_0n hY hI a b ha hb i n wd p0 p1 _ _ (Lib.hid rfl) (Lib.hid rfl) hmk
    | some x0 =>
      obtain ⟨_, _, _, q0, _⟩ := hI.make hmk ha hlen
      obtain ⟨q, rfl⟩ : ∃ q : Nat, i = q := ⟨i.toNat, by omega⟩
      exact step_0y hY hI a b ha hb q n wd p0 p1 x0 _ _ (Lib.hid rfl) (Lib.hid rfl) hmk hlen
  by_cases h12 : kind = 1 ∨ kind = 2
  · by_cases hka : (S.mr[a]?.getD ⟨0, -1⟩).k < 0
    · rcases h12 with rfl | rfl
      · exact step_1n hY hI a b ha hb i n wd p0 p1 _ _ (Lib.hid rfl) (Lib.hid rfl) hka
      · exact step_2n hY hI a b ha hb i n wd p0 p1 _ _ (Lib.hid rfl) (Lib.hid rfl) hka
    by_cases hi : i < 0
    · rcases h12 with rfl | rfl
      · exact step_1i hY hI a b ha hb i n wd p0 p1 _ _ (Lib.hid rfl) (Lib.hid rfl) (by omega) hi
      · exact step_2i hY hI a b ha hb i n wd p0 p1 _ _ (Lib.hid rfl) (Lib.hid rfl) (by omega) hi
    obtain ⟨q, rfl⟩ : ∃ q : Nat, i = q := ⟨i.toNat, by omega⟩
    obtain ⟨p, hp⟩ : ∃ p : Nat, (p : Int) = (S.mr[a]?.getD ⟨0, -1⟩).k := ⟨(S.mr[a]?.getD ⟨0, -1⟩).k.toNat, by omega⟩
    obtain ⟨o, y, pn, _, hx, _⟩ := hI.rootObj ha hp
    have one : ∀ {P : Mo → Prop}, P y → ∀ z, S.objs[p]? = some z → P z := fun h z hz => by rw [hx] at hz; injection hz with hz; exact hz ▸ h
    by_cases hq : y.fs.length ≤ q
    · rcases h12 with rfl | rfl
      · exact step_1l hY hI a b ha hb q n wd p0 p1 _ p (Lib.hid hp) (Lib.hid rfl) (one hq)
      · exact step_2l hY hI a b ha hb q n wd p0 p1 _ p (Lib.hid hp) (Lib.hid rfl) (one hq)
    have hq2 : q < y.fs.length := by omega
    rcases h12 with rfl | rfl
    · by_cases h16 : y.kind < 16
      · by_cases hst : y.kind = 15 ∧ q = 1
        · exact step_1rs hY hI a b ha hb q n wd p0 p1 _ p (Lib.hid hp) (Lib.hid rfl) HWD (one (P := fun z => q < z.fs.length) hq2) (one (P := fun z => z.kind < 16) h16) (one (P := fun z => z.kind = 15) hst.1) hst.2
        · exact step_1ry hY hI a b ha hb q n wd p0 p1 _ p (Lib.hid hp) (Lib.hid rfl) HWD (one (P := fun z => q < z.fs.length) hq2) (one (P := fun z => z.kind < 16) h16) (one (P := fun z => ¬ (z.kind = 15 ∧ q = 1)) hst)
      · exact step_1oy hY hI a b ha hb q n wd p0 p1 _ p (Lib.hid hp) (Lib.hid rfl) HWD (one (P := fun z => q < z.fs.length) hq2) (one (P := fun z => 16 ≤ z.kind) (by omega)) (one (P := fun z => ¬ (z.kind = 15 ∧ q = 1)) (by omega))
    · by_cases hst : y.kind = 15 ∧ q = 1
      · exact step_2os hY hI a b ha hb q n wd p0 p1 _ p (Lib.hid hp) (Lib.hid rfl) HWD (one (P := fun z => q < z.fs.length) hq2) (one (P := fun z => z.kind = 15) hst.1) hst.2
      · exact step_2oy hY hI a b ha hb q n wd p0 p1 _ p (Lib.hid hp) (Lib.hid rfl) HWD (one (P := fun z => q < z.fs.length) hq2) (one (P := fun z => ¬ (z.kind = 15 ∧ q = 1)) hst)
  by_cases h3 : kind = 3
  · subst h3
    by_cases hkb : (S.mr[b]?.getD ⟨0, -1⟩).k < 0
    · exact step_3n hY hI a b ha hb i n wd p0 p1 _ _ (Lib.hid rfl) (Lib.hid rfl) hkb
    by_cases hi : i < 0
    · exact step_3i hY hI a b ha hb i n wd p0 p1 _ _ (Lib.hid rfl) (Lib.hid rfl) (by omega) hi
    obtain ⟨q, rfl⟩ : ∃ q : Nat, i = q := ⟨i.toNat, by omega⟩
    obtain ⟨p, hp⟩ : ∃ p : Nat, (p : Int) = (S.mr[b]?.getD ⟨0, -1⟩).k := ⟨(S.mr[b]?.getD ⟨0, -1⟩).k.toNat, by omega⟩
    obtain ⟨o, y, pn, hD, hx, _, hob, _⟩ := hI.rootObj hb hp
    have hcnt := hI.cnt hD hx hob
    have one : ∀ z, S.objs[p]? = some z → cntM z.kind z.fs = (cntO o : Int) := fun z hz => by rw [hx] at hz; injection hz with hz; exact hz ▸ hcnt
    by_cases hq : cntO o ≤ q
    · exact step_3c hY hI a b ha hb q n wd p0 p1 _ p (cntO o) (Lib.hid rfl) (Lib.hid hp) one hq
    · exact step_3y hY hI a b ha hb q n wd p0 p1 _ p (cntO o) (Lib.hid rfl) (Lib.hid hp) one (by omega)
  by_cases h4 : kind = 4
  · subst h4
    exact step_4 hY hI a b ha hb i n wd p0 p1 _ _ (Lib.hid rfl) (Lib.hid rfl)
  by_cases h5 : kind = 5
  · subst h5
    exact step_5 hY hI a b ha hb i n wd p0 p1 _ _ (Lib.hid rfl) (Lib.hid rfl)
  by_cases h67 : kind = 6 ∨ kind = 7
  · by_cases hka : (S.mr[a]?.getD ⟨0, -1⟩).k < 0
    · rcases h67 with rfl | rfl
      · exact step_6n hY hI a b ha hb i n wd p0 p1 _ _ (Lib.hid rfl) (Lib.hid rfl) hka
      · exact step_7n hY hI a b ha hb i n wd p0 p1 _ _ (Lib.hid rfl) (Lib.hid rfl) hka
    obtain ⟨p, hp⟩ : ∃ p : Nat, (p : Int) = (S.mr[a]?.getD ⟨0, -1⟩).k := ⟨(S.mr[a]?.getD ⟨0, -1⟩).k.toNat, by omega⟩
    obtain ⟨o, y, pn, _, _, hpp, _⟩ := hI.rootObj ha hp
    rcases h67 with rfl | rfl
    · by_cases hc : 0 ≤ pn + 1 ∧ pn + 1 ≤ 7
      · exact step_6y hY hI a b ha hb i n wd p0 p1 _ p (Lib.hid hp) (Lib.hid rfl) pn hpp hc.1 hc.2
      · exact step_6f hY hI a b ha hb i n wd p0 p1 _ p (Lib.hid hp) (Lib.hid rfl) (fun q hq => by rw [hpp] at hq; injection hq with hq; exact hq ▸ hc)
    · by_cases hc : 0 ≤ pn + -1 ∧ pn + -1 ≤ 7
      · exact step_7y hY hI a b ha hb i n wd p0 p1 _ p (Lib.hid hp) (Lib.hid rfl) pn hpp hc.1 hc.2
      · exact step_7f hY hI a b ha hb i n wd p0 p1 _ p (Lib.hid hp) (Lib.hid rfl) (fun q hq => by rw [hpp] at hq; injection hq with hq; exact hq ▸ hc)
  by_cases hn : kind < 0
  · exact step_no0 hY hI a b ha hb kind i n wd p0 p1 hn
  · exact step_no8 hY hI a b ha hb kind i n wd p0 p1 (by omega)
end Go.Proofs.Ytjgndfhfiekomaa
