/- The document's arena: New. -/
import Derived.Test.YtjgndfhfiekomaaHrH
import Derived.Test.YtjgndfhfiekomaaHrZ
import Derived.Test.YtjgndfhfiekomaaRowsV
set_option linter.all false
namespace Go.Proofs.Ytjgndfhfiekomaa
open Go.ChangeShapes Go.WideShapes Go.RowKit
variable {B0 : Nat} {w w' : World} {m : Nat}
theorem wpList_zeros {ops : Array Oper} {rest : List Oper} {o : Oper} {a : Act} {Q : Exit → Act → World → Prop} (w : World) (hgd : o.guard = none) (s x : Operand) (t tn : TypeId)
    (ho : o.op = .call { callee := .builtin .append, args := #[s, x], argTypes := #[t, tn] })
    (base : Nat) (e : TypeId) (i : TypeInfo) (z : Value) (bytes : Nat) (kn : IntKind) (ht : Try.prog.underlying t = some (.slice e)) (htn : Try.prog.underlying tn = some (.int kn)) (hi : Try.prog.info? e = some i) (hz : i.zero = some z)
    (hsize : i.size = 1) (hby : i.bytes = bytes) (hzc : z.cells = #[z]) (h1z : z.oneCell' = true) (v : Value) (n : Nat) (xs : List Value) (hs : a.eval s = v) (hown : w.ownsRow base e 1 v n xs) (k : Nat) (hx : a.eval x = .int .i64 (k : Int)) (h0 : 0 < k) (h63 : n + k ≤ 1000000000) (hbytes : (n + k) * bytes ≤ 140737488355328) (hbase : base ≤ w.heap.size)
    (h : ∀ v' w', w'.ownsRow base e 1 v' (n + k) (xs ++ List.replicate k z) → Fr v.ownBlock.toList w w' → (v'.ownBlock = v.ownBlock ∨ v'.ownBlock = some w.heap.size) → wpList Try.prog ops Q rest (a.put o.dst v') w') : wpList Try.prog ops Q (o :: rest) a w := by
  obtain ⟨v', w', hr, h2, h3, h4⟩ := run_zeros_own (P := Try.prog) w base t tn o.type e i z bytes kn ht htn hi hz hsize hby hzc h1z v n xs hown k h0 h63 hbytes hbase
  exact Go.Lib.wpList_append_run w hgd s x t tn ho v (.int .i64 (k : Int)) hs hx v' w' hr (h v' w' h2 h3 h4)
theorem info_word14 : (Try.prog.info? 37).map (fun i => (i.zero, i.size, i.bytes)) = some (some (.int .u64 0), 1, 8) := by kernel_rfl
/-- One of the three rows is longer. -/
theorem RVs.longer {B : Nat} {rs : List RV} {i k : Nat} {r : RV} {v' : Value} {z' : List Value} (h : RVs w B rs) (hr : rs[i]? = some r) (hF : Fr r.v.ownBlock.toList w w') (ho : w'.ownsRow B r.t r.z v' k z') (hat : v'.ownBlock = r.v.ownBlock ∨ v'.ownBlock = some w.heap.size) : RVs w' B (rs.set i ⟨r.t, r.z, v', k, z'⟩) :=
  h.grow hr hF (fun x hx => .inl (by simpa using hx)) ho (hat.imp id (fun he x hx => by rw [he] at hx; simp only [Option.some.injEq] at hx; omega))
/-- What New gives. -/
def NewR (m : Nat) (w : World) (e : Ending) (w' : World) : Prop :=
  ∃ (wa : Option Addr) (wn wk : Nat) (ma : Option Addr) (mn mc tb tc : Nat), e = .returned (.agg #[.slice wa wn wk, .slice (some ⟨tb, 0, none⟩) (m * 16) tc, .slice ma mn mc, .int .i64 (((Ar.new m).sf : Int)), .int .i64 (((Ar.new m).st : Int)), .int .i64 (((Ar.new m).gf : Int)), .int .i64 (((Ar.new m).gt : Int)), .int .i64 (((Ar.new m).cf : Int)), .int .i64 (((Ar.new m).ct : Int)), .int .i64 ((((Ar.new m).next : Int) * 16))]) ∧ BsAt w.heap.size w' tb tc (tks (Ar.new m).lines) ∧ Fr [] w w'
set_option maxRecDepth 100000 in
set_option maxHeartbeats 2000000 in
theorem rnew14_c (w : World) (n : Int) (hn : n ≤ 6) (hn0 : -9223372036854775808 ≤ n) (m : Nat) (hm : m = blocksOf n) : Calls Try.prog 66 #[.int .i64 n] w (NewR m w) := by
  have hm2 : 1 ≤ m ∧ m ≤ 6 ∧ (n ≤ 1 → m = 1) ∧ (1 < n → (m : Int) = n) := by
    rw [hm]; unfold blocksOf
    split
    · omega
    · rw [if_neg (by omega)]; omega
  obtain ⟨W1, hW1⟩ : ∃ W1, W1 = (w.alloc (.cells #[.slice none 0 0, .slice none 0 0, .slice none 0 0, .int .i64 0, .int .i64 0, .int .i64 0, .int .i64 0, .int .i64 0, .int .i64 0, .int .i64 0] 31)).alloc (.cells #[.slice none 0 0, .slice none 0 0, .slice none 0 0, .int .i64 0, .int .i64 0, .int .i64 0, .int .i64 0, .int .i64 0, .int .i64 0, .int .i64 0] 31) := ⟨_, rfl⟩
  have P1 := Lib.hid (show blk W1 (w.heap.size + 1) = some (.cells #[.slice none 0 0, .slice none 0 0, .slice none 0 0, .int .i64 0, .int .i64 0, .int .i64 0, .int .i64 0, .int .i64 0, .int .i64 0, .int .i64 0] 31 (0, 0)) by rw [hW1, blk_alloc, if_pos (by rw [size_alloc])])
  have R1 := Lib.hid (show blk W1 w.heap.size = some (.cells #[.slice none 0 0, .slice none 0 0, .slice none 0 0, .int .i64 0, .int .i64 0, .int .i64 0, .int .i64 0, .int .i64 0, .int .i64 0, .int .i64 0] 31 (0, 0)) by rw [hW1, blk_alloc, if_neg (by rw [size_alloc]; omega), blk_alloc, if_pos rfl])
  have F1 : Hid (Fr [] w W1) := Lib.hid (by rw [hW1]; exact ((Fr.refl _ _).alloc _).alloc _)
  have S1 : Hid (W1.heap.size = w.heap.size + 1 + 1) := Lib.hid (by rw [hW1, size_alloc, size_alloc])
  obtain ⟨i0, hi, hz0, hz1, hz2⟩ := info_parts info_word14
  have II := Lib.hid hi
  have Z0 := Lib.hid hz0
  have Z1 := Lib.hid hz1
  have Z2 := Lib.hid hz2
  obtain ⟨j0, hj, hy0, hy1, hy2⟩ := info_parts info_bool14
  have JJ := Lib.hid hj
  have Y0 := Lib.hid hy0
  have Y1 := Lib.hid hy1
  have Y2 := Lib.hid hy2
  have HM := Lib.hid hm2
  clear hi hz0 hz1 hz2 hj hy0 hy1 hy2 hm
  go_enter Try.func66, Try.ntmps66
  go_upto_region 3 with fail
  rw [← hW1]
  clear hW1
  obtain ⟨pr, hpr⟩ : ∃ pr, pr = w.heap.size := ⟨_, rfl⟩
  have HPR := Lib.hid hpr
  rw [← hpr] at P1 R1 S1 ⊢
  have V1 : Hid (RVs W1 (pr + 1 + 1) [⟨37, 1, .slice none 0 0, 0, List.replicate 0 (.int .u64 0)⟩, ⟨4, 1, .slice none 0 0, 0, List.replicate 0 (.bool false)⟩, ⟨4, 1, .slice none 0 0, 0, List.replicate 0 (.bool false)⟩]) := Lib.hid ⟨fun r hr => by
    simp only [List.mem_cons, List.not_mem_nil, or_false] at hr
    rcases hr with rfl | rfl | rfl <;> exact World.ownsRow_nil _ _ _ _, fun i j r s x hij hr hs hx => by
    have : r.v = .slice none 0 0 := by
      have := List.mem_of_getElem? hr
      simp only [List.mem_cons, List.not_mem_nil, or_false] at this
      rcases this with rfl | rfl | rfl <;> rfl
    rw [this] at hx
    simp [Value.ownBlock] at hx⟩
  clear hpr
  go_wp2_with fail
  go_loopw [4] (fun u wr => ∃ (k : Nat) (a0 a1 a2 : Option Addr) (c0 c1 c2 : Nat), k ≤ m ∧ u = .int .i64 (k : Int) ∧ Hid (RVs wr (pr + 1 + 1) [⟨37, 1, .slice a0 (k * 256) c0, (k * 256), List.replicate (k * 256) (.int .u64 0)⟩, ⟨4, 1, .slice a1 (k * 16) c1, (k * 16), List.replicate (k * 16) (.bool false)⟩, ⟨4, 1, .slice a2 (k * 16) c2, (k * 16), List.replicate (k * 16) (.bool false)⟩]) ∧ Hid (blk wr (pr + 1) = some (.cells #[.slice a0 (k * 256) c0, .slice a1 (k * 16) c1, .slice a2 (k * 16) c2, .int .i64 0, .int .i64 0, .int .i64 0, .int .i64 0, .int .i64 0, .int .i64 0, .int .i64 0] 31 (0, 0))) ∧ Hid (blk wr pr = some (.cells #[.slice none 0 0, .slice none 0 0, .slice none 0 0, .int .i64 0, .int .i64 0, .int .i64 0, .int .i64 0, .int .i64 0, .int .i64 0, .int .i64 0] 31 (0, 0))) ∧ Hid (Fr [] w wr)) (fun u _ => m - (intOf u).toNat)
  case atStart => exact ⟨0, none, none, none, 0, 0, 0, by omega, by go_num, V1, P1, R1, F1⟩
  case round =>
    obtain ⟨k, a0, a1, a2, c0, c1, c2, hk, rfl, V, P, R, F⟩ := hrel
    clear V1 P1 R1 F1
    by_cases hlt : k < m
    · have hkm := HM.out
      have hk5 : k ≤ 5 := by omega
      by_cases hkn : (k : Int) < n
      · have O0 := Lib.hid (show wr.ownsRow (pr + 1 + 1) 37 1 (.slice a0 (k * 256) c0) (k * 256) (List.replicate (k * 256) (Value.int .u64 0)) from V.out.at (i := 0) rfl)
        have hsz0 : pr + 1 + 1 ≤ wr.heap.size := by have := lt_size P.out; omega
        have p0 := cell_of P.out (i := 0) rfl
        have p1 := cell_of P.out (i := 1) rfl
        have p2 := cell_of P.out (i := 2) rfl
        go_upto_region 6 with (at_builtin; refine wpList_zeros _ rfl _ _ _ _ rfl (pr + 1 + 1) 37 i0 (.int .u64 0) 8 .i64 Try.underlying26 Try.underlying3 II.out Z0.out Z1.out Z2.out rfl rfl (.slice a0 (k * 256) c0) (k * 256) _ rfl O0.out 256 rfl (by omega) (by omega) (by omega) hsz0 ?_; intro v0 w0' own0 fr0 at0; obtain ⟨a0', c0', hv0, _⟩ := RV.ok.form (r := ⟨37, 1, v0, k * 256 + 256, List.replicate (k * 256) (Value.int .u64 0) ++ List.replicate 256 (Value.int .u64 0)⟩) own0; simp only at hv0; subst hv0; rw [List.replicate_append_replicate, show k * 256 + 256 = (k + 1) * 256 by omega] at own0; rw [show k * 256 + 256 = (k + 1) * 256 by omega] at at0 ⊢; have VX := Lib.hid (show RVs w0' (pr + 1 + 1) [⟨37, 1, .slice a0' ((k + 1) * 256) c0', (k + 1) * 256, List.replicate ((k + 1) * 256) (.int .u64 0)⟩, ⟨4, 1, .slice a1 (k * 16) c1, k * 16, List.replicate (k * 16) (.bool false)⟩, ⟨4, 1, .slice a2 (k * 16) c2, k * 16, List.replicate (k * 16) (.bool false)⟩] from RVs.longer V.out (i := 0) rfl fr0 own0 at0); have hnb : ∀ x, x ≤ pr + 1 → x ∉ (Value.slice a0 (k * 256) c0).ownBlock.toList := fun x hx hm => (by have := (own_lt' O0.out x (by simpa using hm)).1; omega); have PX := Lib.hid (fr0.at P.out (hnb _ (Nat.le_refl _))); have RX := Lib.hid (fr0.at R.out (hnb _ (by omega))); have FX := Lib.hid (F.out.trans fr0 (fun x hx => .inr (by have := (own_lt' O0.out x (by simpa using hx)).1; have := HPR.out; omega))); have xf := free_of PX.out (i := 0); have xc := cell_of PX.out (i := 0) rfl; clear own0 fr0 at0 hnb O0 p0 p1 p2)
        obtain ⟨W1, hW1⟩ : ∃ W1, W1 = w0'.setCell ⟨pr + 1, 0, none⟩ (.slice a0' ((k + 1) * 256) c0') := ⟨_, rfl⟩
        rw [← hW1]
        have P1 := Lib.hid (show blk W1 (pr + 1) = some (.cells #[.slice a0' ((k + 1) * 256) c0', .slice a1 (k * 16) c1, .slice a2 (k * 16) c2, .int .i64 0, .int .i64 0, .int .i64 0, .int .i64 0, .int .i64 0, .int .i64 0, .int .i64 0] 31 (0, 0)) by rw [hW1, blk_set, if_pos rfl, PX.out]; rfl)
        have R1 := Lib.hid (show blk W1 pr = some (.cells #[.slice none 0 0, .slice none 0 0, .slice none 0 0, .int .i64 0, .int .i64 0, .int .i64 0, .int .i64 0, .int .i64 0, .int .i64 0, .int .i64 0] 31 (0, 0)) by rw [hW1, blk_set, if_neg (by omega)]; exact RX.out)
        have V1 := Lib.hid (show RVs W1 (pr + 1 + 1) [⟨37, 1, .slice a0' ((k + 1) * 256) c0', (k + 1) * 256, List.replicate ((k + 1) * 256) (.int .u64 0)⟩, ⟨4, 1, .slice a1 (k * 16) c1, k * 16, List.replicate (k * 16) (.bool false)⟩, ⟨4, 1, .slice a2 (k * 16) c2, k * 16, List.replicate (k * 16) (.bool false)⟩] by rw [hW1]; exact VX.out.low ((Fr.refl [pr + 1] _).setCell (.inl (by simp)) _) (by simp))
        have F1 := Lib.hid (show Fr [] w W1 by rw [hW1]; exact FX.out.setCell (.inr (by have := HPR.out; omega)) _)
        clear hW1 PX RX VX FX xf xc hsz0
        have O1 := Lib.hid (show W1.ownsRow (pr + 1 + 1) 4 1 (.slice a1 (k * 16) c1) (k * 16) (List.replicate (k * 16) (Value.bool false)) from V1.out.at (i := 1) rfl)
        have hsz1 : pr + 1 + 1 ≤ W1.heap.size := by have := lt_size P1.out; omega
        have p0 := cell_of P1.out (i := 0) rfl
        have p1 := cell_of P1.out (i := 1) rfl
        have p2 := cell_of P1.out (i := 2) rfl
        go_upto_region 7 with (at_builtin; refine wpList_zeros _ rfl _ _ _ _ rfl (pr + 1 + 1) 4 j0 (.bool false) 1 .i64 Try.underlying27 Try.underlying3 JJ.out Y0.out Y1.out Y2.out rfl rfl (.slice a1 (k * 16) c1) (k * 16) _ rfl O1.out 16 rfl (by omega) (by omega) (by omega) hsz1 ?_; intro v1 w1' own1 fr1 at1; obtain ⟨a1', c1', hv1, _⟩ := RV.ok.form (r := ⟨4, 1, v1, k * 16 + 16, List.replicate (k * 16) (Value.bool false) ++ List.replicate 16 (Value.bool false)⟩) own1; simp only at hv1; subst hv1; rw [List.replicate_append_replicate, show k * 16 + 16 = (k + 1) * 16 by omega] at own1; rw [show k * 16 + 16 = (k + 1) * 16 by omega] at at1 ⊢; have VX := Lib.hid (show RVs w1' (pr + 1 + 1) [⟨37, 1, .slice a0' ((k + 1) * 256) c0', (k + 1) * 256, List.replicate ((k + 1) * 256) (.int .u64 0)⟩, ⟨4, 1, .slice a1' ((k + 1) * 16) c1', (k + 1) * 16, List.replicate ((k + 1) * 16) (.bool false)⟩, ⟨4, 1, .slice a2 (k * 16) c2, k * 16, List.replicate (k * 16) (.bool false)⟩] from RVs.longer V1.out (i := 1) rfl fr1 own1 at1); have hnb : ∀ x, x ≤ pr + 1 → x ∉ (Value.slice a1 (k * 16) c1).ownBlock.toList := fun x hx hm => (by have := (own_lt' O1.out x (by simpa using hm)).1; omega); have PX := Lib.hid (fr1.at P1.out (hnb _ (Nat.le_refl _))); have RX := Lib.hid (fr1.at R1.out (hnb _ (by omega))); have FX := Lib.hid (F1.out.trans fr1 (fun x hx => .inr (by have := (own_lt' O1.out x (by simpa using hx)).1; have := HPR.out; omega))); have xf := free_of PX.out (i := 1); have xc := cell_of PX.out (i := 1) rfl; clear own1 fr1 at1 hnb O1 p0 p1 p2)
        obtain ⟨W2, hW2⟩ : ∃ W2, W2 = w1'.setCell ⟨pr + 1, 1, none⟩ (.slice a1' ((k + 1) * 16) c1') := ⟨_, rfl⟩
        rw [← hW2]
        have P2 := Lib.hid (show blk W2 (pr + 1) = some (.cells #[.slice a0' ((k + 1) * 256) c0', .slice a1' ((k + 1) * 16) c1', .slice a2 (k * 16) c2, .int .i64 0, .int .i64 0, .int .i64 0, .int .i64 0, .int .i64 0, .int .i64 0, .int .i64 0] 31 (0, 0)) by rw [hW2, blk_set, if_pos rfl, PX.out]; rfl)
        have R2 := Lib.hid (show blk W2 pr = some (.cells #[.slice none 0 0, .slice none 0 0, .slice none 0 0, .int .i64 0, .int .i64 0, .int .i64 0, .int .i64 0, .int .i64 0, .int .i64 0, .int .i64 0] 31 (0, 0)) by rw [hW2, blk_set, if_neg (by omega)]; exact RX.out)
        have V2 := Lib.hid (show RVs W2 (pr + 1 + 1) [⟨37, 1, .slice a0' ((k + 1) * 256) c0', (k + 1) * 256, List.replicate ((k + 1) * 256) (.int .u64 0)⟩, ⟨4, 1, .slice a1' ((k + 1) * 16) c1', (k + 1) * 16, List.replicate ((k + 1) * 16) (.bool false)⟩, ⟨4, 1, .slice a2 (k * 16) c2, k * 16, List.replicate (k * 16) (.bool false)⟩] by rw [hW2]; exact VX.out.low ((Fr.refl [pr + 1] _).setCell (.inl (by simp)) _) (by simp))
        have F2 := Lib.hid (show Fr [] w W2 by rw [hW2]; exact FX.out.setCell (.inr (by have := HPR.out; omega)) _)
        clear hW2 PX RX VX FX xf xc hsz1
        have O2 := Lib.hid (show W2.ownsRow (pr + 1 + 1) 4 1 (.slice a2 (k * 16) c2) (k * 16) (List.replicate (k * 16) (Value.bool false)) from V2.out.at (i := 2) rfl)
        have hsz2 : pr + 1 + 1 ≤ W2.heap.size := by have := lt_size P2.out; omega
        have p0 := cell_of P2.out (i := 0) rfl
        have p1 := cell_of P2.out (i := 1) rfl
        have p2 := cell_of P2.out (i := 2) rfl
        go_upto_region 4 with (at_builtin; refine wpList_zeros _ rfl _ _ _ _ rfl (pr + 1 + 1) 4 j0 (.bool false) 1 .i64 Try.underlying27 Try.underlying3 JJ.out Y0.out Y1.out Y2.out rfl rfl (.slice a2 (k * 16) c2) (k * 16) _ rfl O2.out 16 rfl (by omega) (by omega) (by omega) hsz2 ?_; intro v2 w2' own2 fr2 at2; obtain ⟨a2', c2', hv2, _⟩ := RV.ok.form (r := ⟨4, 1, v2, k * 16 + 16, List.replicate (k * 16) (Value.bool false) ++ List.replicate 16 (Value.bool false)⟩) own2; simp only at hv2; subst hv2; rw [List.replicate_append_replicate, show k * 16 + 16 = (k + 1) * 16 by omega] at own2; rw [show k * 16 + 16 = (k + 1) * 16 by omega] at at2 ⊢; have VX := Lib.hid (show RVs w2' (pr + 1 + 1) [⟨37, 1, .slice a0' ((k + 1) * 256) c0', (k + 1) * 256, List.replicate ((k + 1) * 256) (.int .u64 0)⟩, ⟨4, 1, .slice a1' ((k + 1) * 16) c1', (k + 1) * 16, List.replicate ((k + 1) * 16) (.bool false)⟩, ⟨4, 1, .slice a2' ((k + 1) * 16) c2', (k + 1) * 16, List.replicate ((k + 1) * 16) (.bool false)⟩] from RVs.longer V2.out (i := 2) rfl fr2 own2 at2); have hnb : ∀ x, x ≤ pr + 1 → x ∉ (Value.slice a2 (k * 16) c2).ownBlock.toList := fun x hx hm => (by have := (own_lt' O2.out x (by simpa using hm)).1; omega); have PX := Lib.hid (fr2.at P2.out (hnb _ (Nat.le_refl _))); have RX := Lib.hid (fr2.at R2.out (hnb _ (by omega))); have FX := Lib.hid (F2.out.trans fr2 (fun x hx => .inr (by have := (own_lt' O2.out x (by simpa using hx)).1; have := HPR.out; omega))); have xf := free_of PX.out (i := 2); have xc := cell_of PX.out (i := 2) rfl; clear own2 fr2 at2 hnb O2 p0 p1 p2)
        obtain ⟨W3, hW3⟩ : ∃ W3, W3 = w2'.setCell ⟨pr + 1, 2, none⟩ (.slice a2' ((k + 1) * 16) c2') := ⟨_, rfl⟩
        rw [← hW3]
        have P3 := Lib.hid (show blk W3 (pr + 1) = some (.cells #[.slice a0' ((k + 1) * 256) c0', .slice a1' ((k + 1) * 16) c1', .slice a2' ((k + 1) * 16) c2', .int .i64 0, .int .i64 0, .int .i64 0, .int .i64 0, .int .i64 0, .int .i64 0, .int .i64 0] 31 (0, 0)) by rw [hW3, blk_set, if_pos rfl, PX.out]; rfl)
        have R3 := Lib.hid (show blk W3 pr = some (.cells #[.slice none 0 0, .slice none 0 0, .slice none 0 0, .int .i64 0, .int .i64 0, .int .i64 0, .int .i64 0, .int .i64 0, .int .i64 0, .int .i64 0] 31 (0, 0)) by rw [hW3, blk_set, if_neg (by omega)]; exact RX.out)
        have V3 := Lib.hid (show RVs W3 (pr + 1 + 1) [⟨37, 1, .slice a0' ((k + 1) * 256) c0', (k + 1) * 256, List.replicate ((k + 1) * 256) (.int .u64 0)⟩, ⟨4, 1, .slice a1' ((k + 1) * 16) c1', (k + 1) * 16, List.replicate ((k + 1) * 16) (.bool false)⟩, ⟨4, 1, .slice a2' ((k + 1) * 16) c2', (k + 1) * 16, List.replicate ((k + 1) * 16) (.bool false)⟩] by rw [hW3]; exact VX.out.low ((Fr.refl [pr + 1] _).setCell (.inl (by simp)) _) (by simp))
        have F3 := Lib.hid (show Fr [] w W3 by rw [hW3]; exact FX.out.setCell (.inr (by have := HPR.out; omega)) _)
        clear hW3 PX RX VX FX xf xc hsz2
        go_wp2
        go_roundw
        case rel => exact ⟨k + 1, a0', a1', a2', c0', c1', c2', by omega, by go_num, V3, P3, R3, F3⟩
        case measure => simp [intOf]; omega
      · have hk0 : (k : Int) = 0 := by omega
        have hkb : ((k : Int) == 0) = true := by simpa using hk0
        have HK0 := Lib.hid hk0
        clear hk0
        have O0 := Lib.hid (show wr.ownsRow (pr + 1 + 1) 37 1 (.slice a0 (k * 256) c0) (k * 256) (List.replicate (k * 256) (Value.int .u64 0)) from V.out.at (i := 0) rfl)
        have hsz0 : pr + 1 + 1 ≤ wr.heap.size := by have := lt_size P.out; omega
        have p0 := cell_of P.out (i := 0) rfl
        have p1 := cell_of P.out (i := 1) rfl
        have p2 := cell_of P.out (i := 2) rfl
        go_upto_region 6 with (at_builtin; refine wpList_zeros _ rfl _ _ _ _ rfl (pr + 1 + 1) 37 i0 (.int .u64 0) 8 .i64 Try.underlying26 Try.underlying3 II.out Z0.out Z1.out Z2.out rfl rfl (.slice a0 (k * 256) c0) (k * 256) _ rfl O0.out 256 rfl (by omega) (by omega) (by omega) hsz0 ?_; intro v0 w0' own0 fr0 at0; obtain ⟨a0', c0', hv0, _⟩ := RV.ok.form (r := ⟨37, 1, v0, k * 256 + 256, List.replicate (k * 256) (Value.int .u64 0) ++ List.replicate 256 (Value.int .u64 0)⟩) own0; simp only at hv0; subst hv0; rw [List.replicate_append_replicate, show k * 256 + 256 = (k + 1) * 256 by omega] at own0; rw [show k * 256 + 256 = (k + 1) * 256 by omega] at at0 ⊢; have VX := Lib.hid (show RVs w0' (pr + 1 + 1) [⟨37, 1, .slice a0' ((k + 1) * 256) c0', (k + 1) * 256, List.replicate ((k + 1) * 256) (.int .u64 0)⟩, ⟨4, 1, .slice a1 (k * 16) c1, k * 16, List.replicate (k * 16) (.bool false)⟩, ⟨4, 1, .slice a2 (k * 16) c2, k * 16, List.replicate (k * 16) (.bool false)⟩] from RVs.longer V.out (i := 0) rfl fr0 own0 at0); have hnb : ∀ x, x ≤ pr + 1 → x ∉ (Value.slice a0 (k * 256) c0).ownBlock.toList := fun x hx hm => (by have := (own_lt' O0.out x (by simpa using hm)).1; omega); have PX := Lib.hid (fr0.at P.out (hnb _ (Nat.le_refl _))); have RX := Lib.hid (fr0.at R.out (hnb _ (by omega))); have FX := Lib.hid (F.out.trans fr0 (fun x hx => .inr (by have := (own_lt' O0.out x (by simpa using hx)).1; have := HPR.out; omega))); have xf := free_of PX.out (i := 0); have xc := cell_of PX.out (i := 0) rfl; clear own0 fr0 at0 hnb O0 p0 p1 p2)
        obtain ⟨W1, hW1⟩ : ∃ W1, W1 = w0'.setCell ⟨pr + 1, 0, none⟩ (.slice a0' ((k + 1) * 256) c0') := ⟨_, rfl⟩
        rw [← hW1]
        have P1 := Lib.hid (show blk W1 (pr + 1) = some (.cells #[.slice a0' ((k + 1) * 256) c0', .slice a1 (k * 16) c1, .slice a2 (k * 16) c2, .int .i64 0, .int .i64 0, .int .i64 0, .int .i64 0, .int .i64 0, .int .i64 0, .int .i64 0] 31 (0, 0)) by rw [hW1, blk_set, if_pos rfl, PX.out]; rfl)
        have R1 := Lib.hid (show blk W1 pr = some (.cells #[.slice none 0 0, .slice none 0 0, .slice none 0 0, .int .i64 0, .int .i64 0, .int .i64 0, .int .i64 0, .int .i64 0, .int .i64 0, .int .i64 0] 31 (0, 0)) by rw [hW1, blk_set, if_neg (by omega)]; exact RX.out)
        have V1 := Lib.hid (show RVs W1 (pr + 1 + 1) [⟨37, 1, .slice a0' ((k + 1) * 256) c0', (k + 1) * 256, List.replicate ((k + 1) * 256) (.int .u64 0)⟩, ⟨4, 1, .slice a1 (k * 16) c1, k * 16, List.replicate (k * 16) (.bool false)⟩, ⟨4, 1, .slice a2 (k * 16) c2, k * 16, List.replicate (k * 16) (.bool false)⟩] by rw [hW1]; exact VX.out.low ((Fr.refl [pr + 1] _).setCell (.inl (by simp)) _) (by simp))
        have F1 := Lib.hid (show Fr [] w W1 by rw [hW1]; exact FX.out.setCell (.inr (by have := HPR.out; omega)) _)
        clear hW1 PX RX VX FX xf xc hsz0
        have O1 := Lib.hid (show W1.ownsRow (pr + 1 + 1) 4 1 (.slice a1 (k * 16) c1) (k * 16) (List.replicate (k * 16) (Value.bool false)) from V1.out.at (i := 1) rfl)
        have hsz1 : pr + 1 + 1 ≤ W1.heap.size := by have := lt_size P1.out; omega
        have p0 := cell_of P1.out (i := 0) rfl
        have p1 := cell_of P1.out (i := 1) rfl
        have p2 := cell_of P1.out (i := 2) rfl
        go_upto_region 7 with (at_builtin; refine wpList_zeros _ rfl _ _ _ _ rfl (pr + 1 + 1) 4 j0 (.bool false) 1 .i64 Try.underlying27 Try.underlying3 JJ.out Y0.out Y1.out Y2.out rfl rfl (.slice a1 (k * 16) c1) (k * 16) _ rfl O1.out 16 rfl (by omega) (by omega) (by omega) hsz1 ?_; intro v1 w1' own1 fr1 at1; obtain ⟨a1', c1', hv1, _⟩ := RV.ok.form (r := ⟨4, 1, v1, k * 16 + 16, List.replicate (k * 16) (Value.bool false) ++ List.replicate 16 (Value.bool false)⟩) own1; simp only at hv1; subst hv1; rw [List.replicate_append_replicate, show k * 16 + 16 = (k + 1) * 16 by omega] at own1; rw [show k * 16 + 16 = (k + 1) * 16 by omega] at at1 ⊢; have VX := Lib.hid (show RVs w1' (pr + 1 + 1) [⟨37, 1, .slice a0' ((k + 1) * 256) c0', (k + 1) * 256, List.replicate ((k + 1) * 256) (.int .u64 0)⟩, ⟨4, 1, .slice a1' ((k + 1) * 16) c1', (k + 1) * 16, List.replicate ((k + 1) * 16) (.bool false)⟩, ⟨4, 1, .slice a2 (k * 16) c2, k * 16, List.replicate (k * 16) (.bool false)⟩] from RVs.longer V1.out (i := 1) rfl fr1 own1 at1); have hnb : ∀ x, x ≤ pr + 1 → x ∉ (Value.slice a1 (k * 16) c1).ownBlock.toList := fun x hx hm => (by have := (own_lt' O1.out x (by simpa using hm)).1; omega); have PX := Lib.hid (fr1.at P1.out (hnb _ (Nat.le_refl _))); have RX := Lib.hid (fr1.at R1.out (hnb _ (by omega))); have FX := Lib.hid (F1.out.trans fr1 (fun x hx => .inr (by have := (own_lt' O1.out x (by simpa using hx)).1; have := HPR.out; omega))); have xf := free_of PX.out (i := 1); have xc := cell_of PX.out (i := 1) rfl; clear own1 fr1 at1 hnb O1 p0 p1 p2)
        obtain ⟨W2, hW2⟩ : ∃ W2, W2 = w1'.setCell ⟨pr + 1, 1, none⟩ (.slice a1' ((k + 1) * 16) c1') := ⟨_, rfl⟩
        rw [← hW2]
        have P2 := Lib.hid (show blk W2 (pr + 1) = some (.cells #[.slice a0' ((k + 1) * 256) c0', .slice a1' ((k + 1) * 16) c1', .slice a2 (k * 16) c2, .int .i64 0, .int .i64 0, .int .i64 0, .int .i64 0, .int .i64 0, .int .i64 0, .int .i64 0] 31 (0, 0)) by rw [hW2, blk_set, if_pos rfl, PX.out]; rfl)
        have R2 := Lib.hid (show blk W2 pr = some (.cells #[.slice none 0 0, .slice none 0 0, .slice none 0 0, .int .i64 0, .int .i64 0, .int .i64 0, .int .i64 0, .int .i64 0, .int .i64 0, .int .i64 0] 31 (0, 0)) by rw [hW2, blk_set, if_neg (by omega)]; exact RX.out)
        have V2 := Lib.hid (show RVs W2 (pr + 1 + 1) [⟨37, 1, .slice a0' ((k + 1) * 256) c0', (k + 1) * 256, List.replicate ((k + 1) * 256) (.int .u64 0)⟩, ⟨4, 1, .slice a1' ((k + 1) * 16) c1', (k + 1) * 16, List.replicate ((k + 1) * 16) (.bool false)⟩, ⟨4, 1, .slice a2 (k * 16) c2, k * 16, List.replicate (k * 16) (.bool false)⟩] by rw [hW2]; exact VX.out.low ((Fr.refl [pr + 1] _).setCell (.inl (by simp)) _) (by simp))
        have F2 := Lib.hid (show Fr [] w W2 by rw [hW2]; exact FX.out.setCell (.inr (by have := HPR.out; omega)) _)
        clear hW2 PX RX VX FX xf xc hsz1
        have O2 := Lib.hid (show W2.ownsRow (pr + 1 + 1) 4 1 (.slice a2 (k * 16) c2) (k * 16) (List.replicate (k * 16) (Value.bool false)) from V2.out.at (i := 2) rfl)
        have hsz2 : pr + 1 + 1 ≤ W2.heap.size := by have := lt_size P2.out; omega
        have p0 := cell_of P2.out (i := 0) rfl
        have p1 := cell_of P2.out (i := 1) rfl
        have p2 := cell_of P2.out (i := 2) rfl
        go_upto_region 4 with (at_builtin; refine wpList_zeros _ rfl _ _ _ _ rfl (pr + 1 + 1) 4 j0 (.bool false) 1 .i64 Try.underlying27 Try.underlying3 JJ.out Y0.out Y1.out Y2.out rfl rfl (.slice a2 (k * 16) c2) (k * 16) _ rfl O2.out 16 rfl (by omega) (by omega) (by omega) hsz2 ?_; intro v2 w2' own2 fr2 at2; obtain ⟨a2', c2', hv2, _⟩ := RV.ok.form (r := ⟨4, 1, v2, k * 16 + 16, List.replicate (k * 16) (Value.bool false) ++ List.replicate 16 (Value.bool false)⟩) own2; simp only at hv2; subst hv2; rw [List.replicate_append_replicate, show k * 16 + 16 = (k + 1) * 16 by omega] at own2; rw [show k * 16 + 16 = (k + 1) * 16 by omega] at at2 ⊢; have VX := Lib.hid (show RVs w2' (pr + 1 + 1) [⟨37, 1, .slice a0' ((k + 1) * 256) c0', (k + 1) * 256, List.replicate ((k + 1) * 256) (.int .u64 0)⟩, ⟨4, 1, .slice a1' ((k + 1) * 16) c1', (k + 1) * 16, List.replicate ((k + 1) * 16) (.bool false)⟩, ⟨4, 1, .slice a2' ((k + 1) * 16) c2', (k + 1) * 16, List.replicate ((k + 1) * 16) (.bool false)⟩] from RVs.longer V2.out (i := 2) rfl fr2 own2 at2); have hnb : ∀ x, x ≤ pr + 1 → x ∉ (Value.slice a2 (k * 16) c2).ownBlock.toList := fun x hx hm => (by have := (own_lt' O2.out x (by simpa using hm)).1; omega); have PX := Lib.hid (fr2.at P2.out (hnb _ (Nat.le_refl _))); have RX := Lib.hid (fr2.at R2.out (hnb _ (by omega))); have FX := Lib.hid (F2.out.trans fr2 (fun x hx => .inr (by have := (own_lt' O2.out x (by simpa using hx)).1; have := HPR.out; omega))); have xf := free_of PX.out (i := 2); have xc := cell_of PX.out (i := 2) rfl; clear own2 fr2 at2 hnb O2 p0 p1 p2)
        obtain ⟨W3, hW3⟩ : ∃ W3, W3 = w2'.setCell ⟨pr + 1, 2, none⟩ (.slice a2' ((k + 1) * 16) c2') := ⟨_, rfl⟩
        rw [← hW3]
        have P3 := Lib.hid (show blk W3 (pr + 1) = some (.cells #[.slice a0' ((k + 1) * 256) c0', .slice a1' ((k + 1) * 16) c1', .slice a2' ((k + 1) * 16) c2', .int .i64 0, .int .i64 0, .int .i64 0, .int .i64 0, .int .i64 0, .int .i64 0, .int .i64 0] 31 (0, 0)) by rw [hW3, blk_set, if_pos rfl, PX.out]; rfl)
        have R3 := Lib.hid (show blk W3 pr = some (.cells #[.slice none 0 0, .slice none 0 0, .slice none 0 0, .int .i64 0, .int .i64 0, .int .i64 0, .int .i64 0, .int .i64 0, .int .i64 0, .int .i64 0] 31 (0, 0)) by rw [hW3, blk_set, if_neg (by omega)]; exact RX.out)
        have V3 := Lib.hid (show RVs W3 (pr + 1 + 1) [⟨37, 1, .slice a0' ((k + 1) * 256) c0', (k + 1) * 256, List.replicate ((k + 1) * 256) (.int .u64 0)⟩, ⟨4, 1, .slice a1' ((k + 1) * 16) c1', (k + 1) * 16, List.replicate ((k + 1) * 16) (.bool false)⟩, ⟨4, 1, .slice a2' ((k + 1) * 16) c2', (k + 1) * 16, List.replicate ((k + 1) * 16) (.bool false)⟩] by rw [hW3]; exact VX.out.low ((Fr.refl [pr + 1] _).setCell (.inl (by simp)) _) (by simp))
        have F3 := Lib.hid (show Fr [] w W3 by rw [hW3]; exact FX.out.setCell (.inr (by have := HPR.out; omega)) _)
        clear hW3 PX RX VX FX xf xc hsz2
        go_wp2
        go_roundw
        case rel => exact ⟨k + 1, a0', a1', a2', c0', c1', c2', by omega, by go_num, V3, P3, R3, F3⟩
        case measure => simp [intOf]; omega
    · have hkM : k = m := by omega
      have hkm := HM.out
      have hk1 : ¬ (k : Int) < n := by omega
      have hk2 : ¬ (k : Int) = 0 := by omega
      have hkb : ((k : Int) == 0) = false := by simpa using hk2
      have hr1 : RV.ok wr (pr + 1 + 1) (RV.mk 4 1 (.slice a1 (k * 16) c1) (k * 16) (List.replicate (k * 16) (Value.bool false))) := V.out.at (i := 1) rfl
      obtain ⟨g, cp, hv, hcp, _, _, _, hgB, hgl, hcm⟩ := hr1.at (by simp only; omega)
      simp only [Value.slice.injEq, true_and] at hv
      obtain ⟨rfl, rfl⟩ := hv
      have BT : Hid (BsAt w.heap.size wr g c1 (tks (Ar.new m).lines)) := Lib.hid (by
        have e : tks (Ar.new m).lines = List.replicate (k * 16) false := by rw [hkM]; simp [tks, Ar.new, clear]
        rw [e]
        refine BsAt.of_own (B := pr + 1 + 1) ?_ (by have := HPR.out; have := hgB; omega)
        simp only [List.length_replicate, boolVals, List.map_replicate]
        exact hr1)
      have HKM := Lib.hid hkM
      have hlr := lt_size R.out
      have hlp := lt_size P.out
      clear hr1 V hkM HM II Z0 Z1 Z2 JJ Y0 Y1 Y2
      have p0 := cell_of P.out (i := 0) rfl
      have p1 := cell_of P.out (i := 1) rfl
      have p2 := cell_of P.out (i := 2) rfl
      have p3 := cell_of P.out (i := 3) rfl
      have p4 := cell_of P.out (i := 4) rfl
      have p5 := cell_of P.out (i := 5) rfl
      have p6 := cell_of P.out (i := 6) rfl
      have p7 := cell_of P.out (i := 7) rfl
      have p8 := cell_of P.out (i := 8) rfl
      have p9 := cell_of P.out (i := 9) rfl
      have pf0 := free_of P.out (i := 0)
      have pf1 := free_of P.out (i := 1)
      have pf2 := free_of P.out (i := 2)
      have pf3 := free_of P.out (i := 3)
      have pf4 := free_of P.out (i := 4)
      have pf5 := free_of P.out (i := 5)
      have pf6 := free_of P.out (i := 6)
      have pf7 := free_of P.out (i := 7)
      have pf8 := free_of P.out (i := 8)
      have pf9 := free_of P.out (i := 9)
      have r0 := cell_of R.out (i := 0) rfl
      have r1 := cell_of R.out (i := 1) rfl
      have r2 := cell_of R.out (i := 2) rfl
      have r3 := cell_of R.out (i := 3) rfl
      have r4 := cell_of R.out (i := 4) rfl
      have r5 := cell_of R.out (i := 5) rfl
      have r6 := cell_of R.out (i := 6) rfl
      have r7 := cell_of R.out (i := 7) rfl
      have r8 := cell_of R.out (i := 8) rfl
      have r9 := cell_of R.out (i := 9) rfl
      have rf0 := free_of R.out (i := 0)
      have rf1 := free_of R.out (i := 1)
      have rf2 := free_of R.out (i := 2)
      have rf3 := free_of R.out (i := 3)
      have rf4 := free_of R.out (i := 4)
      have rf5 := free_of R.out (i := 5)
      have rf6 := free_of R.out (i := 6)
      have rf7 := free_of R.out (i := 7)
      have rf8 := free_of R.out (i := 8)
      have rf9 := free_of R.out (i := 9)
      go_wp2
      refine bodyPost_ret (ret_st rfl _ _ _ _ rfl (blk10 R.out) rfl size_arena14 und_arena14) rfl ?_
      refine ⟨a0, k * 256, c0, a2, k * 16, c2, g, c1, by rw [← HKM.out]; rfl, BT.out.fr (fr10 (Fr.refl [pr] wr) (.inl (by simp))) (by simp; omega), fr10 F.out (.inr (by rw [HPR.out]; exact Nat.le_refl _))⟩
end Go.Proofs.Ytjgndfhfiekomaa
