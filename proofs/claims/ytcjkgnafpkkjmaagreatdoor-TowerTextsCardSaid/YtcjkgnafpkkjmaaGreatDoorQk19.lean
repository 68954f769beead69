/- The texts and numbers of numbers: a part of the walk. No condition. -/
import Derived.Test.YtcjkgnafpkkjmaaGreatDoorQk18
import Derived.Deep.CutRange
set_option linter.all false
namespace Go.Proofs.YtcjkgnafpkkjmaaGreatDoor
section
open Go.ChangeShapes Go.WideShapes Go.RowKit Go.Shelf Go.Lib
def rb (L : List Nat) : List Value := L.map fun (n : Nat) => Value.int .u8 (n : Int)
def ib (L : List Nat) : List Int := L.map fun (n : Nat) => (n : Int)
theorem rb_app (L M : List Nat) : rb (L ++ M) = rb L ++ rb M := List.map_append ..
theorem rb_one (L M : List Nat) : ∀ u ∈ rb L, u.oneCell' = true := by
  intro u hu
  obtain ⟨n, _, rfl⟩ := List.mem_map.1 hu
  rfl
theorem rb_len (L : List Nat) : (rb L).length = L.length := List.length_map ..
theorem wpB_new {ops : Array Oper} {rest : List Oper} {o : Oper} {a : Act} {Q : Exit → Act → World → Prop} (hgd : o.guard = none) (s x : Operand) (ho : o.op = .call { callee := .builtin .append, args := #[s, x], argTypes := #[123, 123] })
    {w0 wr : World} {g x0 cap n : Nat} {ds : List Int} {L : List Nat} (R : RowB w0 g ds wr x0 cap n (rb L)) (M : List Nat) (m : Nat) (news : Array Value) (hM : news = (rb M).toArray) (hs : a.eval s = .slice (some ⟨x0, 0, none⟩) n cap) (hx : a.eval x = .slice (some ⟨wr.heap.size, 0, none⟩) m m) (hl : M.length = m) (hm : 0 < m) (hb : n + m ≤ 1000)
    (h : ∀ x5 cap5 w5, RowB w0 g ds w5 x5 cap5 (n + m) (rb (L ++ M)) → wpList Tryz.prog ops Q rest (a.put o.dst (.slice (some ⟨x5, 0, none⟩) (n + m) cap5)) w5) : wpList Tryz.prog ops Q (o :: rest) a (wr.alloc (.cells news 5)) := by
  subst hM
  refine wpB_app hgd s x ho R m (n + m) (rb M) hs hx (by rw [rb_len, hl]) (rb_one M []) hm rfl hb ?_
  intro x5 c5 w5 R5
  rw [← rb_app] at R5
  exact h x5 c5 w5 R5
theorem wpB_dig {ops : Array Oper} {rest : List Oper} {o : Oper} {a : Act} {Q : Exit → Act → World → Prop} (hgd : o.guard = none) (s x : Operand) (ho : o.op = .call { callee := .builtin .append, args := #[s, x], argTypes := #[123, 123] })
    {w0 wr : World} {g x0 cap n : Nat} {ds : List Nat} {L : List Nat} (R : RowB w0 g (ib ds) wr x0 cap n (rb L)) (off m c : Nat) (hs : a.eval s = .slice (some ⟨x0, 0, none⟩) n cap) (hx : a.eval x = .slice (some ⟨g, off, none⟩) m c) (hl : off + m ≤ ds.length) (hm : 0 < m) (hb : n + m ≤ 1000)
    (h : ∀ x5 cap5 w5, RowB w0 g (ib ds) w5 x5 cap5 (n + m) (rb (L ++ (ds.drop off).take m)) → wpList Tryz.prog ops Q rest (a.put o.dst (.slice (some ⟨x5, 0, none⟩) (n + m) cap5)) w5) : wpList Tryz.prog ops Q (o :: rest) a wr := by
  obtain ⟨i0, hi, hz0, hz1, hz2⟩ := info_parts info_u8
  have hB : w0.heap.size ≤ wr.heap.size := R.fr.size
  refine wpList_append_lies _ hgd s x 123 ho w0.heap.size 5 i0 (.int .u8 0) 1 1 Tryz.underlying123 hi hz0 hz1 hz2 rfl (by omega) (.slice (some ⟨x0, 0, none⟩) n cap) n (rb L) hs R.own ⟨g, off, none⟩ m c (rb ((ds.drop off).take m)) hx (by rw [rb_len]; simp; omega) ?_ (rb_one _ []) hm (by unfold maxLen; omega) (by omega) hB _ rfl ?_
  · intro j u hj
    have hadd : (⟨g, off, none⟩ : Addr).add j = ⟨g, off + j, none⟩ := by unfold Addr.add; split <;> simp_all
    rw [hadd]
    unfold rb at hj
    rw [List.getElem?_map] at hj
    obtain ⟨y, hy, rfl⟩ : ∃ y : Nat, ((ds.drop off).take m)[j]? = some y ∧ Value.int .u8 (y : Int) = u := by
      cases hq : ((ds.drop off).take m)[j]? with
      | none => rw [hq] at hj; exact absurd hj (by simp)
      | some y => rw [hq] at hj; exact ⟨y, rfl, by simpa using hj⟩
    refine R.dig (off + j) (y : Int) ?_
    unfold ib
    rw [List.getElem?_map]
    rw [List.getElem?_take] at hy
    split at hy
    · rw [List.getElem?_drop] at hy; rw [hy]; rfl
    · exact absurd hy (by simp)
  · intro g5 cap5 w5 own5 gr5 at5 lt5
    have hg := grown_fr gr5
    have hx5 : g5 ≠ g := by
      rcases at5 with h5 | h5
      · have : x0 = g5 := by simpa [Value.ownBlock] using h5
        rw [← this]; exact R.ne
      · have := R.lt; rw [h5]; omega
    rw [← rb_app] at own5
    refine h g5 cap5 w5 ⟨own5, hx5, fun t v hv => ?_, Nat.lt_of_lt_of_le R.lt hg.size, ?_⟩
    · rw [cell_fr hg R.lt (fun hm => R.ne (by simpa [Value.ownBlock, eq_comm] using hm))]
      exact R.dig t v hv
    · refine R.fr.trans hg ?_
      intro y hy
      right
      exact own_base (by have : y = x0 := by simpa [Value.ownBlock] using hy
                         rw [this]; exact R.own)
theorem man_small (neg : Bool) (ds : List Nat) (h : ds.length ≤ 1) : Fmt.manB neg ds = Fmt.sgnB neg ++ [ds.headD 48] := by
  unfold Fmt.manB; rw [if_neg (by omega)]
theorem man_big (neg : Bool) (ds : List Nat) (h : 2 ≤ ds.length) : Fmt.manB neg ds = Fmt.sgnB neg ++ [ds.headD 48] ++ [46] ++ (ds.drop 1).take (ds.length - 1) := by
  unfold Fmt.manB
  rw [if_pos (by omega), List.take_of_length_le (by simp), List.drop_one]
  simp
open Fmt in
set_option maxRecDepth 100000 in
set_option maxHeartbeats 4000000 in
theorem efgE_c (w0 w : World) (g x cap : Nat) (neg : Bool) (ds : List Nat) (dp pr : Int) (R : RowB w0 g (ib ds) w x cap 0 []) (hl : ds.length ≤ 30) (hpr : pr = if ds.length = 0 then 0 else (ds.length : Int) - 1) (h1 : -900 ≤ dp) (h2 : dp ≤ 900) :
    Calls Tryz.prog 141 #[.slice (some ⟨x, 0, none⟩) 0 cap, .bool neg, .slice (some ⟨g, 0, none⟩) 32 32, .int .i64 dp, .int .i64 (ds.length : Int), .int .i64 pr, .int .u8 101, .bool true] w fun e w' => ∃ x5 c5, e = .returned (.slice (some ⟨x5, 0, none⟩) (efgE neg ds dp).length c5) ∧ RowB w0 g (ib ds) w' x5 c5 (efgE neg ds dp).length (rb (efgE neg ds dp)) := by
  have R0 : Hid (RowB w0 g (ib ds) w x cap 0 (rb [])) := Lib.hid R
  have HPR := Lib.hid hpr
  clear R hpr
  go_enter Tryz.func141, Tryz.ntmps141
  go_upto_if 78 with fail
  go_cut [0] from 79 to 81 (fun s0 wx => ∃ x c, s0 = .slice (some ⟨x, 0, none⟩) (sgnB neg).length c ∧ Hid (RowB w0 g (ib ds) wx x c (sgnB neg).length (rb (sgnB neg))))
  case first =>
    cases neg
    · go_wp2_with fail
      go_meet
      exact ⟨x, cap, rfl, R0⟩
    · go_wp2_with (at_builtin; refine wpB_new rfl _ _ rfl R0.out [45] 1 _ rfl rfl rfl rfl (by decide) (by omega) ?_; intro x1 c1 w1 R1; have R1 := Lib.hid R1)
      go_meet
      exact ⟨x1, c1, rfl, R1⟩
  case rest =>
    obtain ⟨x, c, rfl, R1⟩ := hcut
    clear R0
    obtain ⟨h0, hh0⟩ : ∃ h0, h0 = ds.headD 48 := ⟨_, rfl⟩
    have H0 := Lib.hid hh0
    clear hh0
    have SL : (sgnB neg).length ≤ 1 := by cases neg <;> decide
    go_upto_if 83 with fail
    go_cut [19] from 84 to 86 (fun s19 wx => s19 = .int .u8 (h0 : Int) ∧ wc = wx)
    case first =>
      cases ds with
      | nil =>
        go_wp2_with fail
        go_meet
        exact ⟨by rw [H0.out]; rfl, rfl⟩
      | cons d t =>
        have c0 := R1.out.dig 0 (d : Int) rfl
        have gl := R1.out.lt
        have hn : ((((d :: t).length : Nat) : Int) != 0) = true := by simp; omega
        go_wp2_with fail
        go_meet
        exact ⟨by rw [H0.out]; rfl, rfl⟩
    case rest =>
      obtain ⟨rfl, rfl⟩ := hcut
      go_upto_if 92 with (at_builtin; refine wpB_new rfl _ _ rfl R1.out [h0] 1 _ rfl rfl rfl rfl (by decide) (by omega) ?_; intro x2 c2 w2 R2; have R2 := Lib.hid R2)
      have HP := HPR.out
      go_cut [0, 20, 21, 92] from 93 to 119 (fun s0 s20 s21 s92 wx => ∃ x c, s0 = .slice (some ⟨x, 0, none⟩) (manB neg ds).length c ∧ Hid (RowB w0 g (ib ds) wx x c (manB neg ds).length (rb (manB neg ds))))
      case first =>
        by_cases hn : ds.length ≤ 1
        · have M : Hid (manB neg ds = sgnB neg ++ [h0]) := Lib.hid (by rw [man_small neg ds hn, H0.out])
          have ML : Hid ((manB neg ds).length = (sgnB neg).length + 1) := Lib.hid (by rw [M.out]; simp)
          have hp0 : pr = 0 := by rw [HP]; split <;> omega
          clear HP
          subst hp0
          go_wp2_with fail
          go_meet
          refine ⟨x2, c2, by rw [ML.out], ?_⟩
          rw [ML.out, M.out]
          exact R2
        · have M : Hid (manB neg ds = sgnB neg ++ [h0] ++ [46] ++ (ds.drop 1).take (ds.length - 1)) := Lib.hid (by rw [man_big neg ds (by omega), H0.out])
          have ML : Hid ((manB neg ds).length = (sgnB neg).length + 1 + 1 + (ds.length - 1)) := Lib.hid (by rw [M.out]; simp; omega)
          have hp1 : pr + 1 = (ds.length : Int) := by rw [HP, if_neg (by omega)]; omega
          have hp2 : (0 : Int) < pr := by omega
          clear HP
          have hmin : min (ds.length : Int) (ds.length : Int) = (ds.length : Int) := Int.min_self _
          have hnb : (1 : Int) < (ds.length : Int) := by omega
          go_wp2_with (first | (at_builtin; refine wpB_new rfl _ _ rfl R2.out [46] 1 _ rfl rfl rfl rfl (by decide) (by omega) ?_; intro x3 c3 w3 R3; have R3 := Lib.hid R3) | (at_builtin; refine wpB_dig rfl _ _ rfl R3.out 1 (ds.length - 1) 31 rfl rfl (by omega) (by omega) (by omega) ?_; intro x4 c4 w4 R4; have R4 := Lib.hid R4))
          refine wp_loop_rounds 1 ?_
          rw [rounds_succ]
          go_wp2_with fail
          go_meet
          refine ⟨x4, c4, by rw [ML.out], ?_⟩
          rw [ML.out, M.out]
          exact R4
      case rest => as_aux_lemma =>
        obtain ⟨x5, c5, rfl, R5⟩ := hcut
        have EL : (manB neg ds).length ≤ 40 := by
          by_cases hn : ds.length ≤ 1
          · rw [man_small neg ds hn]; simp; omega
          · rw [man_big neg ds (by omega)]; simp; omega
        clear HP R1 R2 H0
        obtain ⟨E, hE⟩ : ∃ E, E = (if ds.length = 0 then 0 else dp - 1) := ⟨_, rfl⟩
        have HE := Lib.hid hE
        have hEb : -901 ≤ E ∧ E ≤ 900 := by rw [hE]; split <;> omega
        clear hE
        go_upto_if 127 with (at_builtin; refine wpB_new rfl _ _ rfl R5.out [101] 1 _ rfl rfl rfl rfl (by decide) (by omega) ?_; intro x6 c6 w6 R6; have R6 := Lib.hid R6)
        go_cut [22] from 128 to 128 (fun s22 wx => s22 = .int .i64 E ∧ w6 = wx)
        case first =>
          by_cases hn : ds.length = 0
          · have hE2 : E = 0 := by rw [HE.out, if_pos hn]
            have hnb : ((ds.length : Int) == 0) = true := by simpa using (show (ds.length : Int) = 0 by omega)
            clear hn
            go_wp2_with fail
            go_meet
            exact ⟨by rw [hE2], rfl⟩
          · have hE2 : E = dp - 1 := by rw [HE.out, if_neg hn]
            have hnb : ((ds.length : Int) == 0) = false := by simpa using (show ¬ (ds.length : Int) = 0 by omega)
            have HE2 := Lib.hid hE2
            clear hn hE2
            go_wp2_with fail
            go_meet
            exact ⟨by rw [HE2.out], rfl⟩
        case rest =>
          obtain ⟨rfl, rfl⟩ := hcut
          obtain ⟨a, ha⟩ : ∃ a, a = E.natAbs := ⟨_, rfl⟩
          obtain ⟨sb, hsb⟩ : ∃ sb : Nat, sb = if E < 0 then 45 else 43 := ⟨_, rfl⟩
          have HA := Lib.hid ha
          have HSB := Lib.hid hsb
          have hab : a ≤ 901 := by omega
          clear ha hsb
          go_upto_if 129 with fail
          go_cut [19, 22] from 130 to 131 (fun s19 s22 wx => s19 = .int .u8 (sb : Int) ∧ s22 = .int .i64 (a : Int) ∧ w6 = wx)
          case first =>
            by_cases hn : E < 0
            · go_wp2_with fail
              go_meet
              exact ⟨by rw [HSB.out, if_pos hn]; rfl, by rw [HA.out]; congr 1; omega, rfl⟩
            · go_wp2_with fail
              go_meet
              exact ⟨by rw [HSB.out, if_neg (by omega)]; rfl, by rw [HA.out]; congr 1; omega, rfl⟩
          case rest =>
            obtain ⟨rfl, rfl, rfl⟩ := hcut
            have FIN : Hid (efgE neg ds dp = (manB neg ds ++ [101] ++ [sb]) ++ ddN a) := Lib.hid (by
              unfold efgE expB
              rw [← HE.out, ← HA.out]
              have : (if E < 0 then 45 else 43) = sb := HSB.out.symm
              rw [this]; simp)
            have h256 : ∀ z : Int, 0 ≤ z → z < 256 → IntKind.u8.wrap z = z := fun z h1 h2 => by rw [IntKind.wrap_u8]; omega
            by_cases a1 : a < 10
            · have d1 : ddN a = [48, a + 48] := by unfold ddN; rw [if_pos a1]
              rw [d1] at FIN
              have v1 := h256 a (by omega) (by omega)
              have v2 := h256 ((a : Int) + 48) (by omega) (by omega)
              go_wp2_with (first | (at_builtin; refine wpB_new rfl _ _ rfl R6.out [sb] 1 _ rfl rfl rfl rfl (by decide) (by omega) ?_; intro x7 c7 w7 R7; have R7 := Lib.hid R7) | (at_builtin; refine wpB_new rfl _ _ rfl R7.out [48, a + 48] 2 _ (by simp [rb]) rfl rfl rfl (by decide) (by omega) ?_; intro x8 c8 w8 R8; have R8 := Lib.hid R8))
              go_ret
              rw [FIN.out]
              exact ⟨x8, c8, by simp, by simpa using R8.out⟩
            · by_cases a2 : a < 100
              · have d1 : ddN a = [a / 10 + 48, a % 10 + 48] := by unfold ddN; rw [if_neg a1, if_pos a2]
                rw [d1] at FIN
                obtain ⟨q, hq⟩ : ∃ q, q = a / 10 := ⟨_, rfl⟩
                obtain ⟨r, hr⟩ : ∃ r, r = a % 10 := ⟨_, rfl⟩
                have hqi : (a : Int) / 10 = (q : Int) := by omega
                have hri : (a : Int) % 10 = (r : Int) := by omega
                have v1 := h256 q (by omega) (by omega)
                have v2 := h256 ((q : Int) + 48) (by omega) (by omega)
                have v3 := h256 r (by omega) (by omega)
                have v4 := h256 ((r : Int) + 48) (by omega) (by omega)
                rw [← hq, ← hr] at FIN
                clear hq hr d1
                go_wp2_with (first | (at_builtin; refine wpB_new rfl _ _ rfl R6.out [sb] 1 _ rfl rfl rfl rfl (by decide) (by omega) ?_; intro x7 c7 w7 R7; have R7 := Lib.hid R7) | (at_builtin; refine wpB_new rfl _ _ rfl R7.out [q + 48, r + 48] 2 _ (by simp [rb]) rfl rfl rfl (by decide) (by omega) ?_; intro x8 c8 w8 R8; have R8 := Lib.hid R8))
                go_ret
                rw [FIN.out]
                exact ⟨x8, c8, by simp, by simpa using R8.out⟩
              · have d1 : ddN a = [a / 100 + 48, a / 10 % 10 + 48, a % 10 + 48] := by unfold ddN; rw [if_neg a1, if_neg a2]
                rw [d1] at FIN
                obtain ⟨q, hq⟩ : ∃ q, q = a / 100 := ⟨_, rfl⟩
                obtain ⟨t, ht⟩ : ∃ t, t = a / 10 := ⟨_, rfl⟩
                obtain ⟨m, hm⟩ : ∃ m, m = t % 10 := ⟨_, rfl⟩
                obtain ⟨r, hr⟩ : ∃ r, r = a % 10 := ⟨_, rfl⟩
                have hqi : (a : Int) / 100 = (q : Int) := by omega
                have hti : (a : Int) / 10 = (t : Int) := by omega
                have hmi : (t : Int) % 10 = (m : Int) := by omega
                have hri : (a : Int) % 10 = (r : Int) := by omega
                have v1 := h256 q (by omega) (by omega)
                have v2 := h256 ((q : Int) + 48) (by omega) (by omega)
                have v3 := h256 r (by omega) (by omega)
                have v4 := h256 ((r : Int) + 48) (by omega) (by omega)
                have v5 := h256 t (by omega) (by omega)
                have v6 := h256 ((m : Int) + 48) (by omega) (by omega)
                have v7 := h256 m (by omega) (by omega)
                rw [← hq, ← ht, ← hm, ← hr] at FIN
                clear hq hr hm ht d1
                go_wp2_with (first | (at_builtin; refine wpB_new rfl _ _ rfl R6.out [sb] 1 _ rfl rfl rfl rfl (by decide) (by omega) ?_; intro x7 c7 w7 R7; have R7 := Lib.hid R7) | (at_builtin; refine wpB_new rfl _ _ rfl R7.out [q + 48, m + 48, r + 48] 3 _ (by simp [rb]) rfl rfl rfl (by decide) (by omega) ?_; intro x8 c8 w8 R8; have R8 := Lib.hid R8))
                go_ret
                rw [FIN.out]
                exact ⟨x8, c8, by simp, by simpa using R8.out⟩
def intB (ds : List Nat) (dp : Int) : List Nat := if 0 < dp then ds.take dp.toNat ++ List.replicate (dp.toNat - ds.length) 48 else [48]
theorem replicate_snoc (n x : Nat) : List.replicate n x ++ [x] = List.replicate (n + 1) x := by
  rw [List.replicate_succ']
theorem take_snoc {ds : List Nat} {i : Nat} (h : i < ds.length) : ds.take i ++ [ds[i]?.getD 0] = ds.take (i + 1) := by
  rw [List.take_succ, List.getElem?_eq_getElem h]; rfl
theorem dig_cell {w0 wr : World} {g x cap n : Nat} {ds : List Nat} {L : List Value} (R : RowB w0 g (ib ds) wr x cap n L) {i : Nat} (h : i < ds.length) : wr.cell? ⟨g, i, none⟩ = some (.int .u8 ((ds[i]?.getD 0 : Nat) : Int)) := by
  refine R.dig i _ ?_
  unfold ib
  rw [List.getElem?_map, List.getElem?_eq_getElem h]; rfl
open Fmt in
set_option maxRecDepth 100000 in
set_option maxHeartbeats 4000000 in
theorem efgF_c (w0 w : World) (g x cap : Nat) (neg : Bool) (ds : List Nat) (dp pr : Int) (R : RowB w0 g (ib ds) w x cap 0 []) (hl : ds.length ≤ 30) (hp1 : dp < (ds.length : Int) → pr = (ds.length : Int) - dp) (hp2 : (ds.length : Int) ≤ dp → pr ≤ 0) (h1 : -400 ≤ dp) (h2 : dp ≤ 400) :
    Calls Tryz.prog 141 #[.slice (some ⟨x, 0, none⟩) 0 cap, .bool neg, .slice (some ⟨g, 0, none⟩) 32 32, .int .i64 dp, .int .i64 (ds.length : Int), .int .i64 pr, .int .u8 102, .bool true] w fun e w' => ∃ x5 c5, e = .returned (.slice (some ⟨x5, 0, none⟩) (efgF neg ds dp).length c5) ∧ RowB w0 g (ib ds) w' x5 c5 (efgF neg ds dp).length (rb (efgF neg ds dp)) := by
  have R0 : Hid (RowB w0 g (ib ds) w x cap 0 (rb [])) := Lib.hid R
  have HP1 := Lib.hid hp1
  have HP2 := Lib.hid hp2
  have SL : (sgnB neg).length ≤ 1 := by cases neg <;> decide
  clear R hp1 hp2
  go_enter Tryz.func141, Tryz.ntmps141
  go_upto_if 178 with fail
  go_cut [0] from 179 to 181 (fun s0 wx => ∃ x c, s0 = .slice (some ⟨x, 0, none⟩) (sgnB neg).length c ∧ Hid (RowB w0 g (ib ds) wx x c (sgnB neg).length (rb (sgnB neg))))
  case first =>
    cases neg
    · go_wp2_with fail
      go_meet
      exact ⟨x, cap, rfl, R0⟩
    · go_wp2_with (at_builtin; refine wpB_new rfl _ _ rfl R0.out [45] 1 _ rfl rfl rfl rfl (by decide) (by omega) ?_; intro x1 c1 w1 R1; have R1 := Lib.hid R1)
      go_meet
      exact ⟨x1, c1, rfl, R1⟩
  case rest =>
    obtain ⟨x, c, rfl, R1⟩ := hcut
    clear R0
    obtain ⟨n0, hn0⟩ : ∃ n0, n0 = (sgnB neg).length := ⟨_, rfl⟩
    have N0 := Lib.hid hn0
    rw [← hn0] at SL R1 ⊢
    clear hn0
    go_upto_if 183 with fail
    go_cut [0, 23, 25, 183] from 184 to 211 (fun s0 s23 s25 s183 wx => ∃ x c, s0 = .slice (some ⟨x, 0, none⟩) (n0 + (intB ds dp).length) c ∧ Hid (RowB w0 g (ib ds) wx x c (n0 + (intB ds dp).length) (rb (sgnB neg ++ intB ds dp))))
    case first =>
      by_cases hd : 0 < dp
      · obtain ⟨M, hM⟩ : ∃ M : Nat, min (ds.length : Int) dp = (M : Int) := ⟨(min (ds.length : Int) dp).toNat, by omega⟩
        obtain ⟨K, hK⟩ : ∃ K : Nat, dp - (M : Int) = (K : Int) := ⟨(dp - (M : Int)).toNat, by omega⟩
        have IB : Hid (intB ds dp = ds.take M ++ List.replicate K 48) := Lib.hid (by
          unfold intB; rw [if_pos hd]
          by_cases h : ds.length ≤ dp.toNat
          · rw [List.take_of_length_le h, List.take_of_length_le (show ds.length ≤ M by omega), show dp.toNat - ds.length = K by omega]
          · rw [show dp.toNat = M by omega, show M - ds.length = K by omega])
        have IL : Hid ((intB ds dp).length = M + K) := Lib.hid (by rw [IB.out]; simp; omega)
        have hMl : M ≤ ds.length := by omega
        have hMb : (M : Int) ≤ 32 := by omega
        have hKb : K ≤ 400 := by omega
        rw [show decide (0 < dp) = true from decide_eq_true hd]
        go_wp2_with fail
        go_loopw [191, 25, 0] (fun s191 _ s0 wr => ∃ (i : Nat) (x c : Nat), i ≤ M ∧ s191 = .int .i64 (i : Int) ∧ s0 = .slice (some ⟨x, 0, none⟩) (n0 + i) c ∧ Hid (RowB w0 g (ib ds) wr x c (n0 + i) (rb (sgnB neg ++ ds.take i)))) (fun a _ _ _ => M - (RowKit.intOf a).toNat)
        case atStart => exact ⟨0, x, c, Nat.zero_le _, rfl, rfl, by simpa using R1⟩
        case round =>
          obtain ⟨i, x, c, hi, rfl, rfl, R2⟩ := hrel
          by_cases hlt : i < M
          · have DC := dig_cell R2.out (show i < ds.length by omega)
            have TS := Lib.hid (take_snoc (show i < ds.length by omega))
            generalize ds[i]?.getD 0 = y at DC TS
            have gl := R2.out.lt
            go_wp2_with (at_builtin; refine wpB_new rfl _ _ rfl R2.out [y] 1 _ rfl rfl rfl rfl (by decide) (by omega) ?_; intro x3 c3 w3 R3; have R3 := Lib.hid R3)
            go_roundw
            case rel => exact ⟨i + 1, x3, c3, by omega, by go_num, rfl, by rw [← TS.out, ← List.append_assoc]; exact R3⟩
            case measure => simp [RowKit.intOf]; omega
          · have hiM : i = M := by omega
            subst hiM
            clear hi hlt
            go_wp2_with fail
            go_loopw [203, 0] (fun s203 s0 wr => ∃ (j : Nat) (x c : Nat), j ≤ K ∧ s203 = .int .i64 (j : Int) ∧ s0 = .slice (some ⟨x, 0, none⟩) (n0 + i + j) c ∧ Hid (RowB w0 g (ib ds) wr x c (n0 + i + j) (rb (sgnB neg ++ ds.take i ++ List.replicate j 48)))) (fun a _ _ => K - (RowKit.intOf a).toNat)
            case atStart => exact ⟨0, x, c, Nat.zero_le _, rfl, rfl, by simpa using R2⟩
            case round =>
              obtain ⟨j, x, c, hj, rfl, rfl, R3⟩ := hrel
              by_cases hlt : j < K
              · go_wp2_with (at_builtin; refine wpB_new rfl _ _ rfl R3.out [48] 1 _ rfl rfl rfl rfl (by decide) (by omega) ?_; intro x4 c4 w4 R4; have R4 := Lib.hid R4)
                go_roundw
                case rel => exact ⟨j + 1, x4, c4, by omega, by go_num, rfl, by rw [← replicate_snoc, ← List.append_assoc]; exact R4⟩
                case measure => simp [RowKit.intOf]; omega
              · have hjK : j = K := by omega
                subst hjK
                go_wp2_with fail
                go_meet
                refine ⟨x, c, by rw [IL.out, ← Nat.add_assoc], ?_⟩
                rw [IL.out, IB.out, ← Nat.add_assoc, ← List.append_assoc]
                exact R3
      · have IB : Hid (intB ds dp = [48]) := Lib.hid (by unfold intB; rw [if_neg hd])
        go_wp2_with (at_builtin; refine wpB_new rfl _ _ rfl R1.out [48] 1 _ rfl rfl rfl rfl (by decide) (by omega) ?_; intro x2 c2 w2 R2; have R2 := Lib.hid R2)
        go_meet
        rw [IB.out]
        exact ⟨x2, c2, rfl, R2⟩
    case rest =>
      obtain ⟨x, c, rfl, R2⟩ := hcut
      clear R1
      obtain ⟨I, hI⟩ : ∃ I, I = sgnB neg ++ intB ds dp := ⟨_, rfl⟩
      have HI := Lib.hid hI
      obtain ⟨n1, hn1⟩ : ∃ n1, n1 = n0 + (intB ds dp).length := ⟨_, rfl⟩
      have LI : Hid (I.length = n1) := Lib.hid (by rw [hI, hn1, N0.out]; simp)
      have n1b : n1 ≤ 450 := by
        have : (intB ds dp).length ≤ 440 := by
          unfold intB; split
          · simp; omega
          · decide
        omega
      rw [← hn1] at R2 ⊢
      rw [← hI] at R2
      clear hI hn1
      by_cases hd : dp < (ds.length : Int)
      · have hp := HP1.out hd
        obtain ⟨Z, hZ⟩ : ∃ Z : Nat, Z = (-dp).toNat := ⟨_, rfl⟩
        obtain ⟨O, hO⟩ : ∃ O : Nat, O = dp.toNat := ⟨_, rfl⟩
        obtain ⟨Q, hQ⟩ : ∃ Q : Nat, Q = ds.length - O := ⟨_, rfl⟩
        have FIN : Hid (efgF neg ds dp = I ++ [46] ++ List.replicate Z 48 ++ (ds.drop O).take Q) := Lib.hid (by
          have e1 : (ds.drop O).take Q = ds.drop O := List.take_of_length_le (by simp; omega)
          rw [e1, HI.out]
          unfold efgF intB
          rw [if_pos hd, ← hZ, ← hO]
          simp)
        have FL : Hid ((efgF neg ds dp).length = n1 + 1 + Z + Q) := Lib.hid (by
          rw [FIN.out]; simp only [List.length_append, LI.out, List.length_replicate, List.length_take, List.length_drop, List.length_cons, List.length_nil]; omega)
        have hpp : (0 : Int) < pr := by omega
        have e1 : max (0 : Int) (-dp) = (Z : Int) := by omega
        have e2 : min pr (Z : Int) = (Z : Int) := by omega
        have e3 : dp + (Z : Int) = (O : Int) := by omega
        have e4 : (ds.length : Int) - (O : Int) = (Q : Int) := by omega
        have e5 : max (0 : Int) (Q : Int) = (Q : Int) := by omega
        have e6 : pr - (Z : Int) = (Q : Int) := by omega
        have e7 : min (Q : Int) (Q : Int) = (Q : Int) := Int.min_self _
        have e8 : (Q : Int) - (Q : Int) = 0 := by omega
        have e9 : max (0 : Int) 0 = 0 := by decide
        have hOQ : O + Q = ds.length := by omega
        have hZb : Z ≤ 400 := by omega
        have hQb : Q ≤ 30 := by omega
        clear hp hZ hO hQ hd
        go_wp2_with (at_builtin; refine wpB_new rfl _ _ rfl R2.out [46] 1 _ rfl rfl rfl rfl (by decide) (by omega) ?_; intro x3 c3 w3 R3; have R3 := Lib.hid R3)
        go_loopw [240, 0] (fun s240 s0 wr => ∃ (j : Nat) (x c : Nat), j ≤ Z ∧ s240 = .int .i64 (j : Int) ∧ s0 = .slice (some ⟨x, 0, none⟩) (n1 + 1 + j) c ∧ Hid (RowB w0 g (ib ds) wr x c (n1 + 1 + j) (rb (I ++ [46] ++ List.replicate j 48)))) (fun a _ _ => Z - (RowKit.intOf a).toNat)
        case atStart => exact ⟨0, x3, c3, Nat.zero_le _, rfl, rfl, by simpa using R3⟩
        case round =>
          obtain ⟨j, x, c, hj, rfl, rfl, R4⟩ := hrel
          by_cases hlt : j < Z
          · go_wp2_with (at_builtin; refine wpB_new rfl _ _ rfl R4.out [48] 1 _ rfl rfl rfl rfl (by decide) (by omega) ?_; intro x5 c5 w5 R5; have R5 := Lib.hid R5)
            go_roundw
            case rel => exact ⟨j + 1, x5, c5, by omega, by go_num, rfl, by rw [← replicate_snoc, ← List.append_assoc]; exact R5⟩
            case measure => simp [RowKit.intOf]; omega
          · have hjZ : j = Z := by omega
            subst hjZ
            clear hj hlt
            obtain ⟨n2, hn2⟩ : ∃ n2, n2 = n1 + 1 + j := ⟨_, rfl⟩
            obtain ⟨J, hJ⟩ : ∃ J, J = I ++ [46] ++ List.replicate j 48 := ⟨_, rfl⟩
            rw [← hJ] at R4 FIN
            rw [← hn2] at R4 FL ⊢
            have n2b : n2 ≤ 900 := by omega
            clear hJ hn2
            go_wp2_with fail
            go_loopw [247, 30, 0] (fun s247 _ s0 wr => ∃ (k : Nat) (x c : Nat), k ≤ Q ∧ s247 = .int .i64 (k : Int) ∧ s0 = .slice (some ⟨x, 0, none⟩) (n2 + k) c ∧ Hid (RowB w0 g (ib ds) wr x c (n2 + k) (rb (J ++ (ds.drop O).take k)))) (fun a _ _ _ => Q - (RowKit.intOf a).toNat)
            case atStart => exact ⟨0, x, c, Nat.zero_le _, rfl, rfl, by simpa using R4⟩
            case round =>
              obtain ⟨k, x, c, hk, rfl, rfl, R5⟩ := hrel
              by_cases hlt : k < Q
              · have DC := dig_cell R5.out (show O + k < ds.length by omega)
                have TS := Lib.hid (take_snoc (ds := ds.drop O) (show k < (ds.drop O).length by simp; omega))
                rw [show (ds.drop O)[k]?.getD 0 = ds[O + k]?.getD 0 by rw [List.getElem?_drop]] at TS
                generalize ds[O + k]?.getD 0 = y at DC TS
                have gl := R5.out.lt
                obtain ⟨t, ht⟩ : ∃ t, t = O + k := ⟨_, rfl⟩
                have hb : t < 32 := by omega
                have hok : (O : Int) + (k : Int) = (t : Int) := by omega
                rw [← ht] at DC
                clear ht
                go_wp2_with (at_builtin; refine wpB_new rfl _ _ rfl R5.out [y] 1 _ rfl rfl rfl rfl (by decide) (by omega) ?_; intro x6 c6 w6 R6; have R6 := Lib.hid R6)
                go_roundw
                case rel => exact ⟨k + 1, x6, c6, by omega, by go_num, rfl, by rw [← TS.out, ← List.append_assoc]; exact R6⟩
                case measure => simp [RowKit.intOf]; omega
              · have hkQ : k = Q := by omega
                subst hkQ
                clear hk hlt
                go_wp2_with fail
                refine wp_loop_rounds 1 ?_
                rw [rounds_succ]
                go_wp2_with fail
                go_ret
                rw [FL.out, FIN.out]
                exact ⟨x, c, rfl, R5.out⟩
      · have hp := HP2.out (by omega)
        have FIN : Hid (efgF neg ds dp = I) := Lib.hid (by
          rw [HI.out]; unfold efgF intB; rw [if_neg (by omega : ¬ dp < (ds.length : Int)), List.append_nil])
        go_wp2_with fail
        go_ret
        rw [FIN.out, LI.out]
        exact ⟨x, c, rfl, R2.out⟩
end
end Go.Proofs.YtcjkgnafpkkjmaaGreatDoor
