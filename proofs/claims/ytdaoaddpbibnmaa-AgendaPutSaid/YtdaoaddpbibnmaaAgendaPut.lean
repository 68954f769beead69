/- The law AgendaPut holds for every input: the Go function returns true and leaves its argument as it was. No condition. -/
import Derived.Test.YtdaoaddpbibnmaaAgendaG
import Derived.Test.YtdaoaddpbibnmaaArgs
import Derived.ProofKit
import Derived.ChangeOld
namespace Go.Proofs.Ytdaoaddpbibnmaa.agendaPut
open Go.ChangeShapes Go.WideShapes Go.ChangeAt Go.RowKit
set_option linter.unusedVariables false
def IsInts (w : World) (a : Option Addr) (len cap : Nat) (zs : List Int) : Prop :=
  zs.length = len ∧ (∀ n ∈ zs, (Lit.int .i64 n).wf = true) ∧ len ≤ cap ∧ cap ≤ maxLen ∧
      (len = 0 ∨ ∃ b o, a = some ⟨b, o, none⟩ ∧ b < w.heap.size ∧ ∀ i, i < len → w.cell? ⟨b, o + i, none⟩ = some (.int .i64 (zs[i]?.getD 0)))
theorem opener {H : Type} {enc : TypeId × Value → H} {w : World} {spare : Nat → Bool} {held : Bool} {a : Option Addr} {len cap : Nat} {d : DataW H} {p : List MemPlace}
    (h : DataW.Trod enc Try.prog w 0 spare held 22 (.slice a len cap) d p) : ∃ N, IsInts w a len cap N :=
  open_int_slice Try.underlying22 Try.underlying3 (by kernel_rfl) h
theorem int_cell {w w' : World} {ab ao len cap : Nat} {zs : List Int} (h : IsInts w (some ⟨ab, ao, none⟩) len cap zs) (hF : Fr [] w w') (k : Nat) (hk : k < len) : w'.cell? ⟨ab, ao + k, none⟩ = some (.int .i64 (zs[k]?.getD 0)) := by
  rcases h.2.2.2.2 with h | ⟨b, o, h1, h2, h3⟩
  · omega
  · simp only [Option.some.injEq, Addr.mk.injEq] at h1
    obtain ⟨rfl, rfl, _⟩ := h1
    rw [← h3 k hk]
    exact World.cell?_of_block (w := w) (hF.block ab h2 (by simp))
theorem info_word : (Try.prog.info? 29).map (fun i => (i.zero, i.size, i.bytes)) = some (some (.int .u64 0), 1, 8) := by kernel_rfl
def words (ws : List Int) : Array Value := (ws.map (Value.int .u64)).toArray
theorem run_words (w : World) (n : Nat) (h : n ≤ 1048576) :
    (Instr.makeSlice 26 (.int .i64 (n : Int)) (.int .i64 (n : Int))).run Try.prog w = .ok (.slice (some ⟨w.heap.size, 0, none⟩) n n) (w.alloc (.cells (words (List.replicate n 0)) 29)) := by
  obtain ⟨i0, hi, hz0, hz1, hz2⟩ := info_parts info_word
  have := run_make (P := Try.prog) w 26 29 i0 (.int .u64 0) Try.underlying26 hi hz0 .i64 .i64 (n : Int) n (by omega) (by omega) (by rw [hz2]; omega) (by omega)
  rw [this, hz1]
  simp only [Int.toNat_natCast, Nat.mul_one]
  have e : madeCells #[.int .u64 0] n = words (List.replicate n 0) := by
    apply Array.ext_getElem?
    intro i
    by_cases hi : i < n <;> simp [madeCells, words, hi, Nat.mod_one]
  rw [show (Value.int IntKind.u64 0).cells = #[.int .u64 0] from rfl, e]
/-! ### Two agendas and a list -/
structure Two (w : World) (B ab bb lg : Nat) (va vb : Value) (la lb : List E3) (ka kb : Int) (ws : List Int) : Prop where
  a : AgAt w B ab va la ka
  b : AgAt w B bb vb lb kb
  l : blk w lg = some (.cells (words ws) 29 (0, 0))
  ap : ∀ x, x ∈ ab :: va.ownBlock.toList → x ∉ bb :: vb.ownBlock.toList ∧ x ≠ lg
  bp : ∀ x, x ∈ bb :: vb.ownBlock.toList → x ≠ lg
variable {w w' : World} {B ab bb lg : Nat} {va vb va' vb' : Value} {la lb la' lb' : List E3} {ka kb ka' kb' : Int} {ws : List Int}
theorem own_size (h : AgAt w B ab va la ka) : ∀ x, x ∈ ab :: va.ownBlock.toList → x < w.heap.size := by
  intro x hx
  simp only [List.mem_cons, Option.mem_toList] at hx
  rcases hx with rfl | hx
  · exact lt_size h.p
  · rcases h.en.2 with ⟨hv, _⟩ | ⟨g, cap, cur, hv, _⟩
    · rw [hv] at hx; simp [Value.ownBlock] at hx
    · have he := h.en
      unfold EnAt at he
      rw [hv] at hx he
      simp [Value.ownBlock] at hx
      subst hx
      exact own_lt he
theorem new_own {v v' : Value} {n : Nat} (h : v.ownBlock = v'.ownBlock ∨ ∀ g, v'.ownBlock = some g → n ≤ g) {x : Nat} (hx : x ∈ ab :: v'.ownBlock.toList) : x ∈ ab :: v.ownBlock.toList ∨ n ≤ x := by
  simp only [List.mem_cons, Option.mem_toList] at hx ⊢
  rcases hx with rfl | hx
  · exact .inl (.inl rfl)
  · rcases h with h | h
    · rw [h]; exact .inl (.inr hx)
    · exact .inr (h x hx)
theorem Two.stepA (h : Two w B ab bb lg va vb la lb ka kb ws) (hA : AgAt w' B ab va' la' ka') (ho : va.ownBlock = va'.ownBlock ∨ ∀ g, va'.ownBlock = some g → w.heap.size ≤ g) (hF : Fr (ab :: va.ownBlock.toList) w w') : Two w' B ab bb lg va' vb la' lb ka' kb ws := by
  refine ⟨hA, h.b.fr hF (fun hm => (h.ap _ hm).1 (by simp)) (fun x hx hm => (h.ap _ hm).1 (by simp [hx])), hF.at h.l (fun hm => (h.ap _ hm).2 rfl), fun x hx => ?_, h.bp⟩
  rcases new_own ho hx with h1 | h1
  · exact h.ap x h1
  · exact ⟨fun hm => by have := own_size h.b x hm; omega, fun he => by have := lt_size h.l; omega⟩
theorem Two.stepB (h : Two w B ab bb lg va vb la lb ka kb ws) (hB : AgAt w' B bb vb' lb' kb') (ho : vb.ownBlock = vb'.ownBlock ∨ ∀ g, vb'.ownBlock = some g → w.heap.size ≤ g) (hF : Fr (bb :: vb.ownBlock.toList) w w') : Two w' B ab bb lg va vb' la lb' ka kb' ws := by
  refine ⟨h.a.fr hF (fun hm => (h.ap ab (by simp)).1 hm) (fun x hx hm => (h.ap x (by simp [hx])).1 hm), hB, hF.at h.l (fun hm => h.bp _ hm rfl), fun x hx => ⟨fun hm => ?_, (h.ap x hx).2⟩, fun x hx => ?_⟩
  · rcases new_own ho hm with h1 | h1
    · exact (h.ap x hx).1 h1
    · have := own_size h.a x hx; omega
  · rcases new_own ho hx with h1 | h1
    · exact h.bp x h1
    · intro he; have := lt_size h.l; omega
theorem Two.stepL (h : Two w B ab bb lg va vb la lb ka kb ws) (i : Nat) (v : Int) : Two (w.setCell ⟨lg, i, none⟩ (.int .u64 v)) B ab bb lg va vb la lb ka kb (ws.set i v) := by
  have hF : Fr [lg] w (w.setCell ⟨lg, i, none⟩ (.int .u64 v)) := (Fr.refl _ _).setCell (by simp) _
  refine ⟨h.a.fr hF (by simp; exact (h.ap ab (by simp)).2) (fun x hx => by simp; exact (h.ap x (by simp [hx])).2), h.b.fr hF (by simp; exact h.bp bb (by simp)) (fun x hx => by simp; exact h.bp x (by simp [hx])), ?_, h.ap, h.bp⟩
  rw [blk_set, if_pos rfl, h.l]
  simp [setObj, words]
theorem Two.own (h : Two w B ab bb lg va vb la lb ka kb ws) : (∀ x, x ∈ ab :: va.ownBlock.toList → B ≤ x) ∧ (∀ x, x ∈ bb :: vb.ownBlock.toList → B ≤ x) := ⟨h.a.own, h.b.own⟩
theorem word_cell (h : blk w lg = some (.cells (words ws) 29 (0, 0))) (i : Nat) (hi : i < ws.length) : w.cell? ⟨lg, i, none⟩ = some (.int .u64 (ws[i]?.getD 0)) :=
  cell_of h (by simp [words, hi])
theorem AgAt.keep' (h : AgAt w B ab va la ka) (hF : Fr [] w w') : AgAt w' B ab va la ka := h.fr hF (by simp) (by simp)
/-! ### On paper -/
theorem rep_set (j N : Nat) (h : j < N) : (List.replicate j (7 : Int) ++ List.replicate (N - j) 0).set j 7 = List.replicate (j + 1) 7 ++ List.replicate (N - (j + 1)) 0 := by
  obtain ⟨d, hd⟩ : ∃ d, N - j = d + 1 := ⟨N - j - 1, by omega⟩
  rw [show N - (j + 1) = d by omega, hd, List.set_append_right _ _ (by simp), List.replicate_succ' (n := j)]
  simp [List.replicate_succ]
def w7 (e : E3) : E3 := ⟨e.t, e.n, 7⟩
theorem setW_7 (l : List E3) (n : Nat) (h : l.length = n) : setW l (List.replicate n 7) l.length = l.map w7 := by
  unfold setW
  apply List.ext_getElem?
  intro i
  rw [List.getElem?_mapIdx, List.getElem?_map]
  cases hx : l[i]? with
  | none => rfl
  | some x =>
    have hi : i < l.length := by
      rcases Nat.lt_or_ge i l.length with h | h
      · exact h
      · rw [List.getElem?_eq_none h] at hx; simp at hx
    simp [hi, ← h, w7]
/-- The first of both: the same time, the same turn. -/
theorem first_same (hp : (la.map w7).Perm (lb.map w7)) (ha : HeapF ltE (nth la) la.length) (hb : HeapF ltE (nth lb) lb.length) (h0 : 0 < la.length) (h1 : 0 < lb.length) : (nth la 0).t = (nth lb 0).t ∧ (nth la 0).n = (nth lb 0).n := by
  have m1 : w7 (nth la 0) ∈ lb.map w7 := hp.mem_iff.1 (List.mem_map_of_mem (nth_mem la 0 h0))
  have m2 : w7 (nth lb 0) ∈ la.map w7 := hp.mem_iff.2 (List.mem_map_of_mem (nth_mem lb 0 h1))
  obtain ⟨y, hy, ey⟩ := List.mem_map.1 m1
  obtain ⟨x, hx, ex⟩ := List.mem_map.1 m2
  have l1 := first_least hb hy
  have l2 := first_least ha hx
  rw [ltE_no] at l1 l2
  simp only [w7, E3.mk.injEq] at ey ex
  omega
theorem rest_same {x y : E3} (hp : (la.map w7).Perm (lb.map w7)) (h1 : la.Perm (x :: la')) (h2 : lb.Perm (y :: lb')) (ht : x.t = y.t) (hn : x.n = y.n) : (la'.map w7).Perm (lb'.map w7) := by
  have e : w7 x = w7 y := by simp [w7, ht, hn]
  have := (h1.map w7).symm.trans (hp.trans (h2.map w7))
  simp only [List.map_cons, e] at this
  exact (List.perm_cons _).1 this
set_option maxHeartbeats 3000000 in
set_option maxRecDepth 100000 in
theorem walk (a : Option Addr) (len cap : Nat) (zs : List Int) (more : Int) (w : World) (hN : IsInts w a len cap zs) (hwm : (Lit.int .i64 more).wf = true) :
    Calls Try.prog 3 #[.slice a len cap, .int .i64 more] w fun e w' => e = .returned (.bool true) ∧ Below w.heap.size w w' := by
  have hlen := hN.1
  have hmax : len ≤ 9223372036854775807 := by have := hN.2.2; unfold maxLen at this; omega
  by_cases hbig : 100 < len
  · have hI : (100 : Int) < (len : Int) := by omega
    clear hN hlen
    go_enter Try.func3, Try.ntmps3
    go_wp2_with (go_at_call 5; refine (agAlive_c _).mono ?_; rintro e w' ⟨rfl, F1⟩)
    go_ret
    exact ⟨rfl, F1.below⟩
  have hI : ¬ (100 : Int) < (len : Int) := by omega
  by_cases hm0 : more < 0
  · clear hN hlen
    go_enter Try.func3, Try.ntmps3
    go_wp2_with (go_at_call 5; refine (agAlive_c _).mono ?_; rintro e w' ⟨rfl, F1⟩)
    go_ret
    exact ⟨rfl, F1.below⟩
  by_cases hm5 : 5 < more
  · clear hN hlen
    go_enter Try.func3, Try.ntmps3
    go_wp2_with (go_at_call 5; refine (agAlive_c _).mono ?_; rintro e w' ⟨rfl, F1⟩)
    go_ret
    exact ⟨rfl, F1.below⟩
  obtain ⟨q, rfl⟩ : ∃ q : Nat, more = (q : Int) := ⟨more.toNat, by omega⟩
  have hq5 : q ≤ 5 := by omega
  have hln : len ≤ 100 := by omega
  have HN := Lib.hid hN
  have HL := Lib.hid hlen
  obtain ⟨B, hB⟩ : ∃ B, B = w.heap.size := ⟨_, rfl⟩
  have HB := Lib.hid hB
  obtain ⟨N, hNq⟩ : ∃ N, N = len + q := ⟨_, rfl⟩
  have HQ := Lib.hid hNq
  have mk : ∀ w1, (Instr.makeSlice 26 (.int .i64 ((len : Int) + (q : Int))) (.int .i64 ((len : Int) + (q : Int)))).run Try.prog w1 = .ok (.slice (some ⟨w1.heap.size, 0, none⟩) N N) (w1.alloc (.cells (words (List.replicate N 0)) 29)) := fun w1 => by have := run_words w1 N (by omega); rw [← this, hNq]; simp
  have hN105 : N ≤ 105 := by omega
  clear hN hlen hB hbig hm0 hm5 hwm hNq
  go_enter Try.func3, Try.ntmps3
  go_wp2_with fail
  refine (agAlive_c _).mono ?_
  rintro e w0 ⟨rfl, F0⟩
  go_wp2_with fail
  refine (gnew_c _).mono ?_
  rintro e w1 ⟨rfl, hw1⟩
  have A1 := AgAt.new w0 B (by rw [HB.out]; exact F0.size)
  rw [← hw1] at A1
  have A1 := Lib.hid A1
  have F1 : Fr [] w w1 := by rw [hw1]; exact F0.alloc _
  have F1 := Lib.hid F1
  have hab : Hid (w0.heap.size < w1.heap.size) := Lib.hid (lt_size A1.out.p)
  generalize w0.heap.size = ab at *
  clear hw1 F0
  go_wp2_with fail
  refine (gnew_c _).mono ?_
  rintro e w2 ⟨rfl, hw2⟩
  have B2 := AgAt.new w1 B (by rw [HB.out]; exact F1.out.size)
  rw [← hw2] at B2
  have F2 : Fr [] w1 w2 := by rw [hw2]; exact (Fr.refl _ _).alloc _
  have A2 := Lib.hid (AgAt.keep' A1.out F2)
  have B2 := Lib.hid B2
  have hbb : Hid (ab < w1.heap.size ∧ w1.heap.size < w2.heap.size) := Lib.hid ⟨hab.out, lt_size B2.out.p⟩
  have F2 := Lib.hid (F1.out.same F2)
  generalize w1.heap.size = bb at *
  clear hw2 A1 F1 hab
  have F3 : Hid (Fr [] w (w2.alloc (.cells (words (List.replicate N 0)) 29))) := Lib.hid (F2.out.alloc _)
  have T3 : Hid (Two (w2.alloc (.cells (words (List.replicate N 0)) 29)) B ab bb w2.heap.size (.slice none 0 0) (.slice none 0 0) [] [] 0 0 (List.replicate N 0)) := Lib.hid (by
    refine ⟨AgAt.keep' A2.out ((Fr.refl _ _).alloc _), AgAt.keep' B2.out ((Fr.refl _ _).alloc _), by rw [blk_alloc, if_pos rfl], ?_, ?_⟩
    · intro x hx
      simp [Value.ownBlock] at hx ⊢
      have := hbb.out
      omega
    · intro x hx
      simp [Value.ownBlock] at hx ⊢
      have := hbb.out
      omega)
  have hlg : Hid (w.heap.size ≤ w2.heap.size) := Lib.hid F2.out.size
  clear F2 A2 B2 hbb
  go_wp2
  generalize w2.heap.size = lg at *
  go_loopw [39] (fun x wr => ∃ (k : Nat) (va vb : Value) (la lb : List E3), k ≤ len ∧ x = .int .i64 k ∧ Hid (Two wr B ab bb lg va vb la lb (k : Int) (k : Int) (List.replicate N 0)) ∧ Hid (la.length = k ∧ lb.length = k ∧ (la.map w7).Perm (lb.map w7) ∧ Turns zs la ∧ (∀ y, y ∈ la → y.n < k) ∧ ∀ y, y ∈ lb → y.w = 7) ∧ Hid (Fr [] w wr)) (fun x _ => len - (intOf x).toNat)
  case atStart => exact ⟨0, _, _, [], [], by omega, rfl, T3, Lib.hid ⟨rfl, rfl, List.Perm.refl _, ⟨by simp, by simp⟩, by simp, by simp⟩, F3⟩
  case round =>
    obtain ⟨k, va, vb, la, lb, hk, rfl, T, J, F⟩ := hrel
    clear T3 F3
    by_cases hlt : k < len
    · have hr := HN.out.2.2.2.2
      rcases hr with hr | ⟨ib, io, rfl, _, _⟩
      · omega
      have d0 := int_cell HN.out F.out k hlt
      have hwz : Hid (zs[k]? = some (zs[k]?.getD 0)) := Lib.hid (by rw [List.getElem?_eq_getElem (by rw [HL.out]; exact hlt)]; rfl)
      obtain ⟨z, hz⟩ : ∃ z, z = zs[k]?.getD 0 := ⟨_, rfl⟩
      rw [← hz] at d0 hwz
      clear hz
      have CA := Lib.hid (add_c wr B ab va la (k : Int) T.out.a (by rw [HB.out]; exact F.out.size) (by have := J.out.1; omega) (by omega) (by omega) z (k : Int))
      go_wp2_with fail
      refine CA.out.mono ?_
      rintro e w4 ⟨rfl, va', la', pa, hA', oa, hF4⟩
      have T4 := Lib.hid (T.out.stepA hA' oa hF4)
      have F4 : Hid (Fr [] w w4) := Lib.hid (F.out.trans hF4 (fun x hx => .inr (by rw [← HB.out]; exact T.out.own.1 x hx)))
      have PA := Lib.hid pa
      clear hA' oa hF4 pa CA
      have CB := Lib.hid (add_c w4 B bb vb lb (k : Int) T4.out.b (by rw [HB.out]; exact F4.out.size) (by have := J.out.2.1; omega) (by omega) (by omega) z 7)
      go_wp2_with fail
      refine CB.out.mono ?_
      rintro e w5 ⟨rfl, vb', lb', pb, hB', ob, hF5⟩
      have T5 : Hid (Two w5 B ab bb lg va' vb' la' lb' ((k + 1 : Nat) : Int) ((k + 1 : Nat) : Int) (List.replicate N 0)) := Lib.hid (by
        rw [show (((k + 1 : Nat) : Int)) = (k : Int) + 1 by omega]; exact T4.out.stepB hB' ob hF5)
      have F5 : Hid (Fr [] w w5) := Lib.hid (F4.out.trans hF5 (fun x hx => .inr (by rw [← HB.out]; exact T4.out.own.2 x hx)))
      have J5 : Hid (la'.length = k + 1 ∧ lb'.length = k + 1 ∧ (la'.map w7).Perm (lb'.map w7) ∧ Turns zs la' ∧ (∀ y, y ∈ la' → y.n < ((k + 1 : Nat) : Int)) ∧ ∀ y, y ∈ lb' → y.w = 7) := Lib.hid (by
        obtain ⟨t0, t1, t2, t3, t4, t5⟩ := J.out
        have hp := PA.out
        refine ⟨by rw [hp.length_eq]; simp [t0], by rw [pb.length_eq]; simp [t1], ?_, Turns.perm (l := ⟨z, k, k⟩ :: la) ?_ hp.symm, fun y hy => ?_, fun y hy => ?_⟩
        · exact (hp.map w7).trans (((t2.cons (w7 ⟨z, k, k⟩))).trans (pb.map w7).symm)
        · refine ⟨?_, ?_⟩
          · simp only [List.map_cons, List.nodup_cons]
            refine ⟨fun hm => ?_, t3.nd⟩
            obtain ⟨y, hy, he⟩ := List.mem_map.1 hm
            have := t4 y hy; omega
          · intro y hy
            simp only [List.mem_cons] at hy
            rcases hy with rfl | hy
            · exact ⟨by simp, rfl, by simp [HL.out]; exact hlt, by simpa using hwz.out⟩
            · exact t3.ok y hy
        · have hm := hp.mem_iff.1 hy
          simp only [List.mem_cons] at hm
          rcases hm with rfl | hm
          · simp; omega
          · have := t4 y hm; omega
        · have hm := pb.mem_iff.1 hy
          simp only [List.mem_cons] at hm
          rcases hm with rfl | hm
          · rfl
          · exact t5 y hm)
      clear hB' ob hF5 pb CB PA T4 F4 T J F
      go_wp2
      go_roundw
      case rel => exact ⟨k + 1, va', vb', la', lb', by omega, by go_num, T5, J5, F5⟩
      case measure => simp [intOf]; omega
    · have hkl : k = len := by omega
      subst hkl
      have T0 : Hid (Two wr B ab bb lg va vb la lb (k : Int) (k : Int) (List.replicate 0 7 ++ List.replicate (N - 0) 0)) := Lib.hid (by simpa using T.out)
      clear hlt T
      go_wp2
      go_loopw [55] (fun x wr => ∃ j : Nat, j ≤ N ∧ x = .int .i64 j ∧ Hid (Two wr B ab bb lg va vb la lb (k : Int) (k : Int) (List.replicate j 7 ++ List.replicate (N - j) 0)) ∧ Hid (Fr [] w wr)) (fun x _ => N - (intOf x).toNat)
      case atStart => exact ⟨0, by omega, rfl, T0, F⟩
      case round =>
        obtain ⟨j, hj, rfl, T, F⟩ := hrel
        clear T0
        by_cases hlt : j < N
        · have d0 := word_cell T.out.l j (by simp; omega)
          have f0 := free_of T.out.l (i := j)
          have T2 : Hid (Two (wr.setCell ⟨lg, j, none⟩ (.int .u64 7)) B ab bb lg va vb la lb (k : Int) (k : Int) (List.replicate (j + 1) 7 ++ List.replicate (N - (j + 1)) 0)) := Lib.hid (by
            have := T.out.stepL j 7
            rwa [rep_set j N hlt] at this)
          have F2 : Hid (Fr [] w (wr.setCell ⟨lg, j, none⟩ (.int .u64 7))) := Lib.hid (F.out.setCell (.inr hlg.out) _)
          obtain ⟨y, hy⟩ : ∃ y, y = (List.replicate j (7 : Int) ++ List.replicate (N - j) 0)[j]?.getD 0 := ⟨_, rfl⟩
          rw [← hy] at d0
          clear hy T
          go_wp2
          go_roundw
          case rel => exact ⟨j + 1, by omega, by go_num, T2, F2⟩
          case measure => simp [intOf]; omega
        · have hjn : j = N := by omega
          have T2 : Hid (Two wr B ab bb lg va vb la lb (k : Int) (k : Int) (List.replicate N 7)) := Lib.hid (by
            have := T.out
            rw [hjn, Nat.sub_self] at this
            simpa using this)
          subst hjn
          clear T
          by_cases hq : q = 0
          · have hjk : Hid (j = k) := Lib.hid (by rw [HQ.out, hq]; rfl)
            have hq0 : ((q : Int) == 0) = true := by simp; omega
            have CP := Lib.hid (put_c wr B ab va la (k : Int) T2.out.a (by rw [HB.out]; exact F.out.size) (by have := J.out.1; omega) (some ⟨lg, 0, none⟩) j j (List.replicate j 7) (.inr ⟨lg, 0, rfl, lt_size T2.out.l, fun i hi => by rw [Nat.zero_add]; exact word_cell T2.out.l i hi⟩) (by simp) (by rw [J.out.1, hjk.out]))
            clear hq
            go_wp2_with fail
            refine CP.out.mono ?_
            rintro e w6 ⟨rfl, v', l1, p1, s1, hA', hob, hF6⟩
            have hl1 : l1.length = j := by rw [p1.length_eq, J.out.1, hjk.out]
            rw [setW_7 l1 j hl1] at hA'
            have T6 := Lib.hid (T2.out.stepA hA' (.inr hob) (hF6.mono (fun x hx => .inl (by simp at hx; simp [hx]))))
            have F6 : Hid (Fr [] w w6) := Lib.hid (F.out.trans hF6 (fun x hx => .inr (by simp at hx; subst hx; rw [← HB.out]; exact T2.out.own.1 x (by simp))))
            have J6 : Hid ((l1.map w7).length = k - 0 ∧ ((l1.map w7).map w7).Perm (lb.map w7) ∧ lb.length = k - 0 ∧ (∀ y, y ∈ l1.map w7 → y.w = 7) ∧ ∀ y, y ∈ lb → y.w = 7) := Lib.hid (by
              obtain ⟨t0, t1, t2, t3, t4, t5⟩ := J.out
              have e : (l1.map w7).map w7 = l1.map w7 := by rw [List.map_map]; rfl
              refine ⟨by rw [List.length_map, hl1, hjk.out]; rfl, by rw [e]; exact (p1.map w7).trans t2, t1, fun y hy => ?_, t5⟩
              obtain ⟨x, _, rfl⟩ := List.mem_map.1 hy
              rfl)
            have hq1 : ¬ (0 : Int) < (q : Int) := by have := hq0; simp at this; omega
            generalize l1.map w7 = la2 at *
            clear hA' hob hF6 CP T2 F J p1 s1 hl1 hjk
            go_wp2
            go_loopw [70] (fun x wr => ∃ (i : Nat) (va vb : Value) (la lb : List E3), i ≤ k ∧ x = .int .i64 i ∧ Hid (Two wr B ab bb lg va vb la lb (k : Int) (k : Int) (List.replicate j 7)) ∧ Hid (la.length = k - i ∧ (la.map w7).Perm (lb.map w7) ∧ lb.length = k - i ∧ (∀ y, y ∈ la → y.w = 7) ∧ ∀ y, y ∈ lb → y.w = 7) ∧ Hid (Fr [] w wr)) (fun x _ => k - (intOf x).toNat)
            case atStart => exact ⟨0, _, _, la2, lb, by omega, rfl, T6, J6, F6⟩
            case round =>
              obtain ⟨i, va, vb, la, lb, hi, rfl, T, J, F⟩ := hrel
              clear T6 J6 F6
              by_cases hlt : i < k
              · have CA := Lib.hid (next_c wr B ab va la (k : Int) T.out.a (k - i - 1) (by rw [J.out.1]; omega) (by omega))
                go_wp2_with fail
                refine CA.out.mono ?_
                rintro e w7' ⟨rfl, va', la', pa, hA', oa, hF7⟩
                have T7 := Lib.hid (T.out.stepA hA' (.inl oa.symm) hF7)
                have F7 : Hid (Fr [] w w7') := Lib.hid (F.out.trans hF7 (fun x hx => .inr (by rw [← HB.out]; exact T.out.own.1 x hx)))
                have PA := Lib.hid pa
                clear hA' oa hF7 pa CA
                have CB := Lib.hid (next_c w7' B bb vb lb (k : Int) T7.out.b (k - i - 1) (by rw [J.out.2.2.1]; omega) (by omega))
                have FS := Lib.hid (first_same J.out.2.1 T.out.a.hp T.out.b.hp (by rw [J.out.1]; omega) (by rw [J.out.2.2.1]; omega))
                have XA := Lib.hid (J.out.2.2.2.1 _ (nth_mem la 0 (by rw [J.out.1]; omega)))
                have XB := Lib.hid (J.out.2.2.2.2 _ (nth_mem lb 0 (by rw [J.out.2.2.1]; omega)))
                rw [XA.out]
                go_wp2_with fail
                refine CB.out.mono ?_
                rintro e w8 ⟨rfl, vb', lb', pb, hB', ob, hF8⟩
                have T8 := Lib.hid (T7.out.stepB hB' (.inl ob.symm) hF8)
                have F8 : Hid (Fr [] w w8) := Lib.hid (F7.out.trans hF8 (fun x hx => .inr (by rw [← HB.out]; exact T7.out.own.2 x hx)))
                have J8 : Hid (la'.length = k - (i + 1) ∧ (la'.map w7).Perm (lb'.map w7) ∧ lb'.length = k - (i + 1) ∧ (∀ y, y ∈ la' → y.w = 7) ∧ ∀ y, y ∈ lb' → y.w = 7) := Lib.hid (by
                  obtain ⟨t0, t1, t2, t3, t4⟩ := J.out
                  have e1 := PA.out.length_eq
                  have e2 := pb.length_eq
                  simp at e1 e2
                  exact ⟨by omega, rest_same t1 PA.out pb FS.out.1 FS.out.2, by omega, fun y hy => t3 y (PA.out.mem_iff.2 (List.mem_cons_of_mem _ hy)), fun y hy => t4 y (pb.mem_iff.2 (List.mem_cons_of_mem _ hy))⟩)
                rw [XB.out, ← FS.out.1]
                obtain ⟨t, ht⟩ : ∃ t, t = (nth la 0).t := ⟨_, rfl⟩
                rw [← ht]
                clear ht hB' ob hF8 pb CB PA T7 F7 T J F FS XA XB
                go_wp2
                go_roundw
                case rel => exact ⟨i + 1, va', vb', la', lb', by omega, by go_num, T8, J8, F8⟩
                case measure => simp [intOf]; omega
              · have hl0 : la = [] := List.eq_nil_of_length_eq_zero (by have := J.out.1; omega)
                subst hl0
                have CG := Lib.hid (glen_c wr B ab va [] _ T.out.a)
                clear T J
                go_wp2_with fail
                refine CG.out.mono ?_
                rintro e w' ⟨rfl, rfl⟩
                go_wp2
                go_ret
                exact ⟨rfl, F.out.below⟩
          · have hq0 : ((q : Int) == 0) = false := by simp; omega
            have hq1 : (0 : Int) < (q : Int) := by omega
            have CP := Lib.hid (put_no wr B ab va la (k : Int) T2.out.a (some ⟨lg, 0, none⟩) j j (by rw [J.out.1, HQ.out]; omega))
            clear hq
            go_wp2_with fail
            refine CP.out.mono ?_
            rintro e w6 ⟨rfl, rfl⟩
            have J6 : Hid (la.length = k - 0 ∧ (la.map w7).Perm (lb.map w7) ∧ lb.length = k - 0 ∧ Turns zs la) := Lib.hid ⟨J.out.1, J.out.2.2.1, J.out.2.1, J.out.2.2.2.1⟩
            clear CP J
            go_wp2
            go_loopw [70] (fun x wr => ∃ (i : Nat) (va vb : Value) (la lb : List E3), i ≤ k ∧ x = .int .i64 i ∧ Hid (Two wr B ab bb lg va vb la lb (k : Int) (k : Int) (List.replicate j 7)) ∧ Hid (la.length = k - i ∧ (la.map w7).Perm (lb.map w7) ∧ lb.length = k - i ∧ Turns zs la) ∧ Hid (Fr [] w wr)) (fun x _ => k - (intOf x).toNat)
            case atStart => exact ⟨0, _, _, la, lb, by omega, rfl, T2, J6, F⟩
            case round =>
              obtain ⟨i, va, vb, la, lb, hi, rfl, T, J, F⟩ := hrel
              clear T2 J6
              by_cases hlt : i < k
              · have hr := HN.out.2.2.2.2
                rcases hr with hr | ⟨ib, io, rfl, _, _⟩
                · omega
                have CA := Lib.hid (next_c wr B ab va la (k : Int) T.out.a (k - i - 1) (by rw [J.out.1]; omega) (by omega))
                go_wp2_with fail
                refine CA.out.mono ?_
                rintro e w7' ⟨rfl, va', la', pa, hA', oa, hF7⟩
                have T7 := Lib.hid (T.out.stepA hA' (.inl oa.symm) hF7)
                have F7 : Hid (Fr [] w w7') := Lib.hid (F.out.trans hF7 (fun x hx => .inr (by rw [← HB.out]; exact T.out.own.1 x hx)))
                have PA := Lib.hid pa
                clear hA' oa hF7 pa CA
                have CB := Lib.hid (next_c w7' B bb vb lb (k : Int) T7.out.b (k - i - 1) (by rw [J.out.2.2.1]; omega) (by omega))
                have FS := Lib.hid (first_same J.out.2.1 T.out.a.hp T.out.b.hp (by rw [J.out.1]; omega) (by rw [J.out.2.2.1]; omega))
                obtain ⟨o1, o2, o3, o4⟩ := J.out.2.2.2.ok _ (nth_mem la 0 (by rw [J.out.1]; omega))
                obtain ⟨m, hm⟩ : ∃ m : Nat, (nth la 0).n = m := ⟨(nth la 0).n.toNat, by omega⟩
                rw [hm] at o1 o3 o4 o2
                rw [HL.out] at o3
                simp only [Int.toNat_natCast] at o4
                have OM : Hid (zs[m]? = some (nth la 0).t ∧ (m : Int) < (k : Int)) := Lib.hid ⟨o4, o3⟩
                rw [o2]
                clear o1 o2 o3 o4 hm
                go_wp2_with fail
                refine CB.out.mono ?_
                rintro e w8 ⟨rfl, vb', lb', pb, hB', ob, hF8⟩
                have T8 := Lib.hid (T7.out.stepB hB' (.inl ob.symm) hF8)
                have F8 : Hid (Fr [] w w8) := Lib.hid (F7.out.trans hF8 (fun x hx => .inr (by rw [← HB.out]; exact T7.out.own.2 x hx)))
                have J8 : Hid (la'.length = k - (i + 1) ∧ (la'.map w7).Perm (lb'.map w7) ∧ lb'.length = k - (i + 1) ∧ Turns zs la') := Lib.hid (by
                  obtain ⟨t0, t1, t2, t3⟩ := J.out
                  have e1 := PA.out.length_eq
                  have e2 := pb.length_eq
                  simp at e1 e2
                  exact ⟨by omega, rest_same t1 PA.out pb FS.out.1 FS.out.2, by omega, (t3.perm PA.out).tail.1⟩)
                have d0 := int_cell HN.out F8.out m (by have := OM.out.2; omega)
                rw [OM.out.1] at d0
                simp only [Option.getD_some] at d0
                have q1 : (m : Int) < (k : Int) := OM.out.2
                have q2 : m < k := by omega
                rw [← FS.out.1]
                obtain ⟨t, ht⟩ : ∃ t, t = (nth la 0).t := ⟨_, rfl⟩
                rw [← ht] at d0 ⊢
                obtain ⟨wy, hwy⟩ : ∃ y, y = (nth lb 0).w := ⟨_, rfl⟩
                rw [← hwy]
                clear ht hwy hB' ob hF8 pb CB PA T7 F7 T J F FS OM
                go_wp2
                go_roundw
                case rel => exact ⟨i + 1, va', vb', la', lb', by omega, by go_num, T8, J8, F8⟩
                case measure => simp [intOf]; omega
              · have hl0 : la = [] := List.eq_nil_of_length_eq_zero (by have := J.out.1; omega)
                subst hl0
                have CG := Lib.hid (glen_c wr B ab va [] _ T.out.a)
                clear T J
                go_wp2_with fail
                refine CG.out.mono ?_
                rintro e w' ⟨rfl, rfl⟩
                go_wp2
                go_ret
                exact ⟨rfl, F.out.below⟩
theorem own : ownKnob Try.prog.godebug = none := by kernel_rfl
theorem laidOut : laidOutB Try.prog = true := by kernel_rfl
set_option maxRecDepth 100000 in
theorem lifted (os : Os) (started : os.Started) (H : Type) (enc : TypeId × Value → H) :
    ReturnsInHanded {} Try.checked os 3 .any (Rows.agendaPutSpec.pre6 enc Try.prog Try.f3 Rows.agendaPutRow.domain false) (Rows.agendaPutSpec.post enc Try.prog Try.f3 false true false false) := by
  refine returnsInHanded_of_change (C := Try.checked) own started (by kernel_rfl) Try.func3
    (ChangeSpec.witness6 (enc := enc) (C := Try.checked) false ⟨#[], #[.slice none 0 0, .int .i64 0], []⟩ 8 (by kernel_rfl) (by kernel_rfl) (by kernel_rfl) (by kernel_rfl)) ?_
  intro W base args ds gs before hval0 hW hcnd _
  have hval : ∀ (j : Nat) t v, Try.f3.params[j]? = some t → args[j]? = some v → Value.okWide Try.prog W .any base t v := hval0
  have hW' := hW
  obtain ⟨p, q, hA0, hV, rfl, hfz, hnd⟩ := hW
  have hA : DataW.TrodAll enc Try.prog W 0 (fun _ => true) true Try.f3.params.toList args.toList ds p := hA0
  rw [Try.params3] at hA hval
  obtain ⟨v0, vs0, d0, ds0, p0, q0, hargs, rfl, rfl, h0, r0⟩ := trodAll_cons hA
  obtain ⟨v1, vs1, d1, ds1, p1, q1, rfl, rfl, rfl, h1, r1⟩ := trodAll_cons r0
  obtain ⟨rfl, rfl, rfl⟩ := trodAll_nil r1
  obtain rfl : args = #[v0, v1] := by cases args; simp_all
  obtain ⟨rfl, rfl⟩ := trodVars_none hV
  obtain ⟨a0, len0, cap0, rfl⟩ := okWide_slice Try.underlying22 (hval 0 22 v0 rfl rfl)
  have k0 := h0
  have lt0 : ∀ x ∈ p0, x.block < W.heap.size := by obtain ⟨m, hm⟩ := k0; exact DataW.trod_lt m _ _ _ hm
  obtain ⟨z0, w0⟩ := opener h0
  obtain ⟨a1, rfl, rfl, rfl, w1⟩ := open_int Try.underlying3 (hval 1 3 v1 rfl rfl) h1
  clear hA0 hval0
  refine (walk a0 len0 cap0 z0 a1 W w0 w1).mono fun e W' ⟨he, bel⟩ => ?_
  subst he
  exact ⟨_, rfl, _, _, _, [], _, [], hW', trodAll_mk1 (shut_bool Try.underlying4 _), (trodAll_cons_mk (Below.trod laidOut (by kernel_rfl) (of_decide_eq_true (by kernel_rfl)) k0 bel lt0) (trodAll_cons_mk (shut_int Try.underlying3 w1) trodAll_mk0)), rfl, bel.frame _, fun h => by cases h⟩
theorem over : Rows.agendaPutRow.holds Try.pinned (OpenSpec.ofChange Rows.agendaPutSpec) :=
  OpenClaim.holds_of_wide 3 Try.f3 rfl rfl rfl rfl rfl rfl rfl ⟨rfl, rfl, rfl, rfl, rfl⟩ rfl rfl rfl rfl rfl (by kernel_rfl) Try.func3 (by kernel_rfl)
    (of_decide_eq_true (by kernel_rfl)) (by unfold Func.isWrapper; first | (rw [if_pos (by decide +kernel)]; kernel_rfl) | (rw [if_neg (by decide +kernel)]; exact ⟨rfl, rfl⟩))
    (fun os started H enc _ => lifted os started H enc)
/-- THE STATEMENT -/
theorem proved : Rows.AgendaPutSaid := over
#print axioms proved
end Go.Proofs.Ytdaoaddpbibnmaa.agendaPut
