/- Collecting: the blocks that are cleared are chosen. -/
import Derived.Test.YtjgndfhfiekomaaColA
import Derived.Test.YtjgndfhfiekomaaHeapG
import Derived.Test.YtjgndfhfiekomaaArgs
set_option linter.all false
namespace Go.Proofs.Ytjgndfhfiekomaa
open Go.ChangeShapes Go.WideShapes Go.RowKit Go.Maps
variable {w w' : World} {mb n : Nat} {cl : Int → Int} {hb b wb lb : Nat} {A : Ar} {m : Nat}
theorem own_map_fr {S : List Nat} {D : DataW Unit} (h : w.ownsMap Try.prog 3 (plainElem Try.prog 3) mb n D) (hF : Fr S w w') (hS : mb ∉ S) : w'.ownsMap Try.prog 3 (plainElem Try.prog 3) mb n D := by
  obtain ⟨es, clock, hb, r⟩ := h
  have hl : mb < w.heap.size := by
    rcases Nat.lt_or_ge mb w.heap.size with h | h
    · exact h
    · rw [Array.getElem?_eq_none h] at hb; cases hb
  exact ⟨es, clock, (hF.block mb hl hS).trans hb, r⟩
theorem map_ne {D : DataW Unit} {tb i : Nat} {u : Value} (h : w.cell? ⟨tb, i, none⟩ = some u) (hm : w.ownsMap Try.prog 3 (plainElem Try.prog 3) mb n D) : tb ≠ mb := by
  rintro rfl
  obtain ⟨es, clock, hb, _⟩ := hm
  unfold World.cell? at h
  rw [hb] at h
  simp at h
theorem cell_fr {S : List Nat} {tb i : Nat} {u : Value} (h : w.cell? ⟨tb, i, none⟩ = some u) (hF : Fr S w w') (hS : tb ∉ S) : w'.cell? ⟨tb, i, none⟩ = some u := by
  rw [← h]
  exact World.cell?_of_block (w := w) (hF.block tb (addr_none h).2 hS)
theorem nth_mem {α : Type} [Inhabited α] (l : List α) (i : Nat) (h : i < l.length) : nth l i ∈ l := by
  unfold nth
  rw [List.getElem?_eq_getElem h]
  exact List.getElem_mem h
/-- The queue in memory: what it has of the first k blocks. -/
structure QAt (w wr : World) (v : Value) (l : List C2) (k : Nat) : Prop where
  p : blk wr (w.heap.size + 1) = some (.cells #[v] 185 (0, 0))
  en : EnAt wr w.heap.size v l
  ne : v.ownBlock ≠ some (w.heap.size + 1)
  hp : HeapF ltE (nth l) l.length
  len : l.length ≤ k
  mem : ∀ y, y ∈ l → 0 ≤ y.b ∧ y.b < 4096 ∧ 0 < y.f ∧ y.f < 16
theorem QAt.fr {S : List Nat} {wr wr' : World} {v : Value} {l : List C2} {k : Nat} (h : QAt w wr v l k) (hF : Fr S wr wr') (h1 : w.heap.size + 1 ∉ S) (h2 : ∀ x, v.ownBlock = some x → x ∉ S) : QAt w wr' v l k :=
  ⟨hF.at h.p h1, own_fr h.en hF h2, h.ne, h.hp, h.len, h.mem⟩
theorem QAt.more {wr : World} {v : Value} {l : List C2} {k : Nat} (h : QAt w wr v l k) : QAt w wr v l (k + 1) := ⟨h.p, h.en, h.ne, h.hp, by have := h.len; omega, h.mem⟩
theorem own_ge {w : World} {B : Nat} {v : Value} {l : List C2} (h : EnAt w B v l) : ∀ x, x ∈ v.ownBlock.toList → B ≤ x := by
  intro x hx
  rcases h.2 with ⟨hv, _⟩ | ⟨g, cap, cur, hv, hb, _⟩
  · subst hv; simp [Value.ownBlock] at hx
  · subst hv; simp [Value.ownBlock] at hx; omega
theorem QAt.pushed {wr wr' : World} {v : Value} {l : List C2} {k : Nat} {e : Ending} (h : QAt w wr v l k) (b0 b1 : Int) (h0 : 0 ≤ b0 ∧ b0 < 4096) (h1 : 0 < b1 ∧ b1 < 16) (hd : PushDone wr w.heap.size (w.heap.size + 1) #[v] 185 v l ⟨b0, b1⟩ e wr') :
    ∃ v' l', QAt w wr' v' l' (k + 1) ∧ Fr ((w.heap.size + 1) :: v.ownBlock.toList) wr wr' := by
  obtain ⟨rfl, g, cap, l', hp, hh, hat, hg, hF⟩ := hd
  have hl : l'.length = l.length + 1 := hp.length_eq
  refine ⟨_, l', ⟨hat.p, by have := hat.en; rwa [hl] at this, by simpa [Value.ownBlock] using hat.ne, by rw [hl]; exact hh, by rw [hl]; have := h.len; omega, ?_⟩, hF⟩
  intro z hz
  rcases List.mem_cons.1 (hp.mem_iff.1 hz) with rfl | hz
  · exact ⟨h0.1, h0.2, h1.1, h1.2⟩
  · exact h.mem z hz
set_option maxRecDepth 100000 in
set_option maxHeartbeats 2000000 in
theorem choose_c (w : World) (tb : Nat) (c0 : w.cell? ⟨tb, 0, none⟩ = some (.pointer (some ⟨hb, 0, none⟩))) (c1 : w.cell? ⟨tb, 1, none⟩ = some (.map (some mb))) (hH : HeAt w hb b wb lb A) (ok : A.Ok m) (hC : ClAt w mb 0 cl) (many : Int) :
    Calls Try.prog 87 #[.pointer (some ⟨tb, 0, none⟩), .int .i64 many] w fun e w' => e = .returned (.tuple #[]) ∧ (∃ cl n, ClAt w' mb n cl) ∧ Fr [mb] w w' := by
  have CB := Lib.hid (oarena_c w hH)
  have HH := Lib.hid hH
  have OK := Lib.hid ok
  have HC := Lib.hid hC
  have m1 := ok.m1
  have m2 := ok.m2
  clear hH ok hC
  go_enter Try.func87, Try.ntmps87
  go_wp2_with fail
  refine CB.out.mono ?_
  rintro e w' ⟨rfl, rfl⟩
  have F0 : Hid (Fr [] w ((w.alloc (.cells #[] 188)).alloc (.cells #[.slice (some ⟨w.heap.size, 0, none⟩) 0 0] 185))) := Lib.hid (((Fr.refl _ _).alloc _).alloc _)
  have Q0 : Hid (QAt w ((w.alloc (.cells #[] 188)).alloc (.cells #[.slice (some ⟨w.heap.size, 0, none⟩) 0 0] 185)) (.slice (some ⟨w.heap.size, 0, none⟩) 0 0) [] 0) := Lib.hid (by
    refine ⟨by rw [blk_alloc, if_pos (by rw [size_alloc])], ?_, by simp [Value.ownBlock], fun c h0 hc => by simp at hc, by simp, fun y hy => by simp at hy⟩
    exact own_mk (cur := #[]) (by rw [blk_alloc, if_neg (by rw [size_alloc]; omega), blk_alloc, if_pos rfl]) (Nat.le_refl _) (Nat.le_refl _) (by unfold maxLen; omega) rfl rfl)
  go_wp2_with fail
  refine (blocks_c _ (HH.out.keep F0.out).ar OK.out).mono ?_
  rintro e w' ⟨rfl, rfl⟩
  go_wp2_with fail
  go_loopw [19] (fun x wr => ∃ (k : Nat) (v : Value) (l : List C2), k ≤ m ∧ x = .int .i64 k ∧ Hid (QAt w wr v l k) ∧ Hid (Fr [] w wr)) (fun x _ => m - (intOf x).toNat)
  case atStart => exact ⟨0, _, [], by omega, rfl, Q0, F0⟩
  case round =>
    obtain ⟨k, v, l, hk, rfl, Q, F⟩ := hrel
    clear Q0 F0
    by_cases hlt : k < m
    · have CF := Lib.hid (free_yes wr (HH.out.keep F.out).ar OK.out k hlt)
      obtain ⟨fr, hfr⟩ : ∃ fr, fr = freeOf A.lines k := ⟨_, rfl⟩
      rw [← hfr] at CF
      clear hfr
      by_cases h0 : 0 < fr
      · by_cases h16 : fr < 16
        · have hb0 : (0 : Int) < (fr : Int) := by omega
          have hb1 : (fr : Int) < 16 := by omega
          have hs : w.heap.size ≤ wr.heap.size := F.out.size
          go_wp2_with fail
          refine CF.out.mono ?_
          rintro e w1 ⟨rfl, F1⟩
          have Q1 := Lib.hid (Q.out.fr F1 (by simp) (by simp))
          have F1 := Lib.hid (F.out.trans F1 (by simp))
          have CP := Lib.hid (hpush_c w1 Q1.out.p rfl Q1.out.en Q1.out.ne F1.out.size (by have := Q1.out.len; omega) Q1.out.hp ⟨k, fr⟩)
          clear CF Q F
          go_wp2_with fail
          refine CP.out.mono ?_
          rintro e w2 hd
          have he := hd.1
          obtain ⟨v', l', Q2, F2⟩ := Q1.out.pushed k fr (by omega) (by omega) hd
          subst he
          have Q2 := Lib.hid Q2
          have F2 : Hid (Fr [] w w2) := Lib.hid (F1.out.trans F2 (by
            intro x hx
            right
            rcases List.mem_cons.1 hx with rfl | hx
            · omega
            · exact own_ge Q1.out.en x hx))
          clear hd CP Q1 F1
          go_wp2
          go_roundw
          case rel => exact ⟨k + 1, v', l', by omega, by go_num, Q2, F2⟩
          case measure => simp [intOf]; omega
        · have hb0 : (0 : Int) < (fr : Int) := by omega
          have hb1 : ¬ (fr : Int) < 16 := by omega
          go_wp2_with fail
          refine CF.out.mono ?_
          rintro e w1 ⟨rfl, F1⟩
          have Q1 := Lib.hid (Q.out.fr F1 (by simp) (by simp)).more
          have F1 := Lib.hid (F.out.trans F1 (by simp))
          clear CF Q F
          go_wp2
          go_roundw
          case rel => exact ⟨k + 1, v, l, by omega, by go_num, Q1, F1⟩
          case measure => simp [intOf]; omega
      · have hb0 : ¬ (0 : Int) < (fr : Int) := by omega
        go_wp2_with fail
        refine CF.out.mono ?_
        rintro e w1 ⟨rfl, F1⟩
        have Q1 := Lib.hid (Q.out.fr F1 (by simp) (by simp)).more
        have F1 := Lib.hid (F.out.trans F1 (by simp))
        clear CF Q F
        go_wp2
        go_roundw
        case rel => exact ⟨k + 1, v, l, by omega, by go_num, Q1, F1⟩
        case measure => simp [intOf]; omega
    · have hkm : k = m := by omega
      subst hkm
      clear hlt
      obtain ⟨D0, hD0, _⟩ := HC.out
      have HD0 : Hid (wr.ownsMap Try.prog 3 (plainElem Try.prog 3) mb 0 D0) := Lib.hid (own_map_fr hD0 F.out (by simp))
      have hC1 : Hid (∀ w', Fr [mb] w w' → w'.cell? ⟨tb, 1, none⟩ = some (.map (some mb))) := Lib.hid (fun w' hF => cell_fr c1 hF (by simpa using map_ne c1 hD0))
      have hmb : Hid (mb < w.heap.size) := Lib.hid hD0.lt
      have F2 : Hid (Fr [mb] w wr) := Lib.hid (F.out.mono (by simp))
      clear CB HC hD0 F c0 c1
      go_wp2_with fail
      go_loopg [39] l.length (fun j _ wr => ∃ (v : Value) (l : List C2) (D : DataW Unit) (n : Nat), l.length = j ∧ n + j ≤ k ∧ Hid (QAt w wr v l k) ∧ Hid (wr.ownsMap Try.prog 3 (plainElem Try.prog 3) mb n D) ∧ Hid (Fr [mb] w wr))
      case atStart => exact ⟨v, l, D0, 0, rfl, by have := Q.out.len; omega, Q, HD0, F2⟩
      case round =>
        obtain ⟨v, l, D, n, rfl, hn, Q, HD, F⟩ := hrel
        clear F2 HD0
        have d1 := hC1.out _ F.out
        obtain ⟨z, hz⟩ : ∃ z : Int, z = Maps.size D := ⟨_, rfl⟩
        have FIN : Hid ((∃ cl n, ClAt wr mb n cl) ∧ Fr [mb] w wr) := Lib.hid ⟨by obtain ⟨cl, h⟩ := ClAt.of HD.out; exact ⟨cl, n, h⟩, F.out⟩
        by_cases hm : z < many
        · obtain ⟨va, vc, rfl⟩ : ∃ va vc, v = .slice va l.length vc := by
            rcases Q.out.en.2 with ⟨hv, h0⟩ | ⟨g, cap, cur, hv, _⟩
            · exact ⟨none, 0, by rw [hv, h0]⟩
            · exact ⟨_, cap, hv⟩
          have d2 : wr.cell? ⟨w.heap.size + 1, 0, none⟩ = some (.slice va l.length vc) := cell_of Q.out.p rfl
          by_cases hl : l.length = 0
          · have hl0 : ¬ (0 : Int) < (l.length : Int) := by omega
            go_wp2_with (first | (at_len; refine wpList_len_own _ rfl _ 133 rfl 3 3 Try.underlying133 _ mb n D rfl HD.out ?_; rw [← hz]) | (go_at_call 133; refine (len_c _ _ _ _).mono ?_; rintro e w' ⟨rfl, rfl⟩))
            go_end0
            exact ⟨rfl, FIN.out⟩
          · obtain ⟨q, hq⟩ : ∃ q, l.length = q + 1 := ⟨l.length - 1, by omega⟩
            obtain ⟨g, cap, hv, hg1, hg2⟩ := Q.out.en.form (by omega)
            simp only [Value.slice.injEq] at hv
            obtain ⟨rfl, _, rfl⟩ := hv
            have hne : g ≠ w.heap.size + 1 := by have := Q.out.ne; simpa [Value.ownBlock] using this
            have HPA : HpAt wr w.heap.size (w.heap.size + 1) #[.slice (some ⟨g, 0, none⟩) l.length vc] 185 g vc l := ⟨Q.out.p, rfl, Q.out.en, hne⟩
            have CP := Lib.hid (hpop_c wr q hq HPA (by have := Q.out.hp; rwa [hq] at this) (by omega))
            have hM := Lib.hid (Q.out.mem _ (nth_mem l 0 (by omega)))
            have hl0 : (0 : Int) < (l.length : Int) := by omega
            have TA := fun w1 => assert_entry w1 (nth l 0).b (nth l 0).f
            clear HPA
            go_wp2_with (first | (at_len; refine wpList_len_own _ rfl _ 133 rfl 3 3 Try.underlying133 _ mb n D rfl HD.out ?_; rw [← hz]) | (go_at_call 133; refine (len_c _ _ _ _).mono ?_; rintro e w' ⟨rfl, rfl⟩))
            refine CP.out.mono ?_
            rintro e w3 ⟨rfl, l', hp, hh, hat, hF3⟩
            have hl' : l'.length = q := by have := hp.length_eq; simp at this; omega
            have Q3 : Hid (QAt w w3 (.slice (some ⟨g, 0, none⟩) q vc) l' k) := Lib.hid ⟨hat.p, by have := hat.en; rwa [hl'] at this, by simpa [Value.ownBlock] using hat.ne, by rw [hl']; exact hh, by have := Q.out.len; omega, fun y hy => Q.out.mem y (hp.mem_iff.2 (List.mem_cons_of_mem _ hy))⟩
            have F3 : Hid (Fr [mb] w w3) := Lib.hid (F.out.trans hF3 (fun x hx => by
              right
              simp only [List.mem_cons, List.not_mem_nil, or_false] at hx
              rcases hx with rfl | rfl
              · omega
              · exact hg1))
            have HD3 : Hid (w3.ownsMap Try.prog 3 (plainElem Try.prog 3) mb n D) := Lib.hid (own_map_fr HD.out hF3 (by
              have := hmb.out
              simp only [List.mem_cons, List.not_mem_nil, or_false, not_or]
              exact ⟨by omega, by omega⟩))
            have HL := Lib.hid hl'
            have d3 := hC1.out _ F3.out
            obtain ⟨x, hx⟩ : ∃ x, x = nth l 0 := ⟨_, rfl⟩
            rw [← hx] at TA hM ⊢
            clear hx hp hh hat hF3 CP Q HD F hl' FIN d1 d2 hz
            have WK : (Lit.int .i64 x.b).wf = true := by
              have := hM.out
              simp [Lit.wf, IntKind.min, IntKind.max, IntKind.bits, IntKind.signed]; omega
            have WV : (Lit.int .i64 x.f).wf = true := by
              have := hM.out
              simp [Lit.wf, IntKind.min, IntKind.max, IntKind.bits, IntKind.signed]; omega
            have R : Hid (∀ (wx w5 : World), Fr [] w3 wx → w5.ownsMap Try.prog 3 (plainElem Try.prog 3) mb (n + 1) (D.put (.int .i64 x.b) (.lit (.int .i64 x.f))) → wx.grownBy w5 (some mb) →
                ∃ (v : Value) (l2 : List C2) (D : DataW Unit) (n : Nat), l2.length = q ∧ n + q ≤ k ∧ Hid (QAt w w5 v l2 k) ∧ Hid (w5.ownsMap Try.prog 3 (plainElem Try.prog 3) mb n D) ∧ Hid (Fr [mb] w w5)) := Lib.hid (fun wx w5 hx ho hgr => by
              have hF5 : Fr [mb] wx w5 := grown_fr hgr
              have hlt := hmb.out
              refine ⟨_, l', _, _, HL.out, by omega, Lib.hid ((Q3.out.fr hx (by simp) (by simp)).fr hF5 (by simp; omega) ?_), Lib.hid ho, Lib.hid ((F3.out.trans hx (by simp)).same hF5)⟩
              intro y hy
              simp only [Value.ownBlock, Option.some.injEq] at hy
              subst hy
              simp
              omega)
            go_wp2_with fail
            have hcur : Fr [] w3 (w3.alloc (.cells #[.int .i64 x.b, .int .i64 x.f] 188)).drew := ((Fr.refl _ _).alloc _).drew
            have d4 := hC1.out _ (F3.out.trans hcur (by simp))
            have hnew : blk (w3.alloc (.cells #[.int .i64 x.b, .int .i64 x.f] 188)).drew w3.heap.size = some (.cells #[.int .i64 x.b, .int .i64 x.f] 188 (0, 0)) := by rw [blk_drew, blk_alloc, if_pos rfl]
            have d5 : (w3.alloc (.cells #[.int .i64 x.b, .int .i64 x.f] 188)).drew.cell? ⟨w3.heap.size, 0, none⟩ = some (.int .i64 x.b) := cell_of hnew rfl
            have d6 : (w3.alloc (.cells #[.int .i64 x.b, .int .i64 x.f] 188)).drew.cell? ⟨w3.heap.size, 1, none⟩ = some (.int .i64 x.f) := cell_of hnew rfl
            refine wp_region_still_tail 8 (by kernel_rfl) (by kernel_rfl) ?_
            simp only [List.take_succ_cons, List.take_zero, List.drop_succ_cons, List.drop_zero]
            change wpStill _ _ (World.drew _) _ _ _
            repeat still_step
            refine wpStill_nil ?_
            change wpList _ _ _ _ _ (World.drew _)
            go_wp2_with (first | (at_mapUpdate; refine wpList_mapUpdate_own _ rfl _ _ _ 133 rfl 3 3 lawMap Try.underlying133 _ mb n D rfl (own_map_fr HD3.out (S := []) (by repeat (first | exact Fr.refl _ _ | apply Fr.drew | apply Fr.alloc)) (by simp)) (by unfold maxLen; omega) _ _ _ rfl rfl (keyOf_int_mk Try.underlying3 WK) _ [] (plainElem_int Try.underlying3 WV) ?_; intro w5 hown5 hgrow5))
            go_roundg q
            case rel => exact R.out _ _ (by repeat (first | exact Fr.refl _ _ | apply Fr.drew | apply Fr.alloc)) hown5 hgrow5
            case measure => omega
        · go_wp2_with (first | (at_len; refine wpList_len_own _ rfl _ 133 rfl 3 3 Try.underlying133 _ mb n D rfl HD.out ?_; rw [← hz]))
          go_end0
          exact ⟨rfl, FIN.out⟩
end Go.Proofs.Ytjgndfhfiekomaa
