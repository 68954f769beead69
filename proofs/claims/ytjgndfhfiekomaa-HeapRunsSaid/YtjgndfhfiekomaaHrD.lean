/- The document's arena: Holes. -/
import Derived.Test.YtjgndfhfiekomaaHrC
set_option linter.all false
namespace Go.Proofs.Ytjgndfhfiekomaa
open Go.ChangeShapes Go.WideShapes Go.RowKit
variable {B0 : Nat} {w w' : World} {tb tc : Nat} {wa ma : Option Addr} {wn wc mn mc : Nat} {sf st gf gt cf ct nx : Int} {L : List (Bool × Bool)} {m : Nat}
def runCells (H : List (Nat × Nat)) : List Value := H.flatMap fun p => [.int .i64 (p.1 : Int), .int .i64 (p.2 : Int)]
theorem len_runCells (H : List (Nat × Nat)) : (runCells H).length = H.length * 2 := by
  induction H with
  | nil => rfl
  | cons x H ih => simp only [runCells, List.flatMap_cons, List.length_append, List.length_cons, List.length_nil] at ih ⊢; omega
theorem runCells_app (H J : List (Nat × Nat)) : runCells (H ++ J) = runCells H ++ runCells J := by simp [runCells]
theorem runCells_get (H : List (Nat × Nat)) (i : Nat) (p : Nat × Nat) (h : H[i]? = some p) : (runCells H)[i * 2]? = some (.int .i64 (p.1 : Int)) ∧ (runCells H)[i * 2 + 1]? = some (.int .i64 (p.2 : Int)) := by
  induction H generalizing i with
  | nil => simp at h
  | cons x H ih =>
    cases i with
    | zero => simp at h; subst h; simp [runCells]
    | succ i =>
      have := ih i (by simpa using h)
      simp only [runCells, List.flatMap_cons] at this ⊢
      rw [show (i + 1) * 2 = i * 2 + 2 by omega, show i * 2 + 2 + 1 = i * 2 + 1 + 2 by omega]
      simpa using this
theorem runCells_last (r : List (Nat × Nat)) (f t t' : Nat) : (runCells ((f, t) :: r).reverse).set (r.length * 2 + 1) (.int .i64 (t' : Int)) = runCells ((f, t') :: r).reverse := by
  simp only [List.reverse_cons, runCells_app]
  rw [List.set_append_right _ _ (by rw [len_runCells, List.length_reverse]; omega)]
  rw [len_runCells, List.length_reverse, show r.length * 2 + 1 - r.length * 2 = 1 by omega]
  rfl
theorem info_run14 : (Try.prog.info? 29).map (fun i => (i.zero, i.size, i.bytes)) = some (some (.agg #[.int .i64 0, .int .i64 0]), 2, 16) := by kernel_rfl
theorem runsR_len (L : List (Bool × Bool)) (i : Nat) : (runsR L i).length ≤ i := by
  induction i with
  | zero => simp [runsR]
  | succ i ih =>
    cases ht : tk L i with
    | true => rw [runsR_tk ht]; omega
    | false =>
      by_cases hc : 0 < i % 16 ∧ tk L (i - 1) = false
      · obtain ⟨f, r, e1, e2⟩ := runsR_ext ht hc.1 hc.2
        rw [e2]
        rw [e1] at ih
        simp only [List.length_cons] at ih ⊢
        omega
      · rw [runsR_new ht hc]
        simp only [List.length_cons]
        omega
/-- A slice of holes. -/
def HolesOk (w : World) (H : List (Nat × Nat)) (e : Ending) (w' : World) : Prop :=
  ∃ g cap, e = .returned (.slice (some ⟨g, 0, none⟩) H.length cap) ∧ w'.ownsRow w.heap.size 29 2 (.slice (some ⟨g, 0, none⟩) H.length cap) H.length (runCells H) ∧ Fr [] w w'
set_option maxRecDepth 100000 in
set_option maxHeartbeats 2000000 in
theorem rholes_c (w : World) (hB : BsAt B0 w tb tc (tks L)) (hL : L.length = m * 16) (hm : m ≤ 100) :
    Calls Try.prog 125 #[.agg #[.slice wa wn wc, .slice (some ⟨tb, 0, none⟩) (m * 16) tc, .slice ma mn mc, .int .i64 sf, .int .i64 st, .int .i64 gf, .int .i64 gt, .int .i64 cf, .int .i64 ct, .int .i64 nx]] w (HolesOk w (runs L)) := by
  have HB := Lib.hid hB
  have HL := Lib.hid hL
  have htc : m * 16 ≤ tc := by have := hB.cp.1; rw [len_tks, hL] at this; exact this
  have htc2 : tc ≤ 9223372036854775807 := by have := hB.cp.2; unfold maxLen at this; omega
  obtain ⟨W1, hW1⟩ : ∃ W1, W1 = (w.alloc (.cells #[.slice wa wn wc, .slice (some ⟨tb, 0, none⟩) (m * 16) tc, .slice ma mn mc, .int .i64 sf, .int .i64 st, .int .i64 gf, .int .i64 gt, .int .i64 cf, .int .i64 ct, .int .i64 nx] 31)).alloc (.cells #[] 29) := ⟨_, rfl⟩
  have P1 := Lib.hid (show blk W1 w.heap.size = some (.cells #[.slice wa wn wc, .slice (some ⟨tb, 0, none⟩) (m * 16) tc, .slice ma mn mc, .int .i64 sf, .int .i64 st, .int .i64 gf, .int .i64 gt, .int .i64 cf, .int .i64 ct, .int .i64 nx] 31 (0, 0)) by rw [hW1, blk_alloc, if_neg (by rw [size_alloc]; omega), blk_alloc, if_pos rfl])
  have F1 : Hid (Fr [] w W1) := Lib.hid (by rw [hW1]; exact ((Fr.refl _ _).alloc _).alloc _)
  have S1 : Hid (W1.heap.size = w.heap.size + 1 + 1) := Lib.hid (by rw [hW1, size_alloc, size_alloc])
  obtain ⟨pb, hpb⟩ : ∃ pb, pb = w.heap.size := ⟨_, rfl⟩
  have HPB := Lib.hid hpb
  rw [← hpb] at P1 S1
  have O0 : Hid (W1.ownsRow (pb + 1) 29 2 (.slice (some ⟨pb + 1, 0, none⟩) 0 0) 0 (runCells (runsR L 0).reverse)) := Lib.hid (own_mk (cur := #[]) (by rw [hW1, hpb, blk_alloc, if_pos (by rw [size_alloc])]) (Nat.le_refl _) (Nat.le_refl _) (Nat.zero_le _) rfl rfl)
  obtain ⟨i0, hi, hz0, hz1, hz2⟩ := info_parts info_run14
  have II := Lib.hid hi
  have Z0 := Lib.hid hz0
  have Z1 := Lib.hid hz1
  have Z2 := Lib.hid hz2
  clear hi hz0 hz1 hz2 hB hL
  go_enter Try.func125, Try.ntmps125
  go_upto_region 2 with fail
  rw [← hW1, ← hpb]
  clear hW1 hpb
  have hpl : pb < W1.heap.size := by rw [S1.out]; omega
  have c0 : W1.cell? ⟨pb, 1, none⟩ = some (.slice (some ⟨tb, 0, none⟩) (m * 16) tc) := cell_of P1.out rfl
  go_wp2_with fail
  go_loopw [3, 4, 9] (fun o _ u wr => ∃ (i g cap n : Nat), i ≤ m * 16 ∧ u = .int .i64 (i : Int) ∧ o = .slice (some ⟨g, 0, none⟩) n cap ∧ n ≤ i ∧ Hid (n = (runsR L i).length) ∧ Hid (wr.ownsRow (pb + 1) 29 2 (.slice (some ⟨g, 0, none⟩) n cap) n (runCells (runsR L i).reverse)) ∧ Hid (Fr [pb + 1] W1 wr)) (fun _ _ u _ => m * 16 - (intOf u).toNat)
  case atStart => exact ⟨0, pb + 1, 0, 0, by omega, by go_num, rfl, Nat.le_refl _, Lib.hid rfl, O0, Lib.hid (Fr.refl _ _)⟩
  case round =>
    obtain ⟨i, g, cap, n, hi, rfl, rfl, hni, HN, OK, F⟩ := hrel
    clear O0 c0
    have PW := F.out.at P1.out (by simp)
    have c1 : wr.cell? ⟨pb, 1, none⟩ = some (.slice (some ⟨tb, 0, none⟩) (m * 16) tc) := cell_of PW rfl
    have hpw := lt_size PW
    have FW : Fr [] w wr := F1.out.trans F.out (fun x hx => .inr (by simp only [List.mem_singleton] at hx; rw [hx, HPB.out]; omega))
    have HBW := Lib.hid (HB.out.keep FW)
    have FW := Lib.hid FW
    by_cases hlt : i < m * 16
    · have hiL : i < L.length := by rw [HL.out]; exact hlt
      have d0 := HBW.out.at_ _ _ (tks_at hiL)
      have hgb := own_base OK.out
      have hgp : g ≠ pb := by omega
      have hnc := (own_cap OK.out).1
      cases ht : tk L i with
      | true =>
        rw [ht] at d0
        have HN2 : Hid (n = (runsR L (i + 1)).length) := Lib.hid (by rw [runsR_tk ht]; exact HN.out)
        have ON : Hid (wr.ownsRow (pb + 1) 29 2 (.slice (some ⟨g, 0, none⟩) n cap) n (runCells (runsR L (i + 1)).reverse)) := Lib.hid (by rw [runsR_tk ht]; exact OK.out)
        clear ht OK HN PW
        go_wp2
        go_roundw
        case rel => exact ⟨i + 1, g, cap, n, by omega, by go_num, rfl, by omega, HN2, ON, F⟩
        case measure => simp [intOf]; omega
      | false =>
        rw [ht] at d0
        by_cases h0 : 0 < i % 16
        · have d1 := HBW.out.at_ _ _ (tks_at (show i - 1 < L.length by omega))
          have hI0 : (0 : Int) < (i : Int) % 16 := by omega
          have hI1 : (i : Int) - 1 = ((i - 1 : Nat) : Int) := by omega
          cases h1 : tk L (i - 1) with
          | false =>
            obtain ⟨f, r, e1, e2⟩ := runsR_ext ht h0 h1
            rw [h1] at d1
            obtain ⟨q, rfl⟩ : ∃ q, n = q + 1 := ⟨r.length, by rw [HN.out, e1]; rfl⟩
            have hq : q = r.length := by have := HN.out; rw [e1] at this; simpa using this
            have fz := own_free OK.out (q * 2 + 1)
            have d2 := own_cell OK.out (i := q * 2 + 1) (u := .int .i64 (i : Int)) (by
              rw [e1]
              exact (runCells_get _ q (f, i) (by rw [hq, List.reverse_cons, List.getElem?_append_right (by simp), List.length_reverse]; simp)).2)
            have ON : Hid ((wr.setCell ⟨g, q * 2 + 1, none⟩ (.int .i64 ((i : Int) + 1))).ownsRow (pb + 1) 29 2 (.slice (some ⟨g, 0, none⟩) (q + 1) cap) (q + 1) (runCells (runsR L (i + 1)).reverse)) := Lib.hid (by
              have := own_set OK.out (q * 2 + 1) (.int .i64 (((i + 1 : Nat)) : Int))
              rw [e1, hq, runCells_last, ← e2, ← hq] at this
              exact this)
            have HN2 : Hid (q + 1 = (runsR L (i + 1)).length) := Lib.hid (by rw [e2, hq]; rfl)
            have FN : Hid (Fr [pb + 1] W1 (wr.setCell ⟨g, q * 2 + 1, none⟩ (.int .i64 ((i : Int) + 1)))) := Lib.hid (F.out.setCell (by
              rcases Nat.lt_or_ge g W1.heap.size with hg | hg
              · left; simp only [List.mem_singleton]; have := S1.out; omega
              · exact .inr hg) _)
            clear ht h1 e1 e2 hq OK HN PW F
            go_wp2
            go_roundw
            case rel => exact ⟨i + 1, g, cap, q + 1, by omega, by go_num, rfl, by omega, HN2, ON, FN⟩
            case measure => simp [intOf]; omega
          | true =>
            rw [h1] at d1
            have HC : ¬ (0 < i % 16 ∧ tk L (i - 1) = false) := fun h => by rw [h1] at h; simp at h
            have HR := Lib.hid (runsR_new ht HC)
            have OA := Lib.hid (own_fr OK.out ((Fr.refl [] wr).alloc (.cells #[.int .i64 (i : Int), .int .i64 ((i : Int) + 1)] 29)) (by simp))
            have FA := Lib.hid (F.out.alloc (.cells #[.int .i64 (i : Int), .int .i64 ((i : Int) + 1)] 29))
            have HSZ : Hid (pb + 1 ≤ (wr.alloc (.cells #[.int .i64 (i : Int), .int .i64 ((i : Int) + 1)] 29)).heap.size) := Lib.hid (by rw [size_alloc]; omega)
            have NWS := Lib.hid (World.news_of_block (show blk (wr.alloc (.cells #[.int .i64 (i : Int), .int .i64 ((i : Int) + 1)] 29)) wr.heap.size = _ from by rw [blk_alloc, if_pos rfl]))
            have HGW : Hid (g ∈ [pb + 1] ∨ W1.heap.size ≤ g) := Lib.hid (by
              rcases Nat.lt_or_ge g W1.heap.size with hg | hg
              · left; simp only [List.mem_singleton]; have := S1.out; omega
              · exact .inr hg)
            clear OK PW HC
            go_wp2_with (at_builtin; refine wpList_app _ rfl _ _ _ rfl (pb + 1) 29 i0 (.agg #[.int .i64 0, .int .i64 0]) 2 16 Try.underlying173 II.out Z0.out Z1.out Z2.out rfl (by decide) g cap n _ rfl OA.out ⟨wr.heap.size, 0, none⟩ 1 1 [.int .i64 (i : Int), .int .i64 ((i : Int) + 1)] rfl rfl NWS.out (by simp [Value.oneCell']) (by unfold maxLen; omega) (by omega) HSZ.out ?_; intro g5 cap5 w5 own5 fr5 at5; have FN := Lib.hid (FA.out.trans fr5 (fun x hx => by simp only [List.mem_singleton] at hx; rw [hx]; exact HGW.out)); have ON := Lib.hid (show w5.ownsRow (pb + 1) 29 2 (.slice (some ⟨g5, 0, none⟩) (n + 1) cap5) (n + 1) (runCells (runsR L (i + 1)).reverse) from by rw [HR.out, List.reverse_cons, runCells_app]; exact own5); clear own5 fr5 at5 OA FA HSZ NWS HGW)
            have HN2 : Hid (n + 1 = (runsR L (i + 1)).length) := Lib.hid (by rw [HR.out, List.length_cons, ← HN.out])
            clear HN F HR
            go_wp2
            go_roundw
            case rel => exact ⟨i + 1, g5, cap5, n + 1, by omega, by go_num, rfl, by omega, HN2, ON, FN⟩
            case measure => simp [intOf]; omega
        · have HC : ¬ (0 < i % 16 ∧ tk L (i - 1) = false) := fun h => h0 h.1
          have hI0 : ¬ (0 : Int) < (i : Int) % 16 := by omega
          have HR := Lib.hid (runsR_new ht HC)
          have OA := Lib.hid (own_fr OK.out ((Fr.refl [] wr).alloc (.cells #[.int .i64 (i : Int), .int .i64 ((i : Int) + 1)] 29)) (by simp))
          have FA := Lib.hid (F.out.alloc (.cells #[.int .i64 (i : Int), .int .i64 ((i : Int) + 1)] 29))
          have HSZ : Hid (pb + 1 ≤ (wr.alloc (.cells #[.int .i64 (i : Int), .int .i64 ((i : Int) + 1)] 29)).heap.size) := Lib.hid (by rw [size_alloc]; omega)
          have NWS := Lib.hid (World.news_of_block (show blk (wr.alloc (.cells #[.int .i64 (i : Int), .int .i64 ((i : Int) + 1)] 29)) wr.heap.size = _ from by rw [blk_alloc, if_pos rfl]))
          have HGW : Hid (g ∈ [pb + 1] ∨ W1.heap.size ≤ g) := Lib.hid (by
            rcases Nat.lt_or_ge g W1.heap.size with hg | hg
            · left; simp only [List.mem_singleton]; have := S1.out; omega
            · exact .inr hg)
          clear OK PW HC
          go_wp2_with (at_builtin; refine wpList_app _ rfl _ _ _ rfl (pb + 1) 29 i0 (.agg #[.int .i64 0, .int .i64 0]) 2 16 Try.underlying173 II.out Z0.out Z1.out Z2.out rfl (by decide) g cap n _ rfl OA.out ⟨wr.heap.size, 0, none⟩ 1 1 [.int .i64 (i : Int), .int .i64 ((i : Int) + 1)] rfl rfl NWS.out (by simp [Value.oneCell']) (by unfold maxLen; omega) (by omega) HSZ.out ?_; intro g5 cap5 w5 own5 fr5 at5; have FN := Lib.hid (FA.out.trans fr5 (fun x hx => by simp only [List.mem_singleton] at hx; rw [hx]; exact HGW.out)); have ON := Lib.hid (show w5.ownsRow (pb + 1) 29 2 (.slice (some ⟨g5, 0, none⟩) (n + 1) cap5) (n + 1) (runCells (runsR L (i + 1)).reverse) from by rw [HR.out, List.reverse_cons, runCells_app]; exact own5); clear own5 fr5 at5 OA FA HSZ NWS HGW)
          have HN2 : Hid (n + 1 = (runsR L (i + 1)).length) := Lib.hid (by rw [HR.out, List.length_cons, ← HN.out])
          clear HN F HR
          go_wp2
          go_roundw
          case rel => exact ⟨i + 1, g5, cap5, n + 1, by omega, by go_num, rfl, by omega, HN2, ON, FN⟩
          case measure => simp [intOf]; omega
    · have him : i = L.length := by rw [HL.out]; omega
      have RES : Hid (HolesOk w (runs L) (.returned (.slice (some ⟨g, 0, none⟩) n cap)) wr) := Lib.hid (by
        have h1 := HN.out
        have h2 := OK.out
        rw [him] at h1 h2
        have h3 : (runs L).length = n := by unfold runs; rw [List.length_reverse, ← h1]
        refine ⟨g, cap, by rw [h3], ?_, FW.out⟩
        rw [h3]
        obtain ⟨a1, a2⟩ := h2
        refine ⟨a1, a2.imp id ?_⟩
        rintro ⟨g', cap', cur, b1, b2, b3⟩
        exact ⟨g', cap', cur, b1, by have := HPB.out; omega, b3⟩)
      have him := Lib.hid him
      have hlt := Lib.hid hlt
      clear OK HN F
      go_wp2
      go_ret
      exact RES.out
end Go.Proofs.Ytjgndfhfiekomaa
