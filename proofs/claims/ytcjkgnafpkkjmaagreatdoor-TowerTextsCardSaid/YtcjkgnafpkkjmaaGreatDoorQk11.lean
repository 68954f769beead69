/- The texts and numbers of numbers: a part of the walk. No condition. -/
import Derived.Test.YtcjkgnafpkkjmaaGreatDoorQk10
set_option linter.all false
namespace Go.Proofs.YtcjkgnafpkkjmaaGreatDoor
section
open Go.ChangeShapes Go.WideShapes Go.RowKit Go.Shelf
variable {w w' w2 wr : World} {a b : Option Addr} {cap cap2 : Nat} {L M : List Nat} {B : Nat}
theorem ltext_big (w : World) (h : In w a cap L) (hb : fits (val L) = false) : Calls Tryz.prog 86 #[.slice a L.length cap] w fun e w' => e = .returned (.string ⟨(textOf (val L)).toArray⟩) ∧ Fr [] w w' := by
  have H := Lib.hid h
  clear h
  obtain ⟨n, hn⟩ : ∃ n, n = val L := ⟨_, rfl⟩
  have HN := Lib.hid hn
  rw [← hn] at hb ⊢
  clear hn
  have D : Hid (∀ W, Fr [] w W → (Ending.returned (.string ⟨#[]⟩) = .returned (.string ⟨(textOf n).toArray⟩) ∧ Fr [] w W)) := Lib.hid (fun W hW => ⟨by unfold textOf; rw [if_neg (by rw [hb]; decide)], hW⟩)
  have HB : Hid (decide (64 < (lims n).length) = true) := Lib.hid (by
    rw [fits_len] at hb; simp at hb ⊢; omega)
  clear hb
  go_enter Tryz.func86, Tryz.ntmps86
  go_wp2_with fail
  refine (ltrim_c w H.out).mono ?_
  rintro e w1 ⟨a1, c1, rfl, N1, F1⟩
  rw [← HN.out] at N1 ⊢
  have D := Lib.hid (D.out w1 F1)
  clear N1 F1
  go_wp2_with fail
  refine (lbig_c _ _ _ _).mono ?_
  rintro e w' ⟨rfl, rfl⟩
  rw [HB.out]
  go_wp2
  go_ret
  exact D.out
def PartI (n v : Nat) (P : List Nat) : Prop := parts n = P ++ parts v
theorem PartI.step {n v : Nat} {P : List Nat} (h : PartI n v P) (hv : v ≠ 0) : PartI n (v / 1000000000) (P ++ [v % 1000000000]) := by
  unfold PartI at *
  rw [h, parts_pos hv, List.append_assoc]; rfl
theorem PartI.len {n v : Nat} {P : List Nat} (h : PartI n v P) {k : Nat} (hk : (parts n).length ≤ k) : P.length ≤ k := by
  unfold PartI at h
  rw [h, List.length_append] at hk; omega
theorem fits_parts {n : Nat} (h : fits n = true) : (parts n).length ≤ 70 := by
  refine parts_len n 70 ?_
  unfold fits at h
  have h1 : n < 4294967296 ^ 64 := by simpa using h
  exact Nat.lt_of_lt_of_le h1 (by decide +kernel)
theorem text_step {w3 w5 : World} {ap a3 : Option Addr} {cp c3 k wz : Nat} {P O : List Nat} {o ob : Obj} (NP : Nw w3 B ap cp P) (hlow : ∀ x, (Value.slice ap P.length cp).ownBlock = some x → x < wz) (ON : Nw w3 wz a3 c3 O) (BX : blk w3 k = some ob) (hk : k < B)
    (gr5 : (w3.alloc o).grownBy w5 (Value.ownBlock (.slice ap P.length cp))) : blk w5 k = some ob ∧ Nw w5 wz a3 c3 O := by
  have hg := grown_fr gr5
  have hb1 : blk (w3.alloc o) k = some ob := ((Fr.refl [] w3).alloc o).at BX (by simp)
  have h1 := ON.keep ((Fr.refl [] w3).alloc o)
  constructor
  · refine hg.at hb1 ?_
    intro hm
    have := (NP.own.lt k (by simpa using hm)).1
    omega
  · refine h1.fr hg ?_
    intro x hx hm
    have h2 := hlow x (by simpa using hm)
    have := (h1.own.lt x hx).1
    omega
theorem keepO_put {BO : Nat} {w4 : World} (W : World) (l : Nat) (o o' : Obj) (hl : w4.heap.size ≤ l) (_ : W.heap[l]? = some o) (_ : o.isCells = false) (_ : o.isWalk = false) : KeepO BO w4.heap.size W (W.putObj l o') := fun k hk _ =>
  World.putObj_heap_other (fun e => by omega)
theorem ownFrom_fr {β : Type} {S : List Nat} {w4 : World} : OwnFrom w4.heap.size (fun (_ : β) W => Fr S w4 W) := fun _ _ _ row hs hg hr =>
  hs.trans (grown_fr hg) fun x hx => .inr (hr x (by cases row with | none => simp at hx | some r => simp at hx; rw [hx])).1
theorem keepO_fr {BO : Nat} {w4 W W' : World} (h : Fr [BO] W W') (h4 : w4.heap.size ≤ W.heap.size) : KeepO BO w4.heap.size W W' := fun k hk hn => h.block k (by omega) (by simpa using hn)
theorem keepsFrom_fr {BO : Nat} {B : Nat} {W W' : World} (h : Fr [BO] W W') (hB : BO < B) : KeepsFrom B W W' := ⟨h.size, fun k o hk ho _ => (h.block k (lt_size ho) (by simp; omega)).trans ho⟩
theorem backward_stops (n : Nat) (hn : 1 ≤ n) (BO Bs g cap : Nat) (O : List Nat) (hO : ∀ p, p ∈ O → p < 1000000000) (hl : O.length ≤ 100000) (w4 : World) (hBs1 : Bs < w4.heap.size) (hBs2 : Bs ≠ BO) (hg1 : g < w4.heap.size) (hg2 : g ≠ BO)
    (hBs : w4.cell? ⟨Bs, 0, none⟩ = some (.slice (some ⟨g, 0, none⟩) O.length cap)) (hc : ∀ j, j < O.length → w4.cell? ⟨g, j, none⟩ = some (.int .u32 ((O[j]?.getD 0 : Nat) : Int))) :
    SeqStopsK Fence.wide n Tryz.prog 164 #[.pointer (some ⟨Bs, 0, none⟩)] (fun x : Pr => #[.int .i64 (x.1.1 : Int), .int .u32 (x.1.2 : Int)]) (KeepO BO w4.heap.size) (fun ys => ys = came (prs O) O.length O.length) (fun _ => True) O.length w4 := fun l J Jx W hW _ _ hY h0 =>
  backward1_in Fence.wide n trivial rfl hn l Bs BO w4.heap.size g O.length cap (prs O) (fun j hj => by rw [prs_at hO hl hj]) hl hBs1 hBs2 hg1 hg2 J Jx hY W ((hW.cell (p := ⟨Bs, 0, none⟩) hBs1).trans hBs) (fun j hj => by rw [prs_at hO hl hj]; exact (hW.cell (p := ⟨g, j, none⟩) hg1).trans (hc j hj)) h0
theorem bytes3 (x ds : List UInt8) (c : Nat) : (ByteArray.mk x.toArray) ++ ((ByteArray.mk (Array.replicate c 48)) ++ (ByteArray.mk ds.toArray)) = ⟨(x ++ (List.replicate c 48 ++ ds)).toArray⟩ := by
  rw [show (Array.replicate c (48 : UInt8)) = (List.replicate c 48).toArray by simp, ByteArray.mk_append_mk, ByteArray.mk_append_mk]
theorem text_round {BO K : Nat} {w4 W W2 : World} {pre : List Pr} {x : Pr} {t new : List UInt8} {s : ByteArray} (SN : outP K (pre ++ [x]) = t ++ new) (hs : s = ⟨(t ++ new).toArray⟩) (b2 : blk W2 BO = some (.cells #[.string ⟨t.toArray⟩] 9 (0, 0))) (hF : Fr [BO] w4 W) (FA : Fr [] W W2) (hw4 : w4.heap.size ≤ W.heap.size) (hB : BO < w4.heap.size) :
    KeepsFrom w4.heap.size W (W2.setCell ⟨BO, 0, none⟩ (.string s)) ∧ KeepO BO w4.heap.size W (W2.setCell ⟨BO, 0, none⟩ (.string s)) ∧ Boxed (W2.setCell ⟨BO, 0, none⟩ (.string s)) BO 9 (.string ⟨(outP K (pre ++ [x])).toArray⟩) ∧ Fr [BO] w4 (W2.setCell ⟨BO, 0, none⟩ (.string s)) := by
  have h1 : Fr [BO] W (W2.setCell ⟨BO, 0, none⟩ (.string s)) := (FA.mono (by simp)).setCell (by simp) _
  refine ⟨keepsFrom_fr h1 hB, keepO_fr h1 hw4, ?_, hF.same h1⟩
  show blk _ BO = _
  rw [blk_set, if_pos rfl, b2, hs, SN]; rfl
attribute [local go_sem] Oper.semAt_some
set_option maxRecDepth 100000 in
set_option maxHeartbeats 4000000 in
theorem ltext_pos (w : World) (h : In w a cap L) (hT : Tab w) (hb : fits (val L) = true) (h0 : val L ≠ 0) : Calls Tryz.prog 86 #[.slice a L.length cap] w fun e w' => e = .returned (.string ⟨(textOf (val L)).toArray⟩) ∧ Fr [] w w' := by
  have H := Lib.hid h
  have HTab := Lib.hid hT
  clear h hT
  obtain ⟨n, hn⟩ : ∃ n, n = val L := ⟨_, rfl⟩
  have HN := Lib.hid hn
  rw [← hn] at hb h0 ⊢
  clear hn
  have HTX : Hid (textOf n = outOf (parts n)) := Lib.hid (by unfold textOf; rw [if_pos hb, outOf_parts h0])
  have PL := fits_parts hb
  have PN : Hid (0 < (parts n).length) := Lib.hid (by rw [parts_pos h0]; simp)
  have HB : Hid (decide (64 < (lims n).length) = false) := Lib.hid (by rw [fits_len] at hb; simp at hb ⊢; omega)
  have P0 : PartI n n [] := rfl
  clear hb h0
  obtain ⟨i0, hi, hz0, hz1, hz2⟩ := info_parts info_u32
  have HI := Lib.hid hi
  have Z0 := Lib.hid hz0
  have Z1 := Lib.hid hz1
  have Z2 := Lib.hid hz2
  clear hi hz0 hz1 hz2
  refine (callsIn_wide (n := 3)).1 ?_
  refine callsIn_of_wp_marks Tryz.func86 rfl trivial ?_ rfl
  refine wpIn_wide.2 ?_
  simp only [Tryz.ntmps86, List.size_toArray, List.length_cons, List.length_nil, Nat.reduceAdd, Nat.reduceSub, Array.replicate_succ, Array.replicate_zero, List.push_toArray, List.append_toArray, List.nil_append, List.cons_append]
  go_wp2_with fail
  refine (ltrim_c w H.out).mono ?_
  rintro e w1 ⟨a1, c1, rfl, N1, F1⟩
  rw [← HN.out] at N1 ⊢
  have N1 := Lib.hid N1
  have F1 := Lib.hid F1
  go_wp2_with fail
  refine (lbig_c _ _ _ _).mono ?_
  rintro e w' ⟨rfl, rfl⟩
  rw [HB.out]
  go_wp2_with fail
  have NP0 : Hid (Nw (w1.alloc (.cells #[.slice none 0 0] 34)) (w1.heap.size + 1) none 0 []) := Lib.hid (Nw.nil _ _)
  have BX0 : Hid (blk (w1.alloc (.cells #[.slice none 0 0] 34)) w1.heap.size = some (.cells #[.slice none 0 0] 34 (0, 0))) := Lib.hid (by rw [blk_alloc, if_pos rfl])
  have FA0 : Hid (Fr [] w (w1.alloc (.cells #[.slice none 0 0] 34))) := Lib.hid (F1.out.alloc _)
  have IN0 : Hid (In (w1.alloc (.cells #[.slice none 0 0] 34)) a1 c1 (lims n)) := Lib.hid (N1.out.in.keep ((Fr.refl [] _).alloc _))
  have hs1 : w.heap.size ≤ w1.heap.size := F1.out.size
  go_loopg [0, 4, 5] n (fun k s0 _ _ wr => ∃ (a0 : Option Addr) (c0 : Nat) (ap : Option Addr) (cp : Nat) (P : List Nat), s0 = .slice a0 (lims k).length c0 ∧ PartI n k P ∧ Hid (In wr a0 c0 (lims k)) ∧ Hid (Nw wr (w1.heap.size + 1) ap cp P) ∧ Hid (blk wr w1.heap.size = some (.cells #[.slice ap P.length cp] 34 (0, 0))) ∧ Hid (Fr [] w wr))
  case atStart => exact ⟨a1, c1, none, 0, [], rfl, P0, IN0, NP0, BX0, FA0⟩
  case round =>
    obtain ⟨a0, c0, ap, cp, P, rfl, hP, hA, hN, hBX, hF⟩ := hrel
    by_cases hk0 : gk = 0
    · subst hk0
      have hPe : parts n = P := by unfold PartI at hP; rw [hP, parts_zero, List.append_nil]
      rw [hPe] at PL PN HTX
      obtain ⟨g, rfl, hg1, hg2⟩ := hN.out.at PN.out
      have cx := cell_of (i := 0) hBX.out rfl
      have bl := lt_size hBX.out
      have hPl : ((P.length : Int) == 0) = false := by rw [beq_eq_false_iff_ne]; have := PN.out; omega
      have PV := Lib.hid (parts_lt n)
      rw [hPe] at PV
      clear hP hPe hA
      go_wp2_with fail
      refine (backward_c _ _ _ _).mono ?_
      rintro e w' ⟨rfl, rfl⟩
      go_wp2_with fail
      obtain ⟨BO, hBO⟩ : ∃ BO, BO = wr.heap.size := ⟨_, rfl⟩
      obtain ⟨w4, hw4⟩ : ∃ w4, w4 = (wr.alloc (.cells #[.string ⟨#[]⟩] 9)).alloc (.cells #[.slice (some ⟨g, 0, none⟩) P.length cp] 34) := ⟨_, rfl⟩
      have hsz : w4.heap.size = BO + 2 := by rw [hw4, hBO]; simp
      have F4 : Fr [] wr w4 := by rw [hw4]; exact ((Fr.refl [] wr).alloc _).alloc _
      have bO : Boxed w4 BO 9 (.string ⟨#[]⟩) := by
        show blk w4 BO = _
        rw [hw4, blk_alloc, if_neg (by rw [size_alloc]; omega), blk_alloc, if_pos hBO]
      have bS : blk w4 (BO + 1) = some (.cells #[.slice (some ⟨g, 0, none⟩) P.length cp] 34 (0, 0)) := by
        rw [hw4, blk_alloc, if_pos (by rw [size_alloc, hBO])]
      have SEQ := backward_stops 2 (by omega) BO (BO + 1) g cp P PV.out (by omega) w4 (by omega) (by omega) (by omega) (by omega) (cell_of (i := 0) bS rfl) (fun j hj => (hN.out.keep F4).cell hj)
      rw [← hw4]
      rw [← hBO] at bl hg2 ⊢
      have FW4 := Lib.hid (hF.out.same F4)
      have BX4 := Lib.hid (F4.at hBX.out (by simp))
      clear hw4 hBO hN hBX cx bS F4 hF
      refine (wpIn_wide (n := 3)).1 ?_
      refine wpIn_rangeFunc_ownG rfl (by omega) (gf := 164) (lb := #[.pointer (some ⟨BO + 1, 0, none⟩)]) rfl trivial (enters_of Tryz.func164 (by kernel_rfl) rfl)
        SEQ KeepO.trans keepO_put (Below.refl _ _) (fun _ => rfl)
        (fun pre W => Boxed W BO 9 (.string ⟨(outP P.length pre).toArray⟩) ∧ Fr [BO] w4 W)
        (fun _ _ _ => False)
        (OwnFrom.and (Own.from (boxed_own BO 9 (fun pre => .string ⟨(outP P.length pre).toArray⟩)) _) ownFrom_fr)
        (fun _ _ _ _ _ hs _ _ => hs)
        ⟨bO, Fr.refl _ _⟩
        ?a1 ?assign ?body ?done ?stop
      case assign =>
        intro l x W K hK
        gi_wp2
        exact hK
      case body =>
        rintro l pre x W ⟨hb, hF⟩ hlt
        have hcO := hb.cell
        have hfO := hb.frozen
        have FW : Hid (Fr [] w W) := Lib.hid (FW4.out.trans hF (by intro y hy; right; simp at hy; subst hy; omega))
        have TW := HTab.out.fr FW.out
        have BW := Lib.hid (hF.at BX4.out (by simp; omega))
        have hp := x.2.1
        have hi := x.2.2
        have hdl : (Lib.decDigits x.1.2).length ≤ 9 := dec_len (by decide) hp
        have hol := outP_len P.length pre
        have SN := Lib.hid (outP_snoc P.length pre x)
        have hw4 : w4.heap.size ≤ W.heap.size := hF.size
        have CI := Lib.hid (itoa_c W TW x.1.2 hp)
        obtain ⟨i, hie⟩ : ∃ i, i = x.1.1 := ⟨_, rfl⟩
        obtain ⟨pv, hpe⟩ : ∃ pv, pv = x.1.2 := ⟨_, rfl⟩
        rw [← hie] at SN hi ⊢
        rw [← hpe] at SN hp hdl CI ⊢
        clear TW hie hpe
        by_cases hlast : i + 1 < P.length
        · rw [if_pos hlast, (padD_eq 9 pv (by decide) hp).2] at SN
          obtain ⟨ds, hds⟩ : ∃ ds, ds = Lib.decDigits pv := ⟨_, rfl⟩
          rw [← hds] at SN hdl CI
          obtain ⟨c, hce⟩ : ∃ c, c = 9 - ds.length := ⟨_, rfl⟩
          have e9 : (9 : Int) - (ds.length : Int) = (c : Int) := by omega
          have hlI : (i : Int) < (P.length : Int) - 1 := by omega
          have hcl : (List.replicate c (48 : UInt8)).length = c := by simp
          rw [← hce] at SN
          have hcc : c ≤ 9 := by omega
          clear hce hds
          gi_wp2_with (first | (refine ⟨trivial, ?_⟩; gi_at_call 32; refine (CallsIn.inRound l (callsIn_wide.2 CI.out)).mono ?_; rintro e W1 ⟨rfl, FA⟩; have cB := cell_of (i := 0) (FA.at BW.out (by simp)) rfl) | (refine ⟨trivial, ?_⟩; gi_at_call 121; refine (CallsIn.inRound l (callsIn_wide.2 (repeat_c _ c (Nat.le_trans hcc (by decide))))).mono ?_; rintro e W2 ⟨rfl, FB⟩; have b2 := (FA.same FB).at (show blk W BO = _ from hb) (by simp); have c2 := cell_of (i := 0) b2 rfl; have f2 : W2.frozen? ⟨BO, 0, none⟩ = false := free_of b2))
          exact text_round SN.out (bytes3 _ _ _) b2 hF (FA.same FB) hw4 (by omega)
        · rw [if_neg hlast] at SN
          obtain ⟨ds, hds⟩ : ∃ ds, ds = Lib.decDigits pv := ⟨_, rfl⟩
          rw [← hds] at SN hdl CI
          have hlI : ¬ (i : Int) < (P.length : Int) - 1 := by omega
          clear hds
          gi_wp2_with (refine ⟨trivial, ?_⟩; gi_at_call 32; refine (CallsIn.inRound l (callsIn_wide.2 CI.out)).mono ?_; rintro e W1 ⟨rfl, FA⟩; have cB := cell_of (i := 0) (FA.at BW.out (by simp)) rfl; have b2 := FA.at (show blk W BO = _ from hb) (by simp); have c2 := cell_of (i := 0) b2 rfl; have f2 : W1.frozen? ⟨BO, 0, none⟩ = false := free_of b2)
          exact text_round SN.out (by simp [ByteArray.mk_append_mk]) b2 hF FA hw4 (by omega)
      case done =>
        rintro D ys W hD rfl ⟨hb, hF⟩ hK
        have hc := hb.cell
        go_wp2
        refine ⟨by simp, .inl ⟨_, _, rfl, run_takeDeferred hK, ?_⟩⟩
        refine ⟨_, results_tmp rfl _ _ _, ?_, ?_⟩
        · rw [HTX.out, outP_came PV.out (by omega) P.length (Nat.le_refl _), Nat.sub_self, List.drop_zero]; rfl
        · exact (FW4.out.trans hF (by intro y hy; right; simp at hy; subst hy; omega)).trans (grown_fr (grownBy_putObj' W D (.deferred none))) (by intro y hy; right; simp at hy; subst hy; have := FW4.out.size; omega)
      case stop =>
        rintro D c pre W _ _ h _
        exact h.elim
    · have hl0 : 0 < (lims gk).length := lims_len_pos.2 hk0
      have PS := hP.step hk0
      have PLN := hP.len PL
      have PG : gk / 1000000000 < gk := Nat.div_lt_self (Nat.pos_of_ne_zero hk0) (by decide)
      have CS := Lib.hid (lshort_c wr hA.out 1000000000 (by decide) (by decide))
      rw [val_lims] at CS
      have hr : gk % 1000000000 < 4294967296 := Nat.lt_trans (Nat.mod_lt _ (by decide)) (by decide)
      obtain ⟨q, hq⟩ : ∃ q, q = gk / 1000000000 := ⟨_, rfl⟩
      obtain ⟨r, hrr⟩ : ∃ r, r = gk % 1000000000 := ⟨_, rfl⟩
      have HQ := Lib.hid hq
      have HR := Lib.hid hrr
      rw [← hrr] at PS hr
      rw [← hq] at PS PG
      clear hq hrr hP hk0
      go_wp2_with fail
      refine CS.out.mono ?_
      rintro e w3 ⟨a3, c3, O, rfl, hOl, hOv, hON, hOF⟩
      rw [← HR.out]
      rw [← HQ.out] at hOv
      have ON := Lib.hid hON
      have OV := Lib.hid hOv
      have NP := Lib.hid (hN.out.keep hOF)
      have BX := Lib.hid (hOF.at hBX.out (by simp))
      have F3 := Lib.hid (hF.out.same hOF)
      have cx := cell_of (i := 0) BX.out rfl
      have fx : w3.frozen? ⟨w1.heap.size, 0, none⟩ = false := free_of BX.out
      have bl : w1.heap.size < w3.heap.size := lt_size BX.out
      have OW := Lib.hid (nw_alloc NP.out (.cells #[.int .u32 (r : Int)] 84))
      have NW := Lib.hid (heap_alloc_new w3 (.cells #[.int .u32 (r : Int)] 84))
      have hBs : w1.heap.size + 1 ≤ (w3.alloc (.cells #[.int .u32 (r : Int)] 84)).heap.size := by rw [size_alloc]; omega
      have LOW : Hid (∀ x, (Value.slice ap P.length cp).ownBlock = some x → x < wr.heap.size) := Lib.hid (fun x hx => (hN.out.own.lt x hx).2)
      have hwr : w1.heap.size < wr.heap.size := lt_size hBX.out
      clear hON hOv hOF hOl CS hA hN hBX hF
      go_wp2_with (at_builtin; refine wpList_append_lies _ rfl _ _ 34 rfl (w1.heap.size + 1) 84 i0 (.int .u32 0) 1 4 Tryz.underlying34 HI.out Z0.out Z1.out Z2.out rfl (by omega) (.slice ap P.length cp) P.length (lc P) rfl OW.out ⟨w3.heap.size, 0, none⟩ 1 1 [.int .u32 (r : Int)] rfl rfl (World.news_of_block NW.out) (by simp [Value.oneCell']) (by omega) (by unfold maxLen; omega) (by omega) hBs _ rfl ?_; intro g5 cap5 w5 own5 gr5 at5 lt5; have Q := Lib.hid (app_step NP.out F3.out (by omega) hr (by omega) own5 gr5); have TS := Lib.hid (text_step NP.out LOW.out ON.out BX.out (by omega) gr5); have cx5 := cell_of (i := 0) TS.out.1 rfl; have fx5 : w5.frozen? ⟨w1.heap.size, 0, none⟩ = false := free_of TS.out.1; have bl5 : w1.heap.size < w5.heap.size := lt_size TS.out.1; clear own5 gr5 at5 cx fx bl)
      have NPs := Lib.hid (Q.out.1.fr (w' := w5.setCell ⟨w1.heap.size, 0, none⟩ (.slice (some ⟨g5, 0, none⟩) (P.length + 1) cap5)) (S := [w1.heap.size]) ((Fr.refl _ _).setCell (by simp) _) (by
        intro x hx hm
        have := (Q.out.1.own.lt x hx).1
        simp at hm
        omega))
      have ONs := Lib.hid (TS.out.2.fr (w' := w5.setCell ⟨w1.heap.size, 0, none⟩ (.slice (some ⟨g5, 0, none⟩) (P.length + 1) cap5)) (S := [w1.heap.size]) ((Fr.refl _ _).setCell (by simp) _) (by
        intro x hx hm
        have := (TS.out.2.own.lt x hx).1
        simp at hm
        omega))
      have FS : Hid (Fr [] w (w5.setCell ⟨w1.heap.size, 0, none⟩ (.slice (some ⟨g5, 0, none⟩) (P.length + 1) cap5))) := Lib.hid (Q.out.2.setCell (.inr hs1) _)
      have BXs : Hid (blk (w5.setCell ⟨w1.heap.size, 0, none⟩ (.slice (some ⟨g5, 0, none⟩) (P.length + 1) cap5)) w1.heap.size = some (.cells #[.slice (some ⟨g5, 0, none⟩) (P ++ [r]).length cap5] 34 (0, 0))) := Lib.hid (by
        rw [blk_set, if_pos rfl, TS.out.1, List.length_append]; rfl)
      have CT := Lib.hid (ltrim_c _ ONs.out.in)
      rw [OV.out] at CT
      clear Q TS ONs cx5 fx5 bl5
      refine CT.out.mono ?_
      rintro e w6 ⟨a6, c6, rfl, N6, F6⟩
      have I6 := Lib.hid N6.in
      have P6 := Lib.hid (NPs.out.keep F6)
      have B6 := Lib.hid (F6.at BXs.out (by simp))
      have G6 := Lib.hid (FS.out.same F6)
      clear N6 F6 CT NPs FS BXs ON NP BX F3 OW NW
      go_wp2
      go_roundg q
      case measure => exact PG
      case rel => exact ⟨a6, c6, _, _, _, rfl, PS, I6, P6, B6, G6⟩
set_option maxRecDepth 100000 in
theorem ltext_zero (w : World) (h : In w a cap L) (h0 : val L = 0) : Calls Tryz.prog 86 #[.slice a L.length cap] w fun e w' => e = .returned (.string ⟨(textOf (val L)).toArray⟩) ∧ Fr [] w w' := by
  have H := Lib.hid h
  clear h
  have HV := Lib.hid h0
  have D : Hid (∀ W, Fr [] w W → (Ending.returned (.string ⟨#[48]⟩) = .returned (.string ⟨(textOf (val L)).toArray⟩) ∧ Fr [] w W)) := Lib.hid (fun W hW => ⟨by unfold textOf; rw [h0, if_pos (by decide), dec_small (by decide)]; rfl, hW⟩)
  have HL0 : Hid ((lims (val L)).length = 0) := Lib.hid (by rw [h0]; rfl)
  have HB : Hid (decide (64 < (lims (val L)).length) = false) := Lib.hid (by rw [h0]; rfl)
  clear h0
  go_enter Tryz.func86, Tryz.ntmps86
  go_wp2_with fail
  refine (ltrim_c w H.out).mono ?_
  rintro e w1 ⟨a1, c1, rfl, N1, F1⟩
  have D := Lib.hid (D.out _ (F1.alloc (.cells #[.slice none 0 0] 34)))
  clear N1 F1
  go_wp2_with fail
  refine (lbig_c _ _ _ _).mono ?_
  rintro e w' ⟨rfl, rfl⟩
  rw [HB.out, HL0.out]
  go_wp2
  go_loopw [0] (fun s0 wr => s0 = .slice a1 0 c1 ∧ wr = w1.alloc (.cells #[.slice none 0 0] 34)) (fun _ _ => 0)
  case atStart => exact ⟨rfl, rfl⟩
  case round =>
    obtain ⟨rfl, rfl⟩ := hrel
    go_wp2
    go_ret
    exact D.out
theorem ltext_c (w : World) (h : In w a cap L) (hT : Tab w) : Calls Tryz.prog 86 #[.slice a L.length cap] w fun e w' => e = .returned (.string ⟨(textOf (val L)).toArray⟩) ∧ Fr [] w w' := by
  cases hb : fits (val L) with
  | false => exact ltext_big w h hb
  | true =>
    by_cases h0 : val L = 0
    · exact ltext_zero w h h0
    · exact ltext_pos w h hT hb h0
end
section
open Go.ChangeShapes Go.WideShapes Go.RowKit
variable {w w' w2 wr : World} {a b : Option Addr} {cap cap2 : Nat} {L M : List Nat} {B : Nat}
def Len1 (m : Nat) : Prop := (lims m).length = 1
set_option maxHeartbeats 4000000 in
set_option maxRecDepth 100000 in
theorem ldiv_one (w : World) (ha : In w a cap L) (hb : In w b cap2 M) {n m : Nat} (hn : val L = n) (hm : val M = m) (hx : (lims n).length ≤ 64) (hy : (lims m).length ≤ 64) (hff : (fits n && fits m) = true) (hm0 : m ≠ 0) (hlt : ¬ n < m) (h1' : Len1 m) : Calls Tryz.prog 53 #[.slice a L.length cap, .slice b M.length cap2] w (DivR w n m) := by
  have HA := Lib.hid ha
  have HB := Lib.hid hb
  have HN := Lib.hid hn
  have HM := Lib.hid hm
  have D : Hid (∀ W a1 c1 a2 c2, Nw W w.heap.size a1 c1 (lims (n / m)) → Nw W w.heap.size a2 c2 (lims (n % m)) → Fr [] w W → DivR w n m (.returned (.tuple #[.slice a1 (lims (n / m)).length c1, .slice a2 (lims (n % m)).length c2, .int .i64 0])) W) := Lib.hid (fun W a1 c1 a2 c2 h1 h2 hW => by
    unfold DivR; rw [hff, if_neg (by simp), if_neg hm0]; exact ⟨a1, c1, a2, c2, rfl, h1, h2, hW⟩)
  obtain ⟨q, r, hqr⟩ : ∃ q r, QR n m q r := ⟨_, _, rfl, rfl⟩
  rw [hqr.1, hqr.2] at D
  have HM0 := Lib.hid hm0
  have hlm : 0 < (lims m).length := lims_len_pos.2 hm0
  have hlz : ((((lims m).length : Nat) : Int) == 0) = false := by rw [beq_eq_false_iff_ne]; omega
  have bx : decide (64 < (lims n).length) = false := by simpa using hx
  have by_ : decide (64 < (lims m).length) = false := by simpa using hy
  have BX := Lib.hid bx
  have BY := Lib.hid by_
  clear ha hb hn hm hff hm0 bx by_
  have HC : Hid (cmpN n m = 0 ∨ cmpN n m = 1) := Lib.hid (by unfold cmpN; rw [if_neg hlt]; split; exact .inr rfl; exact .inl rfl)
  have hle := lims_len_le (show m ≤ n by omega)
  go_enter Tryz.func53, Tryz.ntmps53
  go_wp2_with fail
  refine (ltrim_c w HA.out).mono ?_
  rintro e w1 ⟨a1, c1, rfl, N1, F1⟩
  rw [HN.out] at N1 ⊢
  have HB1 := Lib.hid (HB.out.keep F1)
  have N1 := Lib.hid N1
  have F1 := Lib.hid F1
  go_wp2_with fail
  refine (ltrim_c w1 HB1.out).mono ?_
  rintro e w2 ⟨a2, c2, rfl, N2, F2⟩
  rw [HM.out] at N2 ⊢
  have X := Lib.hid (N1.out.keep F2).in
  have Y := Lib.hid N2.in
  have FF := Lib.hid (F1.out.same F2)
  clear N2 F2 F1 N1 HB1 HA HB
  go_wp2_with fail
  refine (lbig_c _ _ _ _).mono ?_
  rintro e w' ⟨rfl, rfl⟩
  rw [BX.out]
  go_wp2_with fail
  refine (lbig_c _ _ _ _).mono ?_
  rintro e w' ⟨rfl, rfl⟩
  rw [BY.out]
  go_wp2_with fail
  refine (order_c w2 _ _ X.out Y.out).mono ?_
  rintro e w3 ⟨rfl, F3⟩
  have X := Lib.hid (X.out.keep F3)
  have Y := Lib.hid (Y.out.keep F3)
  have FF := Lib.hid (FF.out.same F3)
  clear F3
  have h1 : (lims m).length = 1 := h1'
  obtain ⟨bb, bo, rfl, bl, bc⟩ := Y.out.at (i := 0) (by omega)
  have HMV := Lib.hid (one_of_len h1)
  rw [HMV.out, val_lims, Nat.add_zero] at bc
  have hm32 : m < 4294967296 := by have := (len_lims (n := m) (k := 1)).1 (by omega); omega
  have hlm0 : 0 < m := Nat.pos_of_ne_zero HM0.out
  have H1 := Lib.hid h1
  rw [h1]
  clear h1 hlz hlm hle hy
  rcases HC.out with hc | hc
  all_goals
    rw [hc]
    have CS := Lib.hid (lshort_c w3 X.out m hlm0 hm32)
    rw [val_lims] at CS
    have hr : r < 4294967296 := by have := Nat.mod_lt n hlm0; rw [hqr.2] at this; omega
    have LR := Lib.hid (fun W => lof_c W r (by omega))
    go_wp2_with fail
    refine CS.out.mono ?_
    rintro e w4 ⟨a4, c4, O, rfl, hOl, hOv, hON, hOF⟩
    rw [hqr.2]
    have CT := Lib.hid (ltrim_c w4 hON.in)
    rw [hOv, hqr.1] at CT
    have FF := Lib.hid (FF.out.same hOF)
    clear hOl hOv hON hOF CS
    go_wp2_with fail
    refine CT.out.mono ?_
    rintro e w5 ⟨a5, c5, rfl, N5, F5⟩
    have N5 := Lib.hid N5
    have F5 := Lib.hid F5
    go_wp2_with fail
    refine (LR.out w5).mono ?_
    rintro e w6 ⟨a6, c6, rfl, N6, F6⟩
    have E := Lib.hid (D.out w6 a5 c5 a6 c6 ((N5.out.keep F6).base FF.out.size) (N6.base (Nat.le_trans FF.out.size F5.out.size)) (FF.out.same (F5.out.same F6)))
    clear N6 F6 D N5 F5
    go_wp2
    go_ret3
    exact E.out
set_option maxHeartbeats 4000000 in
set_option maxRecDepth 100000 in
theorem ldiv_long (w : World) (ha : In w a cap L) (hb : In w b cap2 M) {n m : Nat} (hn : val L = n) (hm : val M = m) (hx : (lims n).length ≤ 64) (hy : (lims m).length ≤ 64) (hff : (fits n && fits m) = true) (hm0 : m ≠ 0) (hlt : ¬ n < m) (h1 : ¬ (lims m).length = 1) : Calls Tryz.prog 53 #[.slice a L.length cap, .slice b M.length cap2] w (DivR w n m) := by
  have HA := Lib.hid ha
  have HB := Lib.hid hb
  have HN := Lib.hid hn
  have HM := Lib.hid hm
  have D : Hid (∀ W a1 c1 a2 c2, Nw W w.heap.size a1 c1 (lims (n / m)) → Nw W w.heap.size a2 c2 (lims (n % m)) → Fr [] w W → DivR w n m (.returned (.tuple #[.slice a1 (lims (n / m)).length c1, .slice a2 (lims (n % m)).length c2, .int .i64 0])) W) := Lib.hid (fun W a1 c1 a2 c2 h1 h2 hW => by
    unfold DivR; rw [hff, if_neg (by simp), if_neg hm0]; exact ⟨a1, c1, a2, c2, rfl, h1, h2, hW⟩)
  obtain ⟨q, r, hqr⟩ : ∃ q r, QR n m q r := ⟨_, _, rfl, rfl⟩
  rw [hqr.1, hqr.2] at D
  have HM0 := Lib.hid hm0
  have hlm : 0 < (lims m).length := lims_len_pos.2 hm0
  have hlz : ((((lims m).length : Nat) : Int) == 0) = false := by rw [beq_eq_false_iff_ne]; omega
  have bx : decide (64 < (lims n).length) = false := by simpa using hx
  have by_ : decide (64 < (lims m).length) = false := by simpa using hy
  have BX := Lib.hid bx
  have BY := Lib.hid by_
  clear ha hb hn hm hff hm0 bx by_
  have HC : Hid (cmpN n m = 0 ∨ cmpN n m = 1) := Lib.hid (by unfold cmpN; rw [if_neg hlt]; split; exact .inr rfl; exact .inl rfl)
  have hle := lims_len_le (show m ≤ n by omega)
  go_enter Tryz.func53, Tryz.ntmps53
  go_wp2_with fail
  refine (ltrim_c w HA.out).mono ?_
  rintro e w1 ⟨a1, c1, rfl, N1, F1⟩
  rw [HN.out] at N1 ⊢
  have HB1 := Lib.hid (HB.out.keep F1)
  have N1 := Lib.hid N1
  have F1 := Lib.hid F1
  go_wp2_with fail
  refine (ltrim_c w1 HB1.out).mono ?_
  rintro e w2 ⟨a2, c2, rfl, N2, F2⟩
  rw [HM.out] at N2 ⊢
  have X := Lib.hid (N1.out.keep F2).in
  have Y := Lib.hid N2.in
  have FF := Lib.hid (F1.out.same F2)
  clear N2 F2 F1 N1 HB1 HA HB
  go_wp2_with fail
  refine (lbig_c _ _ _ _).mono ?_
  rintro e w' ⟨rfl, rfl⟩
  rw [BX.out]
  go_wp2_with fail
  refine (lbig_c _ _ _ _).mono ?_
  rintro e w' ⟨rfl, rfl⟩
  rw [BY.out]
  go_wp2_with fail
  refine (order_c w2 _ _ X.out Y.out).mono ?_
  rintro e w3 ⟨rfl, F3⟩
  have X := Lib.hid (X.out.keep F3)
  have Y := Lib.hid (Y.out.keep F3)
  have FF := Lib.hid (FF.out.same F3)
  clear F3
  obtain ⟨l, hl⟩ : ∃ l, (lims m).length = l + 2 := ⟨(lims m).length - 2, by omega⟩
  have HL2 := Lib.hid hl
  rcases HC.out with hc | hc
  all_goals
    rw [hc]
    have CS := Lib.hid (llong_c w3 n m l X.out Y.out HL2.out hle hx)
    rw [hl] at CS
    go_wp2_with fail
    refine CS.out.mono ?_
    rintro e w4 ⟨a4, c4, O, a5, c5, R, rfl, hOv, hRv, hO, hR, hF⟩
    have CT := Lib.hid (ltrim_c w4 hO)
    rw [hOv, hqr.1] at CT
    rw [hqr.2] at hRv
    have RV := Lib.hid hRv
    have RI := Lib.hid hR
    have FF := Lib.hid (FF.out.same hF)
    clear hOv hO hRv hR hF CS
    go_wp2_with fail
    refine CT.out.mono ?_
    rintro e w5 ⟨a6, c6, rfl, N5, F5⟩
    have N5 := Lib.hid N5
    have CR := Lib.hid (ltrim_c w5 (RI.out.keep F5))
    rw [RV.out] at CR
    have F5 := Lib.hid F5
    go_wp2_with fail
    refine CR.out.mono ?_
    rintro e w6 ⟨a7, c7, rfl, N6, F6⟩
    have E := Lib.hid (D.out w6 a6 c6 a7 c7 ((N5.out.keep F6).base FF.out.size) (N6.base (Nat.le_trans FF.out.size F5.out.size)) (FF.out.same (F5.out.same F6)))
    clear N6 F6 D N5 F5
    go_wp2
    go_ret3
    exact E.out
set_option maxHeartbeats 4000000 in
set_option maxRecDepth 100000 in
theorem ldiv_c (w : World) (ha : In w a cap L) (hb : In w b cap2 M) : Calls Tryz.prog 53 #[.slice a L.length cap, .slice b M.length cap2] w (DivR w (val L) (val M)) := by
  have HA := Lib.hid ha
  have HB := Lib.hid hb
  clear ha hb
  generalize hn : val L = n at *
  generalize hm : val M = m at *
  have HN := Lib.hid hn
  have HM := Lib.hid hm
  clear hn hm
  by_cases hx : (lims n).length ≤ 64
  · by_cases hy : (lims m).length ≤ 64
    · have hff : (fits n && fits m) = true := by rw [fits_len n, fits_len m, decide_eq_true hx, decide_eq_true hy]; rfl
      have bx : decide (64 < (lims n).length) = false := by simpa using hx
      have by_ : decide (64 < (lims m).length) = false := by simpa using hy
      have BX := Lib.hid bx
      have BY := Lib.hid by_
      clear bx by_
      by_cases hm0 : m = 0
      · have D : Hid (∀ W, Fr [] w W → DivR w n m (.returned (.tuple #[.slice none 0 0, .slice none 0 0, .int .i64 12])) W) := Lib.hid (fun W hW => by
          unfold DivR; rw [hff, if_neg (by simp), if_pos hm0]; exact ⟨rfl, hW⟩)
        have hl0 : (lims m).length = 0 := by rw [hm0]; rfl
        have HL0 := Lib.hid hl0
        clear hff hm0 hl0 hx hy
        go_enter Tryz.func53, Tryz.ntmps53
        go_wp2_with fail
        refine (ltrim_c w HA.out).mono ?_
        rintro e w1 ⟨a1, c1, rfl, N1, F1⟩
        rw [HN.out] at N1 ⊢
        have HB1 := Lib.hid (HB.out.keep F1)
        have F1 := Lib.hid F1
        clear N1
        go_wp2_with fail
        refine (ltrim_c w1 HB1.out).mono ?_
        rintro e w2 ⟨a2, c2, rfl, N2, F2⟩
        rw [HM.out] at N2 ⊢
        have E := Lib.hid (D.out w2 (F1.out.same F2))
        clear N2 F2 F1 HB1 HA HB D
        go_wp2_with fail
        refine (lbig_c _ _ _ _).mono ?_
        rintro e w' ⟨rfl, rfl⟩
        rw [BX.out]
        go_wp2_with fail
        refine (lbig_c _ _ _ _).mono ?_
        rintro e w' ⟨rfl, rfl⟩
        rw [BY.out, HL0.out]
        go_wp2
        go_ret3
        exact E.out
      · have hlm : 0 < (lims m).length := lims_len_pos.2 hm0
        have hlz : ((((lims m).length : Nat) : Int) == 0) = false := by rw [beq_eq_false_iff_ne]; omega
        have D : Hid (∀ W a1 c1 a2 c2, Nw W w.heap.size a1 c1 (lims (n / m)) → Nw W w.heap.size a2 c2 (lims (n % m)) → Fr [] w W → DivR w n m (.returned (.tuple #[.slice a1 (lims (n / m)).length c1, .slice a2 (lims (n % m)).length c2, .int .i64 0])) W) := Lib.hid (fun W a1 c1 a2 c2 h1 h2 hW => by
          unfold DivR; rw [hff, if_neg (by simp), if_neg hm0]; exact ⟨a1, c1, a2, c2, rfl, h1, h2, hW⟩)
        have HM0 := Lib.hid hm0
        have HFF := Lib.hid hff
        clear hff hm0
        by_cases hlt : n < m
        · have HC : Hid (cmpN n m = -1) := Lib.hid (by unfold cmpN; rw [if_pos hlt])
          have HQ : Hid (n / m = 0 ∧ n % m = n) := Lib.hid ⟨Nat.div_eq_of_lt hlt, Nat.mod_eq_of_lt hlt⟩
          rw [HQ.out.1, HQ.out.2] at D
          clear hlt hx hy
          go_enter Tryz.func53, Tryz.ntmps53
          go_wp2_with fail
          refine (ltrim_c w HA.out).mono ?_
          rintro e w1 ⟨a1, c1, rfl, N1, F1⟩
          rw [HN.out] at N1 ⊢
          have HB1 := Lib.hid (HB.out.keep F1)
          have N1 := Lib.hid N1
          have F1 := Lib.hid F1
          go_wp2_with fail
          refine (ltrim_c w1 HB1.out).mono ?_
          rintro e w2 ⟨a2, c2, rfl, N2, F2⟩
          rw [HM.out] at N2 ⊢
          have X := Lib.hid (N1.out.keep F2)
          have Y := Lib.hid N2.in
          have FF := Lib.hid (F1.out.same F2)
          clear N2 F2 F1 N1 HB1 HA HB
          go_wp2_with fail
          refine (lbig_c _ _ _ _).mono ?_
          rintro e w' ⟨rfl, rfl⟩
          rw [BX.out]
          go_wp2_with fail
          refine (lbig_c _ _ _ _).mono ?_
          rintro e w' ⟨rfl, rfl⟩
          rw [BY.out]
          go_wp2_with fail
          refine (order_c w2 _ _ X.out.in Y.out).mono ?_
          rintro e w3 ⟨rfl, F3⟩
          rw [HC.out]
          have E := Lib.hid (D.out w3 none 0 a1 c1 (Nw.nil _ _) (X.out.keep F3) (FF.out.same F3))
          clear F3 D
          go_wp2
          go_ret3
          exact E.out
        · by_cases h1 : (lims m).length = 1
          · exact ldiv_one w HA.out HB.out HN.out HM.out hx hy HFF.out HM0.out hlt h1
          · exact ldiv_long w HA.out HB.out HN.out HM.out hx hy HFF.out HM0.out hlt h1
    · have hff : (fits n && fits m) = false := by rw [fits_len n, fits_len m, decide_eq_true hx, decide_eq_false hy]; rfl
      have D : Hid (∀ W, Fr [] w W → DivR w n m (.returned (.tuple #[.slice none 0 0, .slice none 0 0, .int .i64 11])) W) := Lib.hid (fun W hW => by
        unfold DivR; rw [if_pos hff]; exact ⟨rfl, hW⟩)
      have bx : decide (64 < (lims n).length) = false := by simpa using hx
      have by_ : decide (64 < (lims m).length) = true := by simp; omega
      have BX := Lib.hid bx
      have BY := Lib.hid by_
      clear bx by_ hx hy hff
      go_enter Tryz.func53, Tryz.ntmps53
      go_wp2_with fail
      refine (ltrim_c w HA.out).mono ?_
      rintro e w1 ⟨a1, c1, rfl, N1, F1⟩
      rw [HN.out] at N1 ⊢
      have HB1 := Lib.hid (HB.out.keep F1)
      have F1 := Lib.hid F1
      clear N1
      go_wp2_with fail
      refine (ltrim_c w1 HB1.out).mono ?_
      rintro e w2 ⟨a2, c2, rfl, N2, F2⟩
      rw [HM.out] at N2 ⊢
      have E := Lib.hid (D.out w2 (F1.out.same F2))
      clear N2 F2 F1 HB1 HA HB D
      go_wp2_with fail
      refine (lbig_c _ _ _ _).mono ?_
      rintro e w' ⟨rfl, rfl⟩
      rw [BX.out]
      go_wp2_with fail
      refine (lbig_c _ _ _ _).mono ?_
      rintro e w' ⟨rfl, rfl⟩
      rw [BY.out]
      go_wp2
      go_ret3
      exact E.out
  · have hff : (fits n && fits m) = false := by rw [fits_len n, decide_eq_false hx]; rfl
    have D : Hid (∀ W, Fr [] w W → DivR w n m (.returned (.tuple #[.slice none 0 0, .slice none 0 0, .int .i64 11])) W) := Lib.hid (fun W hW => by
      unfold DivR; rw [if_pos hff]; exact ⟨rfl, hW⟩)
    have bx : decide (64 < (lims n).length) = true := by simp; omega
    have BX := Lib.hid bx
    clear bx hx hff
    go_enter Tryz.func53, Tryz.ntmps53
    go_wp2_with fail
    refine (ltrim_c w HA.out).mono ?_
    rintro e w1 ⟨a1, c1, rfl, N1, F1⟩
    rw [HN.out] at N1 ⊢
    have HB1 := Lib.hid (HB.out.keep F1)
    have F1 := Lib.hid F1
    clear N1
    go_wp2_with fail
    refine (ltrim_c w1 HB1.out).mono ?_
    rintro e w2 ⟨a2, c2, rfl, N2, F2⟩
    have E := Lib.hid (D.out w2 (F1.out.same F2))
    clear N2 F2 F1 HB1 HA HB D
    go_wp2_with fail
    refine (lbig_c _ _ _ _).mono ?_
    rintro e w' ⟨rfl, rfl⟩
    rw [BX.out]
    go_wp2
    go_ret3
    exact E.out
end
section
open Go.ChangeShapes Go.WideShapes Go.RowKit Go.Shelf
variable {w w' w2 wr : World} {a b : Option Addr} {cap cap2 : Nat} {L M : List Nat} {B : Nat}
theorem in_new (W : World) (L : List Nat) (hl : Lim L) (hs : L.length ≤ 100000) : In (W.alloc (.cells (lc L).toArray 84)) (some ⟨W.heap.size, 0, none⟩) L.length L :=
  (Nw.new (B := 0) W L L.length _ (Nat.zero_le _) hl hs (Nat.le_refl _) (by unfold maxLen; omega) (by simp [len_lc]) (by rw [List.take_of_length_le (by simp [len_lc])])).in
theorem lim_of (L : List Nat) (h : L.all (fun z => decide (z < 4294967296)) = true) : Lim L := by
  intro z hz
  rw [List.all_eq_true] at h
  simpa using h z hz
theorem top_of (L : List Nat) (h : L.getLast?.getD 1 ≠ 0) : Top L := by
  intro i hi
  have e : L.getLast? = L[i]? := by rw [List.getLast?_eq_getElem?, hi]; simp
  rw [e, List.getElem?_eq_getElem (by omega)] at h
  rw [List.getElem?_eq_getElem (by omega)]
  simpa using h
theorem lims_of (n : Nat) (L : List Nat) (hv : val L = n) (h : L.all (fun z => decide (z < 4294967296)) = true) (ht : L.getLast?.getD 1 ≠ 0) : lims n = L := by
  rw [← hv]; exact lims_val (lim_of L h) (top_of L ht)
end
end Go.Proofs.YtcjkgnafpkkjmaaGreatDoor
