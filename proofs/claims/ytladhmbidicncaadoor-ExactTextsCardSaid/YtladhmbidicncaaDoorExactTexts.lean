/- exactTexts. -/
import Derived.Test.YtladhmbidicncaaDoorExaU
import Derived.ChangeMaps5
namespace Go.Proofs.YtladhmbidicncaaDoor.exactTexts
open Go.ChangeShapes Go.WideShapes Go.RowKit Go.ChangeMaps Go.Proofs.YtladhmbidicncaaDoor
def pbN (l : List UInt8) : Nat := if parseE l = 0 then numOf l else 0
theorem parseI_flat {w w' : World} {s : Bool} {l : List UInt8} {e : Ending} (h : ParseI w s l e w') : ∃ a c, e = .returned (.tuple #[.agg #[.bool (sg s (pbN l)), .slice a (lims (pbN l)).length c], .int .i64 (parseE l : Int)]) ∧ In w' a c (lims (pbN l)) ∧ Fr [] w w' := by
  unfold ParseI at h
  by_cases he : parseE l = 0
  · rw [if_pos he] at h
    have e1 : pbN l = numOf l := if_pos he
    rw [e1, he]
    exact h
  · rw [if_neg he] at h
    have e1 : pbN l = 0 := if_neg he
    rw [e1, sg_zero]
    exact ⟨none, 0, h.1, (Nw.nil w' 0).in, h.2⟩
set_option maxRecDepth 100000 in
set_option maxHeartbeats 16000000 in
theorem walk (z1 : IA) (x : ByteArray) (W : World) (h1 : InI W z1) (hs : x.size ≤ maxLen) (hT : Tab W) :
    Calls Tryd.prog 15 #[.agg #[.bool z1.s, .slice z1.a z1.len z1.cap], .string x] W fun e W' => e = .returned (.bool true) ∧ Below W.heap.size W W' := by
  have HT := Lib.hid hT
  clear hT
  obtain ⟨s, a, ln, cap⟩ := z1
  obtain ⟨L, hL⟩ := h1
  have hL : InA W a ln cap L := hL
  obtain ⟨l, rfl⟩ : ∃ l : List UInt8, x = ⟨l.toArray⟩ := ⟨x.data.toList, by simp⟩
  have hsz : (ByteArray.mk l.toArray).size = l.length := rfl
  have hlm : l.length ≤ 9223372036854775807 := by rw [hsz] at hs; unfold maxLen at hs; omega
  clear hs
  show Calls Tryd.prog 15 #[.agg #[.bool s, .slice a ln cap], .string ⟨l.toArray⟩] W _
  have RA : Hid (∀ g, rightP s L = g → ∀ W', Fr [] W W' → Calls Tryd.prog 44 #[.agg #[.bool s, .slice a ln cap]] W' fun e w' => e = .returned (.bool g) ∧ Fr [] W' w') := Lib.hid (fun g e W' h => by rw [← e]; exact r2right_any W' s ln (hL.keep h))
  by_cases g8 : 800 < l.length
  · have g8I : (800 : Int) < (l.length : Int) := by omega
    clear RA hL
    have FW : Hid (Fr [] W (W.alloc (.cells #[.bool s, .slice a ln cap] 52))) := Lib.hid ((Fr.refl [] W).alloc _)
    have P := Lib.hid (Bx.new W (.bool s) (.slice a ln cap))
    have fP0 := P.out.c0
    have fP1 := P.out.c1
    have fPl := P.out.lt
    go_enter Tryd.func15, Tryd.ntmps15
    go_wp2_with fail
    refine (exactAlive_c _ (HT.out.fr FW.out)).mono ?_
    rintro e w1 ⟨rfl, F1⟩
    replace P := Lib.hid (P.out.fr F1)
    replace fP0 := P.out.c0
    replace fP1 := P.out.c1
    replace fPl := P.out.lt
    replace FW := Lib.hid (FW.out.same F1)
    clear F1
    go_wp2_with fail
    go_ret
    exact ⟨rfl, FW.out.below⟩
  · have g8I : ¬ (800 : Int) < (l.length : Int) := by omega
    cases hp : rightP s L with
    | false =>
      have RA := Lib.hid (RA.out _ hp)
      clear hp hL
      have FW : Hid (Fr [] W (W.alloc (.cells #[.bool s, .slice a ln cap] 52))) := Lib.hid ((Fr.refl [] W).alloc _)
      have P := Lib.hid (Bx.new W (.bool s) (.slice a ln cap))
      have fP0 := P.out.c0
      have fP1 := P.out.c1
      have fPl := P.out.lt
      go_enter Tryd.func15, Tryd.ntmps15
      go_wp2_with fail
      refine (exactAlive_c _ (HT.out.fr FW.out)).mono ?_
      rintro e w1 ⟨rfl, F1⟩
      replace P := Lib.hid (P.out.fr F1)
      replace fP0 := P.out.c0
      replace fP1 := P.out.c1
      replace fPl := P.out.lt
      replace FW := Lib.hid (FW.out.same F1)
      clear F1
      go_wp2_with fail
      refine (RA.out _ FW.out).mono ?_
      rintro e w2 ⟨rfl, F2⟩
      replace P := Lib.hid (P.out.fr F2)
      replace fP0 := P.out.c0
      replace fP1 := P.out.c1
      replace fPl := P.out.lt
      replace FW := Lib.hid (FW.out.same F2)
      clear F2
      go_wp2_with fail
      go_ret
      exact ⟨rfl, FW.out.below⟩
    | true =>
      have RA := Lib.hid (RA.out _ hp)
      obtain ⟨n, e1, I1, hfn, hsn, hln⟩ := right_open hL hp
      subst e1
      obtain ⟨tx, htx⟩ : ∃ tx : ByteArray, tx = ⟨(textI s n).toArray⟩ := ⟨_, rfl⟩
      have CT : Hid (∀ W', Fr [] W W' → Calls Tryd.prog 58 #[.agg #[.bool s, .slice a (lims n).length cap]] W' fun e w' => e = .returned (.string tx) ∧ Fr [] W' w') := Lib.hid (fun W' h => by rw [htx]; exact etext_c W' s n (I1.keep h) (HT.out.fr h))
      have ET : Hid (∀ W', Fr [] W W' → Calls Tryd.prog 59 #[.agg #[.bool s, .slice a (lims n).length cap]] W' fun e w' => e = .returned (.string tx) ∧ Fr [] W' w') := Lib.hid (fun W' h => by rw [htx]; exact r2text_c W' s n (I1.keep h) (by omega))
      have CP : Hid (∀ W', Calls Tryd.prog 56 #[.string ⟨l.toArray⟩] W' fun e w' => ∃ a c, e = .returned (.tuple #[.agg #[.bool (sg (negS l) (pbN (cutS l))), .slice a (lims (pbN (cutS l))).length c], .int .i64 (parseE (cutS l) : Int)]) ∧ In w' a c (lims (pbN (cutS l))) ∧ Fr [] W' w') := Lib.hid (fun W' => (eparse_c W' l (by omega)).mono (fun e w' h => parseI_flat h))
      have EP : Hid (∀ W', Calls Tryd.prog 57 #[.string ⟨l.toArray⟩] W' fun e w' => ∃ a c, e = .returned (.tuple #[.agg #[.bool (sg (negS l) (pbN (cutS l))), .slice a (lims (pbN (cutS l))).length c], .int .i64 (parseE (cutS l) : Int)]) ∧ In w' a c (lims (pbN (cutS l))) ∧ Fr [] W' w') := Lib.hid (fun W' => (r2parse_c W' l (by omega)).mono (fun e w' h => parseI_flat h))
      have SAME : Hid (∀ W' t k x c y d, In W' x c (lims k) → In W' y d (lims k) → Calls Tryd.prog 49 #[.agg #[.bool t, .slice x (lims k).length c], .agg #[.bool t, .slice y (lims k).length d]] W' fun e w' => e = .returned (.bool true) ∧ Fr [] W' w') := Lib.hid (fun W' t k x c y d h h2 => by
        have := r2same_c W' t t k k h h2
        rwa [decide_eq_true (⟨rfl, rfl⟩ : t = t ∧ k = k)] at this)
      obtain ⟨bN, hbN⟩ : ∃ bN, bN = sg (negS l) (pbN (cutS l)) := ⟨_, rfl⟩
      obtain ⟨nN, hnN⟩ : ∃ nN, nN = pbN (cutS l) := ⟨_, rfl⟩
      obtain ⟨pe, hpe⟩ : ∃ pe : Int, pe = ((parseE (cutS l) : Nat) : Int) := ⟨_, rfl⟩
      rw [← hbN, ← hnN, ← hpe] at CP EP
      clear hbN hnN hpe htx hp hL I1 hfn hsn hln
      have FW : Hid (Fr [] W (W.alloc (.cells #[.bool s, .slice a (lims n).length cap] 52))) := Lib.hid ((Fr.refl [] W).alloc _)
      have P := Lib.hid (Bx.new W (.bool s) (.slice a (lims n).length cap))
      have fP0 := P.out.c0
      have fP1 := P.out.c1
      have fPl := P.out.lt
      go_enter Tryd.func15, Tryd.ntmps15
      go_wp2_with fail
      refine (exactAlive_c _ (HT.out.fr FW.out)).mono ?_
      rintro e w1 ⟨rfl, F1⟩
      replace P := Lib.hid (P.out.fr F1)
      replace fP0 := P.out.c0
      replace fP1 := P.out.c1
      replace fPl := P.out.lt
      replace FW := Lib.hid (FW.out.same F1)
      clear F1
      go_wp2_with fail
      refine (RA.out _ FW.out).mono ?_
      rintro e w2 ⟨rfl, F2⟩
      replace P := Lib.hid (P.out.fr F2)
      replace fP0 := P.out.c0
      replace fP1 := P.out.c1
      replace fPl := P.out.lt
      replace FW := Lib.hid (FW.out.same F2)
      clear F2
      go_wp2_with fail
      clear RA HT
      refine (CP.out _).mono ?_
      rintro e w3 ⟨aX, cX, rfl, IX, F3⟩
      replace P := Lib.hid (P.out.fr (F3.alloc (.cells #[.bool bN, .slice aX (lims nN).length cX] 52)))
      replace fP0 := P.out.c0
      replace fP1 := P.out.c1
      replace fPl := P.out.lt
      replace FW := Lib.hid (FW.out.same (F3.alloc (.cells #[.bool bN, .slice aX (lims nN).length cX] 52)))
      have IX := Lib.hid (IX.keep ((Fr.refl [] _).alloc (.cells #[.bool bN, .slice aX (lims nN).length cX] 52)))
      have BX := Lib.hid (Bx.new w3 (.bool bN) (.slice aX (lims nN).length cX))
      have fBX0 := BX.out.c0
      have fBX1 := BX.out.c1
      have fBXl := BX.out.lt
      clear F3
      go_wp2_with fail
      refine (EP.out _).mono ?_
      rintro e w4 ⟨aY, cY, rfl, IY, F4⟩
      replace P := Lib.hid (P.out.fr (F4.alloc (.cells #[.bool bN, .slice aY (lims nN).length cY] 52)))
      replace fP0 := P.out.c0
      replace fP1 := P.out.c1
      replace fPl := P.out.lt
      replace BX := Lib.hid (BX.out.fr (F4.alloc (.cells #[.bool bN, .slice aY (lims nN).length cY] 52)))
      replace fBX0 := BX.out.c0
      replace fBX1 := BX.out.c1
      replace fBXl := BX.out.lt
      replace IX := Lib.hid (IX.out.keep (F4.alloc (.cells #[.bool bN, .slice aY (lims nN).length cY] 52)))
      replace FW := Lib.hid (FW.out.same (F4.alloc (.cells #[.bool bN, .slice aY (lims nN).length cY] 52)))
      have IY := Lib.hid (IY.keep ((Fr.refl [] _).alloc (.cells #[.bool bN, .slice aY (lims nN).length cY] 52)))
      have BY := Lib.hid (Bx.new w4 (.bool bN) (.slice aY (lims nN).length cY))
      have fBY0 := BY.out.c0
      have fBY1 := BY.out.c1
      have fBYl := BY.out.lt
      clear F4
      have KEEP : Hid (∀ w_, Fr [] (w4.alloc (.cells #[.bool bN, .slice aY (lims nN).length cY] 52)) w_ → (w_.cell? ⟨W.heap.size, 0, none⟩ = some (.bool s) ∧ w_.cell? ⟨W.heap.size, 1, none⟩ = some (.slice a (lims n).length cap) ∧ w_.cell? ⟨w3.heap.size, 0, none⟩ = some (.bool bN) ∧ w_.cell? ⟨w3.heap.size, 1, none⟩ = some (.slice aX (lims nN).length cX) ∧ w_.cell? ⟨w4.heap.size, 0, none⟩ = some (.bool bN) ∧ w_.cell? ⟨w4.heap.size, 1, none⟩ = some (.slice aY (lims nN).length cY))) := Lib.hid (fun w_ h => ⟨(P.out.fr h).c0, (P.out.fr h).c1, (BX.out.fr h).c0, (BX.out.fr h).c1, (BY.out.fr h).c0, (BY.out.fr h).c1⟩)
      have FZ : Hid (∀ w_, Fr [] (w4.alloc (.cells #[.bool bN, .slice aY (lims nN).length cY] 52)) w_ → Fr [] W w_) := Lib.hid (fun w_ h => FW.out.same h)
      have SS : Hid (∀ w_, Fr [] (w4.alloc (.cells #[.bool bN, .slice aY (lims nN).length cY] 52)) w_ → Calls Tryd.prog 49 #[.agg #[.bool bN, .slice aX (lims nN).length cX], .agg #[.bool bN, .slice aY (lims nN).length cY]] w_ fun e w' => e = .returned (.bool true) ∧ Fr [] w_ w') := Lib.hid (fun w_ h => SAME.out _ _ _ _ _ _ _ (IX.out.keep h) (IY.out.keep h))
      go_wp2_with fail
      go_region_held3 (fun w_ => w_.cell? ⟨W.heap.size, 0, none⟩ = some (.bool s) ∧ w_.cell? ⟨W.heap.size, 1, none⟩ = some (.slice a (lims n).length cap) ∧ w_.cell? ⟨w3.heap.size, 0, none⟩ = some (.bool bN) ∧ w_.cell? ⟨w3.heap.size, 1, none⟩ = some (.slice aX (lims nN).length cX) ∧ w_.cell? ⟨w4.heap.size, 0, none⟩ = some (.bool bN) ∧ w_.cell? ⟨w4.heap.size, 1, none⟩ = some (.slice aY (lims nN).length cY)) (with_reducible first | exact KEEP.out _ ((Fr.refl [] _).drew) | exact KEEP.out _ K3.out | exact KEEP.out _ K2.out | exact KEEP.out _ K1.out) (first | (go_at_call 58; refine Calls.mono (CT.out _ (FZ.out _ ((Fr.refl [] (w4.alloc (.cells #[.bool bN, .slice aY (lims nN).length cY] 52))).drew))) ?_; rintro e u1 ⟨rfl, G1⟩; have K1 := Lib.hid (((Fr.refl [] (w4.alloc (.cells #[.bool bN, .slice aY (lims nN).length cY] 52))).drew).same G1)) | (go_at_call 59; refine Calls.mono (ET.out _ (FZ.out _ K1.out)) ?_; rintro e u2 ⟨rfl, G2⟩; have K2 := Lib.hid (K1.out.same G2)) | (go_at_call 49; refine Calls.mono (SS.out _ K2.out) ?_; rintro e u3 ⟨rfl, G3⟩; have K3 := Lib.hid (K2.out.same G3)))
      all_goals
        go_wp2
        go_ret
        exact ⟨rfl, (FZ.out _ K3.out).below⟩
set_option maxRecDepth 100000 in
theorem lifted (os : Os) (started : os.Started) (H : Type) (enc : TypeId × Value → H) :
    ReturnsInHanded {} Tryd.checked os 15 .any (fun w args => (Rows.exactTextsSpec.pre enc Tryd.prog Tryd.f15 [] false w args ∧ laidMetH Tryd.prog listed w) ∧ sizedMet enc Tryd.prog Tryd.f15 (OpenSpec.ofChange Rows.exactTextsSpec) false w args) (Rows.exactTextsSpec.post enc Tryd.prog Tryd.f15 false true false false) := by
  refine returnsInHanded_of_change_and (C := Tryd.checked) (X := fun w _ => laidMetH Tryd.prog listed w) (fun _ _ _ hh h => h.of_heap hh) own started (by kernel_rfl) Tryd.func15
    (ChangeSpec.witness_shaped (enc := enc) (C := Tryd.checked) (os := os) (X := fun w _ => laidMetH Tryd.prog listed w) false (World.doorLaid Tryd.prog 24 os) #[zeroI, .string ⟨#[]⟩] 8 rfl (World.shaped_of_RefB (by kernel_rfl) (by kernel_rfl)) (by kernel_rfl) (by kernel_rfl) (by kernel_rfl) (door_met os _)) ?_
  intro W base args ds gs before hval0 hW _ _ hL _
  have hT := tab_of_laid hL
  have hval : ∀ (j : Nat) t v, Tryd.f15.params[j]? = some t → args[j]? = some v → Value.okWide Tryd.prog W .any base t v := hval0
  have hW' := hW
  obtain ⟨p, q, hA0, hV, rfl, hfz, hnd⟩ := hW
  have hA : DataW.TrodAll enc Tryd.prog W 0 (fun _ => true) true Tryd.f15.params.toList args.toList ds p := hA0
  rw [Tryd.params15] at hA hval
  obtain ⟨v0, vs0, d0, ds0, p0, q0, hargs, rfl, rfl, h0, r0⟩ := trodAll_cons hA
  obtain ⟨v1, vs1, d1, ds1, p1, q1, rfl, rfl, rfl, h1, r1⟩ := trodAll_cons r0
  obtain ⟨rfl, rfl, rfl⟩ := trodAll_nil r1
  obtain rfl : args = #[v0, v1] := by cases args; simp_all
  obtain ⟨rfl, rfl⟩ := trodVars_none hV
  have k0 := h0
  have lt0 : ∀ x ∈ p0, x.block < W.heap.size := by obtain ⟨m, hm⟩ := k0; exact DataW.trod_lt m _ _ _ hm
  obtain ⟨z0, rfl, w0⟩ := open_iv (hval 0 52 v0 rfl rfl) h0
  obtain ⟨a1, rfl, rfl, rfl, w1⟩ := open_string Tryd.underlying9 (hval 1 9 v1 rfl rfl) h1
  clear hA0 hval0
  refine (walk z0 a1 W w0 w1 hT).mono fun e W' ⟨he, bel⟩ => ?_
  subst he
  exact ⟨_, rfl, _, _, _, [], _, [], hW', trodAll_mk1 (shut_bool Tryd.underlying4 _), (trodAll_cons_mk (Below.trod laidOut (by kernel_rfl) (of_decide_eq_true (by kernel_rfl)) k0 bel lt0) (trodAll_cons_mk (shut_string Tryd.underlying9 w1) trodAll_mk0)), rfl, bel.frame _, fun h => by cases h⟩
theorem over : Rows.exactTextsRow.holds Tryd.pinned (OpenSpec.ofChange Rows.exactTextsSpec) :=
  OpenClaim.holds_of_wide 15 Tryd.f15 rfl rfl rfl rfl rfl rfl rfl ⟨rfl, rfl, rfl, rfl, rfl⟩ rfl rfl rfl rfl rfl (by kernel_rfl) Tryd.func15 (by kernel_rfl)
    (of_decide_eq_true (by kernel_rfl)) (by unfold Func.isWrapper; first | (rw [if_pos (by decide +kernel)]; kernel_rfl) | (rw [if_neg (by decide +kernel)]; exact ⟨rfl, rfl⟩))
    (fun os started H enc _ => lifted os started H enc)
/-- THE STATEMENT -/
theorem proved : Rows.ExactTextsCardSaid :=
  Claim7.holds_tied_plain_at .later [] [.data, .data, .data] true (true, "ea8df5c1a0e302ec682270425c9a8cf6ae00272b589ccfc6cc1f4d10a9599452") false
    over (fun _ h => by cases h) (by kernel_rfl) (fun _ h => by cases h) exactTexts_row_tie rfl ⟨rfl, rfl⟩ (by kernel_rfl) rfl
    (fun f fn hf hfn => by
      obtain rfl : f = 15 := Option.some.inj ((show Tryd.prog.funcNamed "distaff/distafflaw02.ExactTexts" = some 15 by kernel_rfl).symm.trans hf) |>.symm
      obtain rfl : fn = Tryd.f15 := (Option.some.inj (Tryd.func15.symm.trans hfn)).symm
      exact ⟨by kernel_rfl, fun j t ht => by
        rw [Tryd.params15] at ht
        have hm : t ∈ [52, 9] := by simpa using Array.mem_of_getElem? ht
        have hall : ([52, 9].all fun u => !Tryd.prog.wantsStandIn u) = true := by kernel_rfl
        exact (show Tryd.prog.wantsStandIn t = false by simpa using List.all_eq_true.1 hall t hm)⟩)
    (by kernel_rfl)
#print axioms proved
end Go.Proofs.YtladhmbidicncaaDoor.exactTexts
