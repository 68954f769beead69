/- The law WordBack holds for every input: the Go function returns true and leaves its arguments as they were. No condition. -/
import Derived.Test.YtdckjcfmknbjkaaWalks
import Derived.ProofKit
import Derived.OpenShut
namespace Go.Proofs.Ytdckjcfmknbjkaa.wordBack
open Go.ChangeShapes Go.WideShapes Go.ChangeAt Go.RowKit
set_option linter.unusedVariables false      -- a walk need not use every 'w<i>' (that an integer argument fits its kind)

theorem own : ownKnob Try.prog.godebug = none := by kernel_rfl

def inR (n : Int) : Prop := -1152921504606846976 ≤ n ∧ n ≤ 1152921504606846975
theorem small_yes (n : Int) (w : World) (h : inR n) : Calls Try.prog 8 #[.int .i64 n] w fun e w' => e = .returned (.tuple #[.int .u64 (mk 0 n), .bool true]) ∧ w = w' := by
  have := small_c n w
  unfold inR at h
  rw [if_pos h, decide_eq_true h] at this
  exact this
theorem small_no (n : Int) (w : World) (h : ¬ inR n) : Calls Try.prog 8 #[.int .i64 n] w fun e w' => e = .returned (.tuple #[.int .u64 0, .bool false]) ∧ w = w' := by
  have := small_c n w
  unfold inR at h
  rw [if_neg h, decide_eq_false h] at this
  exact this
theorem back_val (n : Int) (h : inR n) : mkVal (mk 0 n) = n := by
  unfold inR at h; unfold mkVal mk
  by_cases h0 : 0 ≤ n
  · rw [if_neg (by omega)]; omega
  · rw [if_pos (by omega)]; omega
theorem back_right (n : Int) : rightB (mk 0 n) = true := by unfold rightB mk; simp
theorem back_kind (n : Int) : mk 0 n % 8 = 0 := by unfold mk; omega
theorem back_eq (a b : Int) (ha : inR a) (hb : inR b) (h : (a == b) = false) : (mk 0 a == mk 0 b) = false := by
  unfold inR at ha hb; unfold mk; simp at h ⊢; omega
theorem val1 (n : Int) (h : 0 ≤ n ∧ n ≤ 16777215) : mkVal (mk 1 n) = n := by unfold mkVal mk; rw [if_neg (by omega)]; omega
theorem right2 (n : Int) (h : 0 ≤ n ∧ n ≤ 16777215) : rightB (mk 2 n) = true := by unfold rightB mk; simp; omega
theorem eq3 (a b : Int) (ha : 0 ≤ a ∧ a ≤ 16777215) (hb : 0 ≤ b ∧ b ≤ 16777215) (h : (a == b) = false) : (mk 3 a == mk 3 b) = false := by
  unfold mk; simp at h ⊢; omega
theorem ne31 (a : Int) : (mk 3 a != mk 1 a) = true := by unfold mk; simp
theorem ne42 (a : Int) : (mk 4 a != mk 2 a) = true := by unfold mk; simp
set_option maxHeartbeats 1000000 in
/-- The walk, with what the tests want to know laid beside it. -/
theorem walkOut (a0 a1 : Int) (w : World) (f1 : inR a0 → mkVal (mk 0 a0) = a0) (ho : ¬ inR a0 ∨ ¬ inR a1) (hr : (a0 < 0) ∨ (16777215 < a0) ∨ (a1 < 0) ∨ (16777215 < a1)) (ba : -9223372036854775808 ≤ a0 ∧ a0 ≤ 9223372036854775807) (bb : -9223372036854775808 ≤ a1 ∧ a1 ≤ 9223372036854775807) :
    Calls Try.prog 6 #[.int .i64 a0, .int .i64 a1] w fun e w' => e = .returned (.bool true) ∧ Grown w w' := by
  have f2 := back_right a0
  have f3 := back_kind a0
  by_cases ha : inR a0
  · have hb : ¬ inR a1 := by rcases ho with h | h; exact absurd ha h; exact h
    have g1 : -1152921504606846976 ≤ a0 := ha.1
    have g2 : a0 ≤ 1152921504606846975 := ha.2
    have f1 := f1 ha
    clear ho
    go_enter Try.func6, Try.ntmps6
    go_wp2_with (first | (go_at_call 7; refine (alive_c _).mono ?_; rintro e w' ⟨rfl, rfl⟩) | (go_at_call 8; first | (refine (small_yes _ _ ‹_›).mono ?_; rintro e w' ⟨rfl, rfl⟩) | (refine (small_no _ _ ‹_›).mono ?_; rintro e w' ⟨rfl, rfl⟩)) | (go_at_call 22; refine (least_c _).mono ?_; rintro e w' ⟨rfl, rfl⟩) | (go_at_call 23; refine (most_c _).mono ?_; rintro e w' ⟨rfl, rfl⟩) | (go_at_call 18; refine (value_c _ _ (mk_bd _ _ (by omega) (by omega)).1 (mk_bd _ _ (by omega) (by omega)).2).mono ?_; rintro e w' ⟨rfl, rfl⟩) | (go_at_call 20; refine (right_c _ _ (mk_bd _ _ (by omega) (by omega)).1 (mk_bd _ _ (by omega) (by omega)).2).mono ?_; rintro e w' ⟨rfl, rfl⟩) | (go_at_call 16; refine (kind_c _ _ (mk_bd _ _ (by omega) (by omega)).1 (mk_bd _ _ (by omega) (by omega)).2).mono ?_; rintro e w' ⟨rfl, rfl⟩) | (go_at_call 10; refine (place_c _ _).mono ?_; rintro e w' ⟨rfl, rfl⟩) | (go_at_call 12; refine (char_c _ _).mono ?_; rintro e w' ⟨rfl, rfl⟩) | (go_at_call 13; refine (symbol_c _ _).mono ?_; rintro e w' ⟨rfl, rfl⟩) | (go_at_call 14; refine (prim_c _ _).mono ?_; rintro e w' ⟨rfl, rfl⟩))
    all_goals first | (exfalso; omega) | (go_ret; exact ⟨ret_bool rfl, Grown.refl _⟩)
  · clear f1 ho
    have g : a0 < -1152921504606846976 ∨ 1152921504606846975 < a0 := by unfold inR at ha; omega
    rcases g with g | g
    all_goals
      by_cases hb : inR a1
      all_goals
        go_enter Try.func6, Try.ntmps6
        go_wp2_with (first | (go_at_call 7; refine (alive_c _).mono ?_; rintro e w' ⟨rfl, rfl⟩) | (go_at_call 8; first | (refine (small_yes _ _ ‹_›).mono ?_; rintro e w' ⟨rfl, rfl⟩) | (refine (small_no _ _ ‹_›).mono ?_; rintro e w' ⟨rfl, rfl⟩)) | (go_at_call 22; refine (least_c _).mono ?_; rintro e w' ⟨rfl, rfl⟩) | (go_at_call 23; refine (most_c _).mono ?_; rintro e w' ⟨rfl, rfl⟩) | (go_at_call 18; refine (value_c _ _ (mk_bd _ _ (by omega) (by omega)).1 (mk_bd _ _ (by omega) (by omega)).2).mono ?_; rintro e w' ⟨rfl, rfl⟩) | (go_at_call 20; refine (right_c _ _ (mk_bd _ _ (by omega) (by omega)).1 (mk_bd _ _ (by omega) (by omega)).2).mono ?_; rintro e w' ⟨rfl, rfl⟩) | (go_at_call 16; refine (kind_c _ _ (mk_bd _ _ (by omega) (by omega)).1 (mk_bd _ _ (by omega) (by omega)).2).mono ?_; rintro e w' ⟨rfl, rfl⟩) | (go_at_call 10; refine (place_c _ _).mono ?_; rintro e w' ⟨rfl, rfl⟩) | (go_at_call 12; refine (char_c _ _).mono ?_; rintro e w' ⟨rfl, rfl⟩) | (go_at_call 13; refine (symbol_c _ _).mono ?_; rintro e w' ⟨rfl, rfl⟩) | (go_at_call 14; refine (prim_c _ _).mono ?_; rintro e w' ⟨rfl, rfl⟩))
        all_goals first | (exfalso; omega) | (go_ret; exact ⟨ret_bool rfl, Grown.refl _⟩)
theorem walkIn (a0 a1 : Int) (w : World) (ha : inR a0) (hb : inR a1) (hr : (a0 < 0) ∨ (16777215 < a0) ∨ (a1 < 0) ∨ (16777215 < a1)) :
    Calls Try.prog 6 #[.int .i64 a0, .int .i64 a1] w fun e w' => e = .returned (.bool true) ∧ Grown w w' := by
  have f1 := back_val a0 ha
  have f2 := back_right a0
  have f3 := back_kind a0
  have f4 := back_eq a0 a1 ha hb
  have g1 : -1152921504606846976 ≤ a0 := ha.1
  have g2 : a0 ≤ 1152921504606846975 := ha.2
  by_cases he : a0 = a1
  · subst he
    clear f4
    go_enter Try.func6, Try.ntmps6
    go_wp2_with (first | (go_at_call 7; refine (alive_c _).mono ?_; rintro e w' ⟨rfl, rfl⟩) | (go_at_call 8; first | (refine (small_yes _ _ ‹_›).mono ?_; rintro e w' ⟨rfl, rfl⟩) | (refine (small_no _ _ ‹_›).mono ?_; rintro e w' ⟨rfl, rfl⟩)) | (go_at_call 22; refine (least_c _).mono ?_; rintro e w' ⟨rfl, rfl⟩) | (go_at_call 23; refine (most_c _).mono ?_; rintro e w' ⟨rfl, rfl⟩) | (go_at_call 18; refine (value_c _ _ (mk_bd _ _ (by omega) (by omega)).1 (mk_bd _ _ (by omega) (by omega)).2).mono ?_; rintro e w' ⟨rfl, rfl⟩) | (go_at_call 20; refine (right_c _ _ (mk_bd _ _ (by omega) (by omega)).1 (mk_bd _ _ (by omega) (by omega)).2).mono ?_; rintro e w' ⟨rfl, rfl⟩) | (go_at_call 16; refine (kind_c _ _ (mk_bd _ _ (by omega) (by omega)).1 (mk_bd _ _ (by omega) (by omega)).2).mono ?_; rintro e w' ⟨rfl, rfl⟩) | (go_at_call 10; refine (place_c _ _).mono ?_; rintro e w' ⟨rfl, rfl⟩) | (go_at_call 12; refine (char_c _ _).mono ?_; rintro e w' ⟨rfl, rfl⟩) | (go_at_call 13; refine (symbol_c _ _).mono ?_; rintro e w' ⟨rfl, rfl⟩) | (go_at_call 14; refine (prim_c _ _).mono ?_; rintro e w' ⟨rfl, rfl⟩))
    all_goals first | (exfalso; omega) | (go_ret; exact ⟨ret_bool rfl, Grown.refl _⟩)
  · have e0 : (a0 == a1) = false := by simpa using he
    have e1 := f4 e0
    clear f4
    go_enter Try.func6, Try.ntmps6
    go_wp2_with (first | (go_at_call 7; refine (alive_c _).mono ?_; rintro e w' ⟨rfl, rfl⟩) | (go_at_call 8; first | (refine (small_yes _ _ ‹_›).mono ?_; rintro e w' ⟨rfl, rfl⟩) | (refine (small_no _ _ ‹_›).mono ?_; rintro e w' ⟨rfl, rfl⟩)) | (go_at_call 22; refine (least_c _).mono ?_; rintro e w' ⟨rfl, rfl⟩) | (go_at_call 23; refine (most_c _).mono ?_; rintro e w' ⟨rfl, rfl⟩) | (go_at_call 18; refine (value_c _ _ (mk_bd _ _ (by omega) (by omega)).1 (mk_bd _ _ (by omega) (by omega)).2).mono ?_; rintro e w' ⟨rfl, rfl⟩) | (go_at_call 20; refine (right_c _ _ (mk_bd _ _ (by omega) (by omega)).1 (mk_bd _ _ (by omega) (by omega)).2).mono ?_; rintro e w' ⟨rfl, rfl⟩) | (go_at_call 16; refine (kind_c _ _ (mk_bd _ _ (by omega) (by omega)).1 (mk_bd _ _ (by omega) (by omega)).2).mono ?_; rintro e w' ⟨rfl, rfl⟩) | (go_at_call 10; refine (place_c _ _).mono ?_; rintro e w' ⟨rfl, rfl⟩) | (go_at_call 12; refine (char_c _ _).mono ?_; rintro e w' ⟨rfl, rfl⟩) | (go_at_call 13; refine (symbol_c _ _).mono ?_; rintro e w' ⟨rfl, rfl⟩) | (go_at_call 14; refine (prim_c _ _).mono ?_; rintro e w' ⟨rfl, rfl⟩))
    all_goals first | (exfalso; omega) | (go_ret; exact ⟨ret_bool rfl, Grown.refl _⟩)
theorem walkPlace (a0 a1 : Int) (w : World) (h0 : 0 ≤ a0 ∧ a0 ≤ 16777215) (h1 : 0 ≤ a1 ∧ a1 ≤ 16777215) :
    Calls Try.prog 6 #[.int .i64 a0, .int .i64 a1] w fun e w' => e = .returned (.bool true) ∧ Grown w w' := by
  have ha : inR a0 := by unfold inR; omega
  have hb : inR a1 := by unfold inR; omega
  have f1 := back_val a0 ha
  have f2 := back_right a0
  have f3 := back_kind a0
  have f4 := back_eq a0 a1 ha hb
  have f5 := val1 a0 h0
  have f6 := right2 a0 h0
  have f7 := ne31 a0
  have f8 := ne42 a0
  have f9 := eq3 a0 a1 h0 h1
  have g1 : 0 ≤ a0 := h0.1
  have g2 : a0 ≤ 16777215 := h0.2
  have g3 : 0 ≤ a1 := h1.1
  have g4 : a1 ≤ 16777215 := h1.2
  by_cases he : a0 = a1
  · subst he
    clear f4 f9
    go_enter Try.func6, Try.ntmps6
    go_wp2_with (first | (go_at_call 7; refine (alive_c _).mono ?_; rintro e w' ⟨rfl, rfl⟩) | (go_at_call 8; first | (refine (small_yes _ _ ‹_›).mono ?_; rintro e w' ⟨rfl, rfl⟩) | (refine (small_no _ _ ‹_›).mono ?_; rintro e w' ⟨rfl, rfl⟩)) | (go_at_call 22; refine (least_c _).mono ?_; rintro e w' ⟨rfl, rfl⟩) | (go_at_call 23; refine (most_c _).mono ?_; rintro e w' ⟨rfl, rfl⟩) | (go_at_call 18; refine (value_c _ _ (mk_bd _ _ (by omega) (by omega)).1 (mk_bd _ _ (by omega) (by omega)).2).mono ?_; rintro e w' ⟨rfl, rfl⟩) | (go_at_call 20; refine (right_c _ _ (mk_bd _ _ (by omega) (by omega)).1 (mk_bd _ _ (by omega) (by omega)).2).mono ?_; rintro e w' ⟨rfl, rfl⟩) | (go_at_call 16; refine (kind_c _ _ (mk_bd _ _ (by omega) (by omega)).1 (mk_bd _ _ (by omega) (by omega)).2).mono ?_; rintro e w' ⟨rfl, rfl⟩) | (go_at_call 10; refine (place_c _ _).mono ?_; rintro e w' ⟨rfl, rfl⟩) | (go_at_call 12; refine (char_c _ _).mono ?_; rintro e w' ⟨rfl, rfl⟩) | (go_at_call 13; refine (symbol_c _ _).mono ?_; rintro e w' ⟨rfl, rfl⟩) | (go_at_call 14; refine (prim_c _ _).mono ?_; rintro e w' ⟨rfl, rfl⟩))
    all_goals first | (exfalso; omega) | (go_ret; exact ⟨ret_bool rfl, Grown.refl _⟩)
  · have e0 : (a0 == a1) = false := by simpa using he
    have e1 := f4 e0
    have e2 := f9 e0
    clear f4 f9
    go_enter Try.func6, Try.ntmps6
    go_wp2_with (first | (go_at_call 7; refine (alive_c _).mono ?_; rintro e w' ⟨rfl, rfl⟩) | (go_at_call 8; first | (refine (small_yes _ _ ‹_›).mono ?_; rintro e w' ⟨rfl, rfl⟩) | (refine (small_no _ _ ‹_›).mono ?_; rintro e w' ⟨rfl, rfl⟩)) | (go_at_call 22; refine (least_c _).mono ?_; rintro e w' ⟨rfl, rfl⟩) | (go_at_call 23; refine (most_c _).mono ?_; rintro e w' ⟨rfl, rfl⟩) | (go_at_call 18; refine (value_c _ _ (mk_bd _ _ (by omega) (by omega)).1 (mk_bd _ _ (by omega) (by omega)).2).mono ?_; rintro e w' ⟨rfl, rfl⟩) | (go_at_call 20; refine (right_c _ _ (mk_bd _ _ (by omega) (by omega)).1 (mk_bd _ _ (by omega) (by omega)).2).mono ?_; rintro e w' ⟨rfl, rfl⟩) | (go_at_call 16; refine (kind_c _ _ (mk_bd _ _ (by omega) (by omega)).1 (mk_bd _ _ (by omega) (by omega)).2).mono ?_; rintro e w' ⟨rfl, rfl⟩) | (go_at_call 10; refine (place_c _ _).mono ?_; rintro e w' ⟨rfl, rfl⟩) | (go_at_call 12; refine (char_c _ _).mono ?_; rintro e w' ⟨rfl, rfl⟩) | (go_at_call 13; refine (symbol_c _ _).mono ?_; rintro e w' ⟨rfl, rfl⟩) | (go_at_call 14; refine (prim_c _ _).mono ?_; rintro e w' ⟨rfl, rfl⟩))
    all_goals first | (exfalso; omega) | (go_ret; exact ⟨ret_bool rfl, Grown.refl _⟩)
/-! ### STEP 1: THE WALK: the Go text returns true. 'Grown w w'': the world has at most new blocks (Derived/RowKit3.lean). Part the cases AHEAD of 'go_enter' where a test parts the walk; take each callee by a contract of your own. -/
theorem walk (a0 : Int) (a1 : Int) (w0 : (Lit.int .i64 a0).wf = true) (w1 : (Lit.int .i64 a1).wf = true) (w : World) :
    Calls Try.prog 6 #[.int .i64 a0, .int .i64 a1] w fun e w' => e = .returned (.bool true) ∧ Grown w w' := by
  have ba := bounds_i64 w0
  have bb := bounds_i64 w1
  by_cases hp : 0 ≤ a0 ∧ a0 ≤ 16777215 ∧ 0 ≤ a1 ∧ a1 ≤ 16777215
  · exact walkPlace a0 a1 w (by omega) (by omega)
  have hr : (a0 < 0) ∨ (16777215 < a0) ∨ (a1 < 0) ∨ (16777215 < a1) := by omega
  by_cases ha : inR a0
  · by_cases hb : inR a1
    · exact walkIn a0 a1 w ha hb hr
    · exact walkOut a0 a1 w (back_val a0) (.inr hb) hr ba bb
  · exact walkOut a0 a1 w (back_val a0) (.inl ha) hr ba bb

/-! ### THE ROW's STEP: WRITTEN OUT: LEAVE IT -/
set_option maxRecDepth 100000 in
theorem lifted (os : Os) (started : os.Started) (H : Type) (enc : TypeId × Value → H) :
    ReturnsInHanded {} Try.checked os 6 .any (Rows.wordBackSpec.pre6 enc Try.prog Try.f6 Rows.wordBackRow.domain false) (Rows.wordBackSpec.post enc Try.prog Try.f6 false true false false) := by
  refine returnsInHanded_of_change (C := Try.checked) own started (by kernel_rfl) Try.func6
    (ChangeSpec.witness6 (enc := enc) (C := Try.checked) false ⟨#[], #[.int .i64 0, .int .i64 0], []⟩ 8 (by kernel_rfl) (by kernel_rfl) (by kernel_rfl) (by kernel_rfl)) ?_
  intro W base args ds gs before hval0 hW hcnd _
  have hval : ∀ (j : Nat) t v, Try.f6.params[j]? = some t → args[j]? = some v → Value.okWide Try.prog W .any base t v := hval0
  have hW' := hW
  obtain ⟨p, q, hA0, hV, rfl, hfz, hnd⟩ := hW
  have hA : DataW.TrodAll enc Try.prog W 0 (fun _ => true) true Try.f6.params.toList args.toList ds p := hA0
  rw [Try.params6] at hA hval
  obtain ⟨v0, vs0, d0, ds0, p0, q0, hargs, rfl, rfl, h0, r0⟩ := trodAll_cons hA
  obtain ⟨v1, vs1, d1, ds1, p1, q1, rfl, rfl, rfl, h1, r1⟩ := trodAll_cons r0
  obtain ⟨rfl, rfl, rfl⟩ := trodAll_nil r1
  obtain rfl : args = #[v0, v1] := by cases args; simp_all
  obtain ⟨rfl, rfl⟩ := trodVars_none hV
  obtain ⟨a0, rfl, rfl, rfl, w0⟩ := open_int Try.underlying3 (hval 0 3 v0 rfl rfl) h0
  obtain ⟨a1, rfl, rfl, rfl, w1⟩ := open_int Try.underlying3 (hval 1 3 v1 rfl rfl) h1
  clear hA0 hval0
  simp only [List.append_nil] at hW'
  refine (walk a0 a1 w0 w1 W).mono fun e W' ⟨he, hg⟩ => ?_
  subst he
  exact ⟨_, rfl, post_of_same (pa := []) (pv := []) hW' (fun _ _ _ => (trodAll_cons_mk (shut_bool Try.underlying4 _) trodAll_mk0)) (fun sp _ => (trodAll_cons_mk (shut_int Try.underlying3 w0) (trodAll_cons_mk (shut_int Try.underlying3 w1) trodAll_mk0))) (fun _ _ => rfl) rfl
    (hg.frame _) hg.2.1 (ok_one (by kernel_rfl) rfl (okWide_bool_mk Try.underlying4 _))⟩

theorem over : Rows.wordBackRow.holds Try.pinned (OpenSpec.ofChange Rows.wordBackSpec) :=
  OpenClaim.holds_of_wide 6 Try.f6 rfl rfl rfl rfl rfl rfl rfl ⟨rfl, rfl, rfl, rfl, rfl⟩ rfl rfl rfl rfl rfl (by kernel_rfl) Try.func6 (by kernel_rfl)
    (of_decide_eq_true (by kernel_rfl)) (by unfold Func.isWrapper; first | (rw [if_pos (by decide +kernel)]; kernel_rfl) | (rw [if_neg (by decide +kernel)]; exact ⟨rfl, rfl⟩))
    (fun os started H enc _ => lifted os started H enc)

/-- ████ THE STATEMENT ████ -/
theorem proved : Rows.WordBackSaid :=
  over
#print axioms proved
end Go.Proofs.Ytdckjcfmknbjkaa.wordBack
