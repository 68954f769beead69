/- The law CollectNames holds: the Go function returns true. No condition. -/
import Derived.Test.YtjgndfhfiekomaaColY
import Derived.ProofKit
import Derived.ChangeOld
namespace Go.Proofs.Ytjgndfhfiekomaa.collectNames
open Go.ChangeShapes Go.WideShapes Go.ChangeAt Go.RowKit
set_option linter.unusedVariables false
theorem walk (w : World) : Calls Try.prog 4 #[] w fun e w' => e = .returned (.bool true) ∧ Below w.heap.size w w' := by
  go_enter Try.func4, Try.ntmps4
  go_wp2_with fail
  refine (onew_c _ _).mono ?_
  rintro e w0 ⟨hb, b, wb, lb, rfl, H0, F0, q0, q1, q2, q3⟩
  have H0 : Hid (HeAt w0 hb b wb lb (Ar.new 2)) := Lib.hid H0
  have ARG : RowsArg w0 hb b wb lb (.slice none 0 0) [] := ⟨⟨none, 0, rfl⟩, by simp, by simp, fun i j r s _ hr _ => by simp at hr, by simp, by simp⟩
  have R1 := Lib.hid (run_law (N := 0) H0.out (HG.start (m := 2) (by omega) (by omega)) (Unmarked.start 2) (fun j o h => by simp at h) (by omega) (fun j o i h => by simp at h) _ [] [] ARG ⟨rfl, by simp⟩ (by simp) (by simp) 9 9)
  clear ARG
  go_wp2_with fail
  refine R1.out.mono ?_
  rintro e w1 ⟨cl, T, ls', G, K, C, ms, AF, _, rfl, H1, R1', F1⟩
  obtain ⟨_, hl, hm, he⟩ := AF.none (by simp)
  rw [hl, hm, he]
  have F2 : Hid (Fr [] w w1) := Lib.hid (F0.trans F1 (fun x hx => by
    simp only [List.mem_cons, List.not_mem_nil, or_false, List.map_nil] at hx
    right; omega))
  clear AF H1 R1' F1 F0 R1 hl hm he H0
  go_wp2_with fail
  refine (collectAlive_c _).mono ?_
  rintro e w2 ⟨rfl, F3⟩
  have B3 := F3.at (k := w1.heap.size) (by rw [blk_alloc, if_pos rfl]) (by simp)
  have r0 := cell_of B3 (i := 0) rfl
  have r1 := cell_of B3 (i := 1) rfl
  have r2 := cell_of B3 (i := 2) rfl
  have F4 : Hid (Fr [] w w2) := Lib.hid ((F2.out.alloc _).same F3)
  clear F3 B3 F2
  go_wp2
  go_ret
  refine ⟨rfl, Fr.below ?_⟩
  repeat (first | exact F4.out | apply Fr.alloc | apply Fr.drew)
theorem own : ownKnob Try.prog.godebug = none := by kernel_rfl
theorem laidOut : laidOutB Try.prog = true := by kernel_rfl
set_option maxRecDepth 100000 in
theorem lifted (os : Os) (started : os.Started) (H : Type) (enc : TypeId × Value → H) :
    ReturnsInHanded {} Try.checked os 4 .any (Rows.collectNamesSpec.pre6 enc Try.prog Try.f4 Rows.collectNamesRow.domain false) (Rows.collectNamesSpec.post enc Try.prog Try.f4 false true false false) := by
  refine returnsInHanded_of_change (C := Try.checked) own started (by kernel_rfl) Try.func4
    (ChangeSpec.witness6 (enc := enc) (C := Try.checked) false ⟨#[], #[], []⟩ 8 (by kernel_rfl) (by kernel_rfl) (by kernel_rfl) (by kernel_rfl)) ?_
  intro W base args ds gs before hval0 hW hcnd _
  have hval : ∀ (j : Nat) t v, Try.f4.params[j]? = some t → args[j]? = some v → Value.okWide Try.prog W .any base t v := hval0
  have hW' := hW
  obtain ⟨p, q, hA0, hV, rfl, hfz, hnd⟩ := hW
  have hA : DataW.TrodAll enc Try.prog W 0 (fun _ => true) true Try.f4.params.toList args.toList ds p := hA0
  rw [Try.params4] at hA hval
  obtain ⟨rfl, rfl, rfl⟩ := trodAll_none hA
  obtain ⟨rfl, rfl⟩ := trodVars_none hV
  clear hA0 hval0
  refine (walk  W ).mono fun e W' ⟨he, bel⟩ => ?_
  subst he
  exact ⟨_, rfl, _, _, _, [], _, [], hW', trodAll_mk1 (shut_bool Try.underlying4 _), rfl, rfl, bel.frame _, fun h => by cases h⟩
theorem over : Rows.collectNamesRow.holds Try.pinned (OpenSpec.ofChange Rows.collectNamesSpec) :=
  OpenClaim.holds_of_wide 4 Try.f4 rfl rfl rfl rfl rfl rfl rfl ⟨rfl, rfl, rfl, rfl, rfl⟩ rfl rfl rfl rfl rfl (by kernel_rfl) Try.func4 (by kernel_rfl)
    (of_decide_eq_true (by kernel_rfl)) (by unfold Func.isWrapper; first | (rw [if_pos (by decide +kernel)]; kernel_rfl) | (rw [if_neg (by decide +kernel)]; exact ⟨rfl, rfl⟩))
    (fun os started H enc _ => lifted os started H enc)
/-- THE STATEMENT -/
theorem proved : Rows.CollectNamesSaid := over
#print axioms proved
end Go.Proofs.Ytjgndfhfiekomaa.collectNames
