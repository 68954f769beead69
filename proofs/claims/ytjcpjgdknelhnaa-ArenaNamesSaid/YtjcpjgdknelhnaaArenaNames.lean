/- The law ArenaNames holds: the Go function returns true. No condition. -/
import Derived.Test.YtjcpjgdknelhnaaArenaI
import Derived.ProofKit
import Derived.ChangeOld
namespace Go.Proofs.Ytjcpjgdknelhnaa.arenaNames
open Go.ChangeShapes Go.WideShapes Go.ChangeAt Go.RowKit
set_option linter.unusedVariables false
theorem walk (w : World) : Calls Try.prog 3 #[] w fun e w' => e = .returned (.bool true) ∧ Below w.heap.size w w' := by
  have e1 : Hid (emptyIn (Ar.new 3).lines 3 = 3) := Lib.hid (by decide +kernel)
  have o3 : Hid ((Ar.new 3).Ok 3) := Lib.hid (Ar.new_ok 3 (by omega) (by omega))
  have o1 : Hid ((Ar.new 1).Ok 1) := Lib.hid (Ar.new_ok 1 (by omega) (by omega))
  go_enter Try.func3, Try.ntmps3
  go_wp2_with fail
  refine (new_c 3 _).mono ?_
  rintro e w1 ⟨b, wb, lb, rfl, A0, F0, hb, hwb, hlb⟩
  have A0 : Hid (ArAt w1 b wb lb (Ar.new 3)) := Lib.hid A0
  go_wp2_with fail
  refine (get_no _ A0.out o3.out 768 (by omega)).mono ?_
  rintro e w' ⟨rfl, rfl⟩
  go_wp2_with fail
  refine (alive_c _).mono ?_
  rintro e w2 ⟨rfl, F1⟩
  have s1 := lt_size A0.out.hb
  have s2 := lt_size A0.out.hw
  have s3 := lt_size A0.out.hl
  have A1 : Hid (ArAt w2 b wb lb (Ar.new 3)) := Lib.hid (A0.out.fr F1 (by simp) (by simp) (by simp))
  clear A0
  go_wp2_with fail
  refine (blocks_c _ A1.out o3.out).mono ?_
  rintro e w' ⟨rfl, rfl⟩
  go_wp2_with fail
  refine (empty_c _ A1.out o3.out).mono ?_
  rintro e w3 ⟨rfl, F2⟩
  rw [e1.out]
  have A2 : Hid (ArAt w3 b wb lb (Ar.new 3)) := Lib.hid (A1.out.fr F2 (by simp) (by simp) (by simp))
  go_wp2_with fail
  refine (set_no _ A2.out o3.out (-1) 0 (by omega)).mono ?_
  rintro e w' ⟨rfl, rfl⟩
  go_wp2_with fail
  refine (new_c 0 _).mono ?_
  rintro e w4 ⟨b', wb', lb', rfl, A3, F3, hb', hwb', hlb'⟩
  have A3 : Hid (ArAt w4 b' wb' lb' (Ar.new 1)) := Lib.hid A3
  go_wp2_with fail
  refine (blocks_c _ A3.out o1.out).mono ?_
  rintro e w' ⟨rfl, rfl⟩
  go_wp2
  go_ret
  exact ⟨rfl, (((F0.same F1).same F2).same F3).below⟩
theorem own : ownKnob Try.prog.godebug = none := by kernel_rfl
theorem laidOut : laidOutB Try.prog = true := by kernel_rfl
set_option maxRecDepth 100000 in
theorem lifted (os : Os) (started : os.Started) (H : Type) (enc : TypeId × Value → H) :
    ReturnsInHanded {} Try.checked os 3 .any (Rows.arenaNamesSpec.pre6 enc Try.prog Try.f3 Rows.arenaNamesRow.domain false) (Rows.arenaNamesSpec.post enc Try.prog Try.f3 false true false false) := by
  refine returnsInHanded_of_change (C := Try.checked) own started (by kernel_rfl) Try.func3
    (ChangeSpec.witness6 (enc := enc) (C := Try.checked) false ⟨#[], #[], []⟩ 8 (by kernel_rfl) (by kernel_rfl) (by kernel_rfl) (by kernel_rfl)) ?_
  intro W base args ds gs before hval0 hW hcnd _
  have hval : ∀ (j : Nat) t v, Try.f3.params[j]? = some t → args[j]? = some v → Value.okWide Try.prog W .any base t v := hval0
  have hW' := hW
  obtain ⟨p, q, hA0, hV, rfl, hfz, hnd⟩ := hW
  have hA : DataW.TrodAll enc Try.prog W 0 (fun _ => true) true Try.f3.params.toList args.toList ds p := hA0
  rw [Try.params3] at hA hval
  obtain ⟨rfl, rfl, rfl⟩ := trodAll_none hA
  obtain ⟨rfl, rfl⟩ := trodVars_none hV
  clear hA0 hval0
  refine (walk  W ).mono fun e W' ⟨he, bel⟩ => ?_
  subst he
  exact ⟨_, rfl, _, _, _, [], _, [], hW', trodAll_mk1 (shut_bool Try.underlying4 _), rfl, rfl, bel.frame _, fun h => by cases h⟩
theorem over : Rows.arenaNamesRow.holds Try.pinned (OpenSpec.ofChange Rows.arenaNamesSpec) :=
  OpenClaim.holds_of_wide 3 Try.f3 rfl rfl rfl rfl rfl rfl rfl ⟨rfl, rfl, rfl, rfl, rfl⟩ rfl rfl rfl rfl rfl (by kernel_rfl) Try.func3 (by kernel_rfl)
    (of_decide_eq_true (by kernel_rfl)) (by unfold Func.isWrapper; first | (rw [if_pos (by decide +kernel)]; kernel_rfl) | (rw [if_neg (by decide +kernel)]; exact ⟨rfl, rfl⟩))
    (fun os started H enc _ => lifted os started H enc)
/-- THE STATEMENT -/
theorem proved : Rows.ArenaNamesSaid := over
#print axioms proved
end Go.Proofs.Ytjcpjgdknelhnaa.arenaNames
