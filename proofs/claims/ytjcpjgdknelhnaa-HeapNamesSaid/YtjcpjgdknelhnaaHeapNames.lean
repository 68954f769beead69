/- The law HeapNames holds: the Go function returns true. No condition. -/
import Derived.Test.YtjcpjgdknelhnaaHeapG
import Derived.ProofKit
import Derived.ChangeOld
namespace Go.Proofs.Ytjcpjgdknelhnaa.heapNames
open Go.ChangeShapes Go.WideShapes Go.ChangeAt Go.RowKit
set_option linter.unusedVariables false
def nx1 : Ar := (makeF (Ar.new 1) 1 32 1).1
def nx2 : Ar := (makeF nx1 1 0 241).1
def nx3 : Ar := (makeF nx2 1 31 240).1
theorem walk (w : World) : Calls Try.prog 6 #[] w fun e w' => e = .returned (.bool true) ∧ Below w.heap.size w w' := by
  have e1 : Hid ((makeF (Ar.new 1) 1 32 1).2 = none) := Lib.hid (by decide +kernel)
  have e2 : Hid ((makeF nx1 1 0 241).2 = none) := Lib.hid (by decide +kernel)
  have e3 : Hid ((makeF nx2 1 31 240).2 = some 1) := Lib.hid (by decide +kernel)
  have e4 : Hid (getF nx3 1 1 240 = (0, 151)) := Lib.hid (by decide +kernel)
  have e5 : Hid ((((hAt nx3 1 8).map fun h => (h.n : Int)).getD (-1)) = -1) := Lib.hid (by decide +kernel)
  have o0 : Hid ((Ar.new 1).Ok 1) := Lib.hid (Ar.new_ok 1 (by omega) (by omega))
  have o1 : Hid (nx1.Ok 1) := Lib.hid (makeF_ok o0.out _ _)
  have o2 : Hid (nx2.Ok 1) := Lib.hid (makeF_ok o1.out _ _)
  have o3 : Hid (nx3.Ok 1) := Lib.hid (makeF_ok o2.out _ _)
  have d3 : Hid nx3.Wd := Lib.hid (wd_of (by decide +kernel))
  go_enter Try.func6, Try.ntmps6
  go_wp2_with fail
  refine (onew_c _ _).mono ?_
  rintro e w0 ⟨hb, b, wb, lb, rfl, H0, F0, q0, q1, q2, q3⟩
  have H0 : Hid (HeAt w0 hb b wb lb (Ar.new 1)) := Lib.hid H0
  go_wp2_with fail
  refine (omake_c _ H0.out o0.out 32 1).mono ?_
  rintro e w1 ⟨rfl, H1, F1⟩
  rw [e1.out]; simp only [wordVal]
  have H1 : Hid (HeAt w1 hb b wb lb nx1) := Lib.hid H1
  go_wp2_with fail
  refine (omake_c _ H1.out o1.out 0 241).mono ?_
  rintro e w2 ⟨rfl, H2, F2⟩
  rw [e2.out]; simp only [wordVal]
  have H2 : Hid (HeAt w2 hb b wb lb nx2) := Lib.hid H2
  go_wp2_with fail
  refine (omake_c _ H2.out o2.out 31 240).mono ?_
  rintro e w3 ⟨rfl, H3, F3⟩
  rw [e3.out]; simp only [wordVal]
  have H3 : Hid (HeAt w3 hb b wb lb nx3) := Lib.hid H3
  go_wp2_with fail
  refine (oget_c _ H3.out o3.out d3.out 1 240 (by omega) (by omega) (by omega)).mono ?_
  rintro e w4 ⟨rfl, F4⟩
  rw [e4.out]
  have H4 : Hid (HeAt w4 hb b wb lb nx3) := Lib.hid (H3.out.keep F4)
  go_wp2_with fail
  refine (heAlive_c _).mono ?_
  rintro e w5 ⟨rfl, F5⟩
  have H5 : Hid (HeAt w5 hb b wb lb nx3) := Lib.hid (H4.out.keep F5)
  go_wp2_with fail
  refine (raw_c _ _).mono ?_
  rintro e w' ⟨rfl, rfl⟩
  go_wp2_with fail
  refine (raw_c _ _).mono ?_
  rintro e w' ⟨rfl, rfl⟩
  go_wp2_with fail
  refine (oarena_c _ H5.out).mono ?_
  rintro e w' ⟨rfl, rfl⟩
  go_wp2_with fail
  refine (blocks_c _ H5.out.ar o3.out).mono ?_
  rintro e w' ⟨rfl, rfl⟩
  go_wp2_with fail
  refine (osize_c _ H5.out o3.out d3.out 8 (by omega) (by omega)).mono ?_
  rintro e w6 ⟨rfl, F6⟩
  rw [e5.out]
  go_wp2
  go_ret
  have hs : ∀ x, x ∈ [b, wb, lb] → x ∈ ([] : List Nat) ∨ w.heap.size ≤ x := by simp; omega
  have z : ∀ {a c : World}, Fr [] a c → Fr [b, wb, lb] a c := fun h => h.mono (by simp)
  exact ⟨rfl, (F0.trans (((((F1.same F2).same F3).same (z F4)).same (z F5)).same (z F6)) hs).below⟩
theorem own : ownKnob Try.prog.godebug = none := by kernel_rfl
theorem laidOut : laidOutB Try.prog = true := by kernel_rfl
set_option maxRecDepth 100000 in
theorem lifted (os : Os) (started : os.Started) (H : Type) (enc : TypeId × Value → H) :
    ReturnsInHanded {} Try.checked os 6 .any (Rows.heapNamesSpec.pre6 enc Try.prog Try.f6 Rows.heapNamesRow.domain false) (Rows.heapNamesSpec.post enc Try.prog Try.f6 false true false false) := by
  refine returnsInHanded_of_change (C := Try.checked) own started (by kernel_rfl) Try.func6
    (ChangeSpec.witness6 (enc := enc) (C := Try.checked) false ⟨#[], #[], []⟩ 8 (by kernel_rfl) (by kernel_rfl) (by kernel_rfl) (by kernel_rfl)) ?_
  intro W base args ds gs before hval0 hW hcnd _
  have hval : ∀ (j : Nat) t v, Try.f6.params[j]? = some t → args[j]? = some v → Value.okWide Try.prog W .any base t v := hval0
  have hW' := hW
  obtain ⟨p, q, hA0, hV, rfl, hfz, hnd⟩ := hW
  have hA : DataW.TrodAll enc Try.prog W 0 (fun _ => true) true Try.f6.params.toList args.toList ds p := hA0
  rw [Try.params6] at hA hval
  obtain ⟨rfl, rfl, rfl⟩ := trodAll_none hA
  obtain ⟨rfl, rfl⟩ := trodVars_none hV
  clear hA0 hval0
  refine (walk  W ).mono fun e W' ⟨he, bel⟩ => ?_
  subst he
  exact ⟨_, rfl, _, _, _, [], _, [], hW', trodAll_mk1 (shut_bool Try.underlying4 _), rfl, rfl, bel.frame _, fun h => by cases h⟩
theorem over : Rows.heapNamesRow.holds Try.pinned (OpenSpec.ofChange Rows.heapNamesSpec) :=
  OpenClaim.holds_of_wide 6 Try.f6 rfl rfl rfl rfl rfl rfl rfl ⟨rfl, rfl, rfl, rfl, rfl⟩ rfl rfl rfl rfl rfl (by kernel_rfl) Try.func6 (by kernel_rfl)
    (of_decide_eq_true (by kernel_rfl)) (by unfold Func.isWrapper; first | (rw [if_pos (by decide +kernel)]; kernel_rfl) | (rw [if_neg (by decide +kernel)]; exact ⟨rfl, rfl⟩))
    (fun os started H enc _ => lifted os started H enc)
/-- THE STATEMENT -/
theorem proved : Rows.HeapNamesSaid := over
#print axioms proved
end Go.Proofs.Ytjcpjgdknelhnaa.heapNames
