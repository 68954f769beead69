/- The law AgendaOrder holds for every input: the Go function returns true and leaves its argument as it was. No condition. -/
import Derived.Test.YtlfniojnekanhaaAgendaE
import Derived.Test.YtlfniojnekanhaaArgs
import Derived.ProofKit
import Derived.ChangeOld
namespace Go.Proofs.Ytlfniojnekanhaa.agendaOrder
open Go.ChangeShapes Go.WideShapes Go.ChangeAt Go.RowKit
set_option linter.unusedVariables false
def IsInts (w : World) (a : Option Addr) (len cap : Nat) (zs : List Int) : Prop :=
  zs.length = len ∧ (∀ n ∈ zs, (Lit.int .i64 n).wf = true) ∧ len ≤ cap ∧ cap ≤ maxLen ∧
      (len = 0 ∨ ∃ b o, a = some ⟨b, o, none⟩ ∧ b < w.heap.size ∧ ∀ i, i < len → w.cell? ⟨b, o + i, none⟩ = some (.int .i64 (zs[i]?.getD 0)))
theorem opener {H : Type} {enc : TypeId × Value → H} {w : World} {spare : Nat → Bool} {held : Bool} {a : Option Addr} {len cap : Nat} {d : DataW H} {p : List MemPlace}
    (h : DataW.Trod enc Try.prog w 0 spare held 22 (.slice a len cap) d p) : ∃ N, IsInts w a len cap N :=
  open_int_slice Try.underlying22 Try.underlying3 (by kernel_rfl) h
theorem int_cell {w w' : World} {ab ao len cap : Nat} {zs : List Int} (h : IsInts w (some ⟨ab, ao, none⟩) len cap zs) (hF : Fr [] w w') (k : Nat) (hk : k < len) : w'.cell? ⟨ab, ao + k, none⟩ = some (.int .i64 (zs[k]?.getD 0)) := by
  rcases h.2.2.2.2 with h | ⟨b, o, h1, h2, h3⟩
  · omega
  · simp only [Option.some.injEq, Addr.mk.injEq] at h1
    obtain ⟨rfl, rfl, _⟩ := h1
    rw [← h3 k hk]
    exact World.cell?_of_block (w := w) (hF.block ab h2 (by simp))
set_option maxHeartbeats 1000000 in
set_option maxRecDepth 100000 in
theorem walk (a : Option Addr) (len cap : Nat) (zs : List Int) (w : World) (hN : IsInts w a len cap zs) :
    Calls Try.prog 3 #[.slice a len cap] w fun e w' => e = .returned (.bool true) ∧ Below w.heap.size w w' := by
  have hlen := hN.1
  have hmax : len ≤ 9223372036854775807 := by have := hN.2.2; unfold maxLen at this; omega
  by_cases hbig : 300 < len
  · clear hN hlen
    go_enter Try.func3, Try.ntmps3
    go_wp2_with (go_at_call 6; refine (agAlive_c _).mono ?_; rintro e w' ⟨rfl, F1⟩)
    go_ret
    exact ⟨rfl, F1.below⟩
  have HN := Lib.hid hN
  have HL := Lib.hid hlen
  obtain ⟨B, hB⟩ : ∃ B, B = w.heap.size := ⟨_, rfl⟩
  have HB := Lib.hid hB
  clear hN hlen hB
  go_enter Try.func3, Try.ntmps3
  go_wp2_with fail
  refine (agAlive_c _).mono ?_
  rintro e w0 ⟨rfl, F0⟩
  go_wp2_with fail
  refine (gnew_c _).mono ?_
  rintro e w1 ⟨rfl, hw1⟩
  have A1 := AgAt.new w0 B (by rw [HB.out]; exact F0.size)
  rw [← hw1] at A1
  have F1 : Fr [] w w1 := by rw [hw1]; exact F0.alloc _
  have A1 := Lib.hid A1
  have hab : B ≤ w0.heap.size := by rw [HB.out]; exact F0.size
  generalize w0.heap.size = ab at *
  clear hw1 F0
  go_wp2_with fail
  go_loopw [23] (fun x wr => ∃ (k : Nat) (v : Value) (l : List E3), k ≤ len ∧ x = .int .i64 k ∧ Hid (AgAt wr B ab v l (k : Int)) ∧ Hid (l.length = k ∧ Turns zs l ∧ ∀ y, y ∈ l → y.n < k) ∧ Fr [] w wr) (fun x _ => len - (intOf x).toNat)
  case atStart => exact ⟨0, _, [], by omega, rfl, A1, Lib.hid ⟨rfl, ⟨by simp, by simp⟩, by simp⟩, F1⟩
  case round =>
    obtain ⟨k, v, l, hk, rfl, hA, hT, hF⟩ := hrel
    by_cases hlt : k < len
    · have hr := HN.out.2.2.2.2
      rcases hr with hr | ⟨bb, bo, rfl, _, _⟩
      · omega
      have d0 := int_cell HN.out hF k hlt
      have hwz : Hid (zs[k]? = some (zs[k]?.getD 0)) := Lib.hid (by rw [List.getElem?_eq_getElem (by rw [HL.out]; exact hlt)]; rfl)
      obtain ⟨z, hz⟩ : ∃ z, z = zs[k]?.getD 0 := ⟨_, rfl⟩
      rw [← hz] at d0 hwz
      clear hz
      have S := hF.size
      have CA := Lib.hid (add_c wr B ab v l (k : Int) hA.out (by rw [HB.out]; exact S) (by have := hT.out.1; omega) (by omega) (by omega) z (k : Int))
      go_wp2_with fail
      refine CA.out.mono ?_
      rintro e w2 ⟨rfl, v', l', hp, hA', _, hF'⟩
      have hF2 : Fr [] w w2 := hF.trans hF' (fun x hx => .inr (by rw [← HB.out]; exact hA.out.own x hx))
      have hT2 : Hid (l'.length = k + 1 ∧ Turns zs l' ∧ ∀ y, y ∈ l' → y.n < ((k + 1 : Nat) : Int)) := Lib.hid (by
        obtain ⟨t1, t2, t3⟩ := hT.out
        refine ⟨by rw [hp.length_eq]; simp [t1], Turns.perm (l := ⟨z, k, k⟩ :: l) ?_ hp.symm, fun y hy => ?_⟩
        · refine ⟨?_, ?_⟩
          · simp only [List.map_cons, List.nodup_cons]
            refine ⟨fun hm => ?_, t2.nd⟩
            obtain ⟨y, hy, he⟩ := List.mem_map.1 hm
            have := t3 y hy; omega
          · intro y hy
            simp only [List.mem_cons] at hy
            rcases hy with rfl | hy
            · exact ⟨by simp, rfl, by simp [HL.out]; exact hlt, by simpa using hwz.out⟩
            · exact t2.ok y hy
        · have hm := hp.mem_iff.1 hy
          simp only [List.mem_cons] at hm
          rcases hm with rfl | hm
          · simp; omega
          · have := t3 y hm; omega)
      have hA2 : Hid (AgAt w2 B ab v' l' (((k + 1 : Nat) : Int))) := Lib.hid (by rw [show (((k + 1 : Nat) : Int)) = (k : Int) + 1 by omega]; exact hA')
      clear hA' hp hF'
      go_wp2
      go_roundw
      case rel => exact ⟨k + 1, v', l', by omega, by go_num, hA2, hT2, hF2⟩
      case measure => simp [intOf]; omega
    · have hkl : k = len := by omega
      subst hkl
      go_wp2_with fail
      go_loopw [6, 7, 36] (fun s6 s7 x wr => ∃ (i : Nat) (v : Value) (l : List E3) (la tu : Int), i ≤ k ∧ x = .int .i64 i ∧ s6 = .int .i64 la ∧ s7 = .int .u64 tu ∧ Hid (AgAt wr B ab v l (k : Int)) ∧ Hid (l.length = k - i ∧ Turns zs l ∧ (0 < i → ∀ y, y ∈ l → ltE ⟨la, tu, 0⟩ y = true)) ∧ Fr [] w wr) (fun _ _ x _ => k - (intOf x).toNat)
      case atStart => exact ⟨0, v, l, 0, 0, by omega, rfl, rfl, rfl, hA, Lib.hid ⟨by rw [hT.out.1]; rfl, hT.out.2.1, fun h => by omega⟩, hF⟩
      case round =>
        obtain ⟨i, v, l, la, tu, hi, rfl, rfl, rfl, hA, hT, hF⟩ := hrel
        by_cases hlt : i < k
        · have hr := HN.out.2.2.2.2
          rcases hr with hr | ⟨bb, bo, rfl, _, _⟩
          · omega
          have CN := Lib.hid (next_c wr B ab v l (k : Int) hA.out (k - i - 1) (by rw [hT.out.1]; omega) (by omega))
          go_wp2_with fail
          refine CN.out.mono ?_
          rintro e w2 ⟨rfl, v', l', hp, hA', _, hF'⟩
          have hF2 : Fr [] w w2 := hF.trans hF' (fun x hx => .inr (by rw [← HB.out]; exact hA.out.own x hx))
          have hmem : nth l 0 ∈ l := nth_mem l 0 (by rw [hT.out.1]; omega)
          obtain ⟨o1, o2, o3, o4⟩ := hT.out.2.1.ok _ hmem
          have o5 := hT.out.2.2
          have o6 := hT.out.2.1.perm hp
          have o7 := fun y (hy : y ∈ l') => first_least hA.out.hp (hp.mem_iff.2 (List.mem_cons_of_mem _ hy))
          obtain ⟨x, hx⟩ : ∃ x, x = nth l 0 := ⟨_, rfl⟩
          rw [← hx] at hmem o1 o2 o3 o4 o6 o7 hp ⊢
          obtain ⟨p1, p2⟩ := o6.tail
          have hT2 : Hid (l'.length = k - (i + 1) ∧ Turns zs l' ∧ (0 < i + 1 → ∀ y, y ∈ l' → ltE ⟨x.t, x.n, 0⟩ y = true)) := Lib.hid ⟨by have := hp.length_eq; rw [hT.out.1] at this; simp at this; omega, p1, fun _ y hy => by
            have := later (o7 y hy) (p2 y hy)
            rw [ltE_iff] at this ⊢; exact this⟩
          have hA2 := Lib.hid hA'
          have d0 := int_cell HN.out hF2 x.n.toNat (by rw [HL.out] at o3; omega)
          rw [o4] at d0
          simp only [Option.getD_some] at d0
          obtain ⟨m, hm⟩ : ∃ m : Nat, x.n = m := ⟨x.n.toNat, by omega⟩
          rw [hm] at o1 o2 o3 d0 hT2
          rw [HL.out] at o3
          simp only [Int.toNat_natCast] at d0
          rw [o2]
          have hafter : 0 < i → la < x.t ∨ (la = x.t ∧ tu < (m : Int)) := fun h0 => by
            have := o5 h0 x hmem
            rw [ltE_iff] at this
            rw [← hm]; exact this
          obtain ⟨t, ht⟩ : ∃ t, t = x.t := ⟨_, rfl⟩
          rw [← ht] at d0 hT2 hafter ⊢
          have o3' : (m : Int) < (k : Int) := o3
          have hms : m < k := by omega
          clear hx o1 o2 o3 o4 o5 o6 o7 p1 p2 hmem hp hA' hF' hm ht CN
          by_cases h0 : i = 0
          · subst h0
            clear hafter
            go_wp2
            go_roundw
            case rel => exact ⟨1, v', l', t, m, by omega, by go_num, rfl, rfl, hA2, hT2, hF2⟩
            case measure => simp [intOf]; omega
          · have ha := hafter (by omega)
            have hi0 : (0 : Int) < (i : Int) := by omega
            clear hafter
            by_cases hlt2 : la < t
            · have q1 : ¬ t < la := by omega
              have q2 : (t == la) = false := by simp; omega
              clear ha
              go_wp2
              go_roundw
              case rel => exact ⟨i + 1, v', l', t, m, by omega, by go_num, rfl, rfl, hA2, hT2, hF2⟩
              case measure => simp [intOf]; omega
            · have hEq : la = t := by omega
              have q3 : tu < (m : Int) := by omega
              have q4 : ¬ (m : Int) ≤ tu := by omega
              subst hEq
              clear ha hlt2
              go_wp2
              go_roundw
              case rel => exact ⟨i + 1, v', l', la, m, by omega, by go_num, rfl, rfl, hA2, hT2, hF2⟩
              case measure => simp [intOf]; omega
        · have hik : i = k := by omega
          subst hik
          have hl0 : l = [] := by
            have := hT.out.1
            exact List.eq_nil_of_length_eq_zero (by omega)
          have CN := hA.out
          rw [hl0] at CN
          have CN := Lib.hid (next_none wr B ab v _ CN)
          clear hl0
          go_wp2_with fail
          refine CN.out.mono ?_
          rintro e w' ⟨rfl, rfl⟩
          go_wp2
          go_ret
          exact ⟨rfl, hF.below⟩
theorem own : ownKnob Try.prog.godebug = none := by kernel_rfl
theorem laidOut : laidOutB Try.prog = true := by kernel_rfl
set_option maxRecDepth 100000 in
theorem lifted (os : Os) (started : os.Started) (H : Type) (enc : TypeId × Value → H) :
    ReturnsInHanded {} Try.checked os 3 .any (Rows.agendaOrderSpec.pre6 enc Try.prog Try.f3 Rows.agendaOrderRow.domain false) (Rows.agendaOrderSpec.post enc Try.prog Try.f3 false true false false) := by
  refine returnsInHanded_of_change (C := Try.checked) own started (by kernel_rfl) Try.func3
    (ChangeSpec.witness6 (enc := enc) (C := Try.checked) false ⟨#[], #[.slice none 0 0], []⟩ 8 (by kernel_rfl) (by kernel_rfl) (by kernel_rfl) (by kernel_rfl)) ?_
  intro W base args ds gs before hval0 hW hcnd _
  have hval : ∀ (j : Nat) t v, Try.f3.params[j]? = some t → args[j]? = some v → Value.okWide Try.prog W .any base t v := hval0
  have hW' := hW
  obtain ⟨p, q, hA0, hV, rfl, hfz, hnd⟩ := hW
  have hA : DataW.TrodAll enc Try.prog W 0 (fun _ => true) true Try.f3.params.toList args.toList ds p := hA0
  rw [Try.params3] at hA hval
  obtain ⟨v0, vs0, d0, ds0, p0, q0, hargs, rfl, rfl, h0, r0⟩ := trodAll_cons hA
  obtain ⟨rfl, rfl, rfl⟩ := trodAll_nil r0
  obtain rfl : args = #[v0] := by cases args; simp_all
  obtain ⟨rfl, rfl⟩ := trodVars_none hV
  obtain ⟨a0, len0, cap0, rfl⟩ := okWide_slice Try.underlying22 (hval 0 22 v0 rfl rfl)
  have k0 := h0
  have lt0 : ∀ x ∈ p0, x.block < W.heap.size := by obtain ⟨m, hm⟩ := k0; exact DataW.trod_lt m _ _ _ hm
  obtain ⟨z0, w0⟩ := opener h0
  clear hA0 hval0
  refine (walk a0 len0 cap0 z0 W w0).mono fun e W' ⟨he, bel⟩ => ?_
  subst he
  exact ⟨_, rfl, _, _, _, [], _, [], hW', trodAll_mk1 (shut_bool Try.underlying4 _), (trodAll_cons_mk (Below.trod laidOut (by kernel_rfl) (of_decide_eq_true (by kernel_rfl)) k0 bel lt0) trodAll_mk0), rfl, bel.frame _, fun h => by cases h⟩
theorem over : Rows.agendaOrderRow.holds Try.pinned (OpenSpec.ofChange Rows.agendaOrderSpec) :=
  OpenClaim.holds_of_wide 3 Try.f3 rfl rfl rfl rfl rfl rfl rfl ⟨rfl, rfl, rfl, rfl, rfl⟩ rfl rfl rfl rfl rfl (by kernel_rfl) Try.func3 (by kernel_rfl)
    (of_decide_eq_true (by kernel_rfl)) (by unfold Func.isWrapper; first | (rw [if_pos (by decide +kernel)]; kernel_rfl) | (rw [if_neg (by decide +kernel)]; exact ⟨rfl, rfl⟩))
    (fun os started H enc _ => lifted os started H enc)
/-- THE STATEMENT -/
theorem proved : Rows.AgendaOrderSaid := over
#print axioms proved
end Go.Proofs.Ytlfniojnekanhaa.agendaOrder
