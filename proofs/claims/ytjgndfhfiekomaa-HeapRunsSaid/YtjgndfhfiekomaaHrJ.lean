/- The document's heap in memory: its objects; Find, here, with. -/
import Derived.Test.YtjgndfhfiekomaaHrI
import Derived.Test.YtjgndfhfiekomaaHeapL
set_option linter.all false
namespace Go.Proofs.Ytjgndfhfiekomaa
open Go.ChangeShapes Go.WideShapes Go.RowKit
/-- An object of the document. -/
structure RO where
  a : Nat
  kind : Int
  pins : Int
  dst : Int
  fs : List Int
  fa : Option Addr
  fc : Nat
/-- Words, as they are read. -/
def WsQ (B0 : Nat) (w : World) (a : Option Addr) (c : Nat) (ws : List Int) : Prop := ws.length ≤ c ∧ c ≤ maxLen ∧ (ws = [] ∨ ∃ b, a = some ⟨b, 0, none⟩ ∧ b < w.heap.size ∧ B0 ≤ b ∧ ∀ i x, ws[i]? = some x → w.cell? ⟨b, i, none⟩ = some (.int .u64 x))
variable {B0 : Nat} {w w' : World} {wa ta ma oa : Option Addr} {wn wk tn tc mn mc oc : Nat} {sf st gf gt cf ct nx : Int} {O : List RO} {r : RO}
theorem WsQ.keep {a : Option Addr} {c : Nat} {ws : List Int} (h : WsQ B0 w a c ws) (hF : Fr [] w w') : WsQ B0 w' a c ws := by
  refine ⟨h.1, h.2.1, h.2.2.imp id ?_⟩
  rintro ⟨b, h1, h2, h4, h3⟩
  exact ⟨b, h1, Nat.lt_of_lt_of_le h2 hF.size, h4, fun i x hx => by rw [← h3 i x hx]; exact World.cell?_of_block (w := w) (hF.block b h2 (by simp))⟩
structure OsAt (B0 : Nat) (w : World) (oa : Option Addr) (oc : Nat) (O : List RO) : Prop where
  cp : O.length ≤ oc ∧ oc ≤ maxLen
  rd : O = [] ∨ ∃ b, oa = some ⟨b, 0, none⟩ ∧ b < w.heap.size ∧ ∀ (i : Nat) (r : RO), O[i]? = some r → w.cell? ⟨b, i * 5, none⟩ = some (.int .i64 (r.a : Int)) ∧ w.cell? ⟨b, i * 5 + 1, none⟩ = some (.int .i64 r.kind) ∧ w.cell? ⟨b, i * 5 + 2, none⟩ = some (.int .i64 r.pins) ∧ w.cell? ⟨b, i * 5 + 3, none⟩ = some (.int .i64 r.dst) ∧ w.cell? ⟨b, i * 5 + 4, none⟩ = some (.slice r.fa r.fs.length r.fc)
  fs : ∀ r, r ∈ O → WsQ B0 w r.fa r.fc r.fs
  lo : O = [] ∨ ∃ b, oa = some ⟨b, 0, none⟩ ∧ B0 ≤ b
theorem OsAt.keep (h : OsAt B0 w oa oc O) (hF : Fr [] w w') : OsAt B0 w' oa oc O := by
  refine ⟨h.cp, h.rd.imp id ?_, fun r hr => (h.fs r hr).keep hF, h.lo⟩
  rintro ⟨b, h1, h2, h3⟩
  have key : ∀ j u, w.cell? ⟨b, j, none⟩ = some u → w'.cell? ⟨b, j, none⟩ = some u := fun j u hu => by rw [← hu]; exact World.cell?_of_block (w := w) (hF.block b h2 (by simp))
  exact ⟨b, h1, Nat.lt_of_lt_of_le h2 hF.size, fun i r hr => by
    obtain ⟨q0, q1, q2, q3, q4⟩ := h3 i r hr
    exact ⟨key _ _ q0, key _ _ q1, key _ _ q2, key _ _ q3, key _ _ q4⟩⟩
theorem OsAt.at (h : OsAt B0 w oa oc O) {i : Nat} (hr : O[i]? = some r) : ∃ b, oa = some ⟨b, 0, none⟩ ∧ b < w.heap.size ∧ w.cell? ⟨b, i * 5, none⟩ = some (.int .i64 (r.a : Int)) ∧ w.cell? ⟨b, i * 5 + 1, none⟩ = some (.int .i64 r.kind) ∧ w.cell? ⟨b, i * 5 + 2, none⟩ = some (.int .i64 r.pins) ∧ w.cell? ⟨b, i * 5 + 3, none⟩ = some (.int .i64 r.dst) ∧ w.cell? ⟨b, i * 5 + 4, none⟩ = some (.slice r.fa r.fs.length r.fc) := by
  rcases h.rd with h0 | ⟨b, h1, h2, h3⟩
  · rw [h0] at hr; simp at hr
  · exact ⟨b, h1, h2, h3 i r hr⟩
/-- The number of a word's object, of the first k. -/
def findR (O : List RO) (x : Int) : Nat → Option Nat
  | 0 => none
  | k + 1 => if (O[k]?.map fun r => mkW 1 r.a) = some x then some k else findR O x k
theorem findR_lt {x : Int} {k i : Nat} (h : findR O x k = some i) : i < k ∧ ∃ r, O[i]? = some r ∧ mkW 1 r.a = x := by
  induction k with
  | zero => simp [findR] at h
  | succ k ih =>
    simp only [findR] at h
    split at h
    · rename_i hc
      simp only [Option.some.injEq] at h
      subst h
      rw [Option.map_eq_some_iff] at hc
      exact ⟨by omega, hc⟩
    · obtain ⟨a, b⟩ := ih h
      exact ⟨by omega, b⟩
/-- The number of a word's object that stands here. -/
def hereR (O : List RO) (x : Int) : Option Nat :=
  match findR O x O.length with
  | none => none
  | some i => if 0 ≤ (O[i]?.map RO.dst).getD 0 then none else some i
set_option maxRecDepth 100000 in
set_option maxHeartbeats 1000000 in
theorem rfind_c (w : World) (hO : OsAt B0 w oa oc O) (hn : O.length ≤ 1000) (ha : ∀ r, r ∈ O → r.a ≤ 1000000) (x : Int) :
    Calls Try.prog 83 #[.agg #[.slice wa wn wk, .slice ta tn tc, .slice ma mn mc, .int .i64 sf, .int .i64 st, .int .i64 gf, .int .i64 gt, .int .i64 cf, .int .i64 ct, .int .i64 nx, .slice oa O.length oc], .int .u64 x] w fun e w' => e = .returned (.int .i64 (lastI (findR O x O.length))) ∧ Fr [] w w' := by
  have HO := Lib.hid hO
  obtain ⟨n, hnl⟩ : ∃ n, n = O.length := ⟨_, rfl⟩
  have HN := Lib.hid hnl
  have hoc := hO.cp.1
  have hoc2 : oc ≤ 9223372036854775807 := by have := hO.cp.2; unfold maxLen at this; omega
  have HA := Lib.hid ha
  rw [← hnl] at hn hoc ⊢
  obtain ⟨W1, hW1⟩ : ∃ W1, W1 = w.alloc (.cells #[.slice wa wn wk, .slice ta tn tc, .slice ma mn mc, .int .i64 sf, .int .i64 st, .int .i64 gf, .int .i64 gt, .int .i64 cf, .int .i64 ct, .int .i64 nx, .slice oa n oc] 34) := ⟨_, rfl⟩
  have P1 := Lib.hid (show blk W1 w.heap.size = some (.cells #[.slice wa wn wk, .slice ta tn tc, .slice ma mn mc, .int .i64 sf, .int .i64 st, .int .i64 gf, .int .i64 gt, .int .i64 cf, .int .i64 ct, .int .i64 nx, .slice oa n oc] 34 (0, 0)) by rw [hW1, blk_alloc, if_pos rfl])
  have F1 : Hid (Fr [] w W1) := Lib.hid (by rw [hW1]; exact (Fr.refl _ _).alloc _)
  obtain ⟨pb, hpb⟩ : ∃ pb, pb = w.heap.size := ⟨_, rfl⟩
  rw [← hpb] at P1
  clear hO hnl ha
  go_enter Try.func83, Try.ntmps83
  go_upto_region 1 with fail
  rw [← hW1, ← hpb]
  clear hW1 hpb
  have p10 := cell_of P1.out (i := 10) rfl
  go_wp2_with fail
  go_loopw [5] (fun u wr => ∃ k : Nat, k ≤ n ∧ u = .int .i64 ((k : Int) - 1) ∧ Hid (findR O x n = findR O x k) ∧ Hid (Fr [] W1 wr)) (fun u _ => (intOf u + 1).toNat)
  case atStart => exact ⟨n, Nat.le_refl _, rfl, Lib.hid rfl, Lib.hid (Fr.refl _ _)⟩
  case round =>
    obtain ⟨k, hk, rfl, hE, F⟩ := hrel
    clear p10
    by_cases hz : k = 0
    · subst hz
      have hE2 : Hid (findR O x n = none) := Lib.hid (by rw [hE.out]; rfl)
      clear hE
      go_wp2
      go_ret
      rw [hE2.out]
      exact ⟨rfl, F1.out.same F.out⟩
    · obtain ⟨q, rfl⟩ : ∃ q, k = q + 1 := ⟨k - 1, by omega⟩
      have hqO : q < O.length := by rw [← HN.out]; omega
      obtain ⟨r, hr⟩ : ∃ r, O[q]? = some r := ⟨O[q], by rw [List.getElem?_eq_getElem]⟩
      obtain ⟨b, rfl, hbl, d0, _⟩ := (HO.out.keep (F1.out.same F.out)).at hr
      have hra := HA.out r (List.mem_of_getElem? hr)
      have he : findR O x (q + 1) = if mkW 1 r.a = x then some q else findR O x q := by simp [findR, hr]
      have p10 := cell_of (F.out.at P1.out (by simp)) (i := 10) rfl
      rw [show ((q + 1 : Nat) : Int) - 1 = (q : Int) from by omega]
      obtain ⟨y, hy⟩ : ∃ y, y = mkW 1 r.a := ⟨_, rfl⟩
      have CM := Lib.hid (fun w1 => wmade_r 1 (r.a : Int) w1 (by omega) (by omega))
      rw [← hy] at he CM
      obtain ⟨ra, hrae⟩ : ∃ ra : Int, ra = (r.a : Int) := ⟨_, rfl⟩
      rw [← hrae] at d0 CM
      clear hqO hr hy hrae hra
      by_cases hxy : y = x
      · rw [if_pos hxy] at he
        have hE2 : Hid (findR O x n = some q) := Lib.hid (by rw [hE.out, he])
        have hb : (x == y) = true := by simp [hxy]
        have hb2 : (x = y) := hxy.symm
        clear he hE hxy
        have HB2 := Lib.hid hb2
        clear hb2
        go_wp2_with fail
        refine (CM.out _).mono ?_
        rintro e w' ⟨rfl, rfl⟩
        go_wp2
        go_ret
        rw [hE2.out]
        exact ⟨rfl, F1.out.same F.out⟩
      · rw [if_neg hxy] at he
        have hE2 : Hid (findR O x n = findR O x q) := Lib.hid (by rw [hE.out, he])
        have hb : (x == y) = false := by simp; exact fun h => hxy h.symm
        have hb2 : ¬ x = y := fun h => hxy h.symm
        clear he hE hxy
        go_wp2_with fail
        refine (CM.out _).mono ?_
        rintro e w' ⟨rfl, rfl⟩
        go_wp2
        go_roundw
        case rel => exact ⟨q, by omega, rfl, hE2, F⟩
        case measure => simp [intOf]
end Go.Proofs.Ytjgndfhfiekomaa
