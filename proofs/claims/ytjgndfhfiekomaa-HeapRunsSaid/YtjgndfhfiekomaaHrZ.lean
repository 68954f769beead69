/- append(s, make([]T, k)...) onto a row of one-cell elements. No program in sight. -/
import Derived.Test.YtjgndfhfiekomaaOwn
import Derived.Maps.AppendAt
import Derived.Lib.AppendZeros
import Derived.Lib.AppendZerosOnto
set_option linter.all false
namespace Go.Proofs.Ytjgndfhfiekomaa
open Go.ChangeShapes Go.WideShapes Go.RowKit Go.Lib
theorem zeroCells_one (z : Value) (hz : z.cells = #[z]) (k : Nat) : Builtin.zeroCells z.cells k = (List.replicate k z).toArray := by
  apply Array.ext
  · simp [Builtin.zeroCells, hz]
  · intro i h1 h2
    simp [Builtin.zeroCells, hz, Nat.mod_one]
theorem setCells_blk {g : Nat} {t : TypeId} (vs : List Value) : ∀ (o : Nat) (w : World) (cur : Array Value), blk w g = some (.cells cur t (0, 0)) → ∃ cur' : Array Value, blk (w.setCells g o vs) g = some (.cells cur' t (0, 0)) ∧ cur'.size = cur.size ∧ ∀ i : Nat, i < cur.size → cur'[i]? = if o ≤ i ∧ i < o + vs.length then vs[i - o]? else cur[i]? := by
  induction vs with
  | nil => intro o w cur h; exact ⟨cur, h, rfl, fun i _ => by rw [if_neg (by simp)]⟩
  | cons v vs ih =>
    intro o w cur h
    have h1 : blk (w.setCell ⟨g, o, none⟩ v) g = some (.cells (cur.setIfInBounds o v) t (0, 0)) := by rw [blk_set, if_pos rfl, h]; rfl
    obtain ⟨cur', c1, c2, c3⟩ := ih (o + 1) _ _ h1
    refine ⟨cur', c1, by rw [c2]; simp, fun i hi => ?_⟩
    rw [c3 i (by simpa using hi)]
    by_cases ha : o + 1 ≤ i ∧ i < o + 1 + vs.length
    · rw [if_pos ha, if_pos (by simp; omega), show i - o = (i - (o + 1)) + 1 by omega]
      simp
    · rw [if_neg ha]
      by_cases hb : i = o
      · subst hb
        rw [if_pos (by simp)]
        simp [hi]
      · rw [if_neg (by simp; omega), Array.getElem?_setIfInBounds_ne (Ne.symm hb)]
theorem setCells_fr {g : Nat} (vs : List Value) : ∀ (o : Nat) (w : World), Fr [g] w (w.setCells g o vs) := by
  induction vs with
  | nil => intro o w; exact Fr.refl _ _
  | cons v vs ih => intro o w; exact ((Fr.refl [g] w).setCell (.inl (by simp)) v).trans (ih (o + 1) _) (fun x hx => .inl hx)
theorem run_zeros_own {P : Program} (w : World) (base : Nat) (t tn ty e : TypeId) (i : TypeInfo) (z : Value) (bytes : Nat) (kn : IntKind) (ht : P.underlying t = some (.slice e)) (htn : P.underlying tn = some (.int kn)) (hi : P.info? e = some i) (hz : i.zero = some z)
    (hsize : i.size = 1) (hby : i.bytes = bytes) (hzc : z.cells = #[z]) (h1z : z.oneCell' = true) (v : Value) (n : Nat) (xs : List Value) (hown : w.ownsRow base e 1 v n xs) (k : Nat) (h0 : 0 < k) (h63 : n + k ≤ 1000000000) (hbytes : (n + k) * bytes ≤ 140737488355328) (hbase : base ≤ w.heap.size) :
    ∃ v' w', (Builtin.append_ #[t, tn] ty #[v, .int .i64 (k : Int)]).run P w = .ok v' w' ∧ w'.ownsRow base e 1 v' (n + k) (xs ++ List.replicate k z) ∧ Fr v.ownBlock.toList w w' ∧ (v'.ownBlock = v.ownBlock ∨ v'.ownBlock = some w.heap.size) := by
  have hlx := hown.1
  rw [Nat.mul_one] at hlx
  have hkb : k * i.bytes ≤ 281474976710656 := by
    rw [hby]
    have : k * bytes ≤ (n + k) * bytes := Nat.mul_le_mul_right _ (by omega)
    omega
  have grown : ∀ (old : Nat), old < n + k →
      (w.drew.alloc (.cells (xs.toArray ++ Builtin.zeroCells z.cells k ++ Builtin.zeroCells z.cells (grownCap w (n + k) old e - (n + k))) e)).ownsRow base e 1
        (.slice (some ⟨w.heap.size, 0, none⟩) (n + k) (grownCap w (n + k) old e)) (n + k) (xs ++ List.replicate k z) := by
    intro old ho
    have hge := grownCap_ge w (n + k) old e
    have hcm : grownCap w (n + k) old e ≤ maxLen := grownCap_le_maxLen w (n + k) old e (by unfold maxLen; omega)
    refine own_mk (g := w.heap.size) (heap_alloc_new w.drew _) hbase hge hcm ?_ ?_
    · rw [zeroCells_one z hzc, zeroCells_one z hzc]
      simp [hlx]
      omega
    · rw [zeroCells_one z hzc, zeroCells_one z hzc]
      simp only [Array.toList_append, List.append_assoc, Nat.mul_one]
      rw [← List.append_assoc]
      refine List.take_left' (by simp [hlx])
  have gfr : ∀ (row : List Nat) (c : Obj), Fr row w (w.drew.alloc c) := fun row c => ((Fr.refl row w).drew).alloc c
  rcases hown.2 with ⟨rfl, hn0⟩ | ⟨g, cap, cur, rfl, hbg, hg, hnc, hcm, hcs, htake⟩
  · subst hn0
    have hx : xs = [] := List.eq_nil_of_length_eq_zero hlx
    subst hx
    have hr := run_append_nil_zeros (P := P) w t tn ty e i z .i64 kn ht htn hi hz k h0 (by omega) (by omega) hkb
    have hg := grown 0 (by omega)
    simp only [Nat.zero_add, List.nil_append] at hg ⊢
    refine ⟨_, _, hr, ?_, gfr _ _, .inr rfl⟩
    have e1 : (#[] : Array Value) ++ Builtin.zeroCells z.cells k = Builtin.zeroCells z.cells k := by simp
    simpa [e1] using hg
  · by_cases hroom : n + k ≤ cap
    · have hcell : ∀ j : Nat, j < (List.replicate k z).length → (w.cell? ⟨g, n * 1 + j, none⟩).isSome = true := fun j hj => by
        simp only [List.length_replicate] at hj
        rw [Nat.mul_one] at hcs ⊢
        have hlt : n + j < cur.size := by omega
        rw [cell_of hg (Array.getElem?_eq_getElem hlt)]
        rfl
      have hst := run_storeCells_cells (P := P) g (n * 1) (List.replicate k z) 0 w (by simpa using hcell) (fun j hj => by simpa using free_of hg) (fun u hu => by rw [(List.mem_replicate.1 hu).2]; exact h1z)
      simp only [Nat.add_zero] at hst
      obtain ⟨cur', c1, c2, c3⟩ := setCells_blk (List.replicate k z) (n * 1) w cur hg
      have hw : IntKind.i64.wrap (k : Int) = k := by rw [IntKind.wrap_i64]; omega
      have hk0 : k ≠ 0 := by omega
      have hneg : ¬ ((k : Int) < 0) := by omega
      have h48i : ¬ (281474976710656 < (k : Int) * (i.bytes : Int)) := by
        rw [← Int.natCast_mul]
        omega
      have hns : ¬ (k * 1 = 0) := by omega
      refine ⟨.slice (some ⟨g, 0, none⟩) (n + k) cap, w.setCells g (n * 1) (List.replicate k z), ?_, ?_, setCells_fr _ _ _, .inl rfl⟩
      · have hst2 : (storeCells (Addr.add ⟨g, 0, none⟩ (n * 1)) (Builtin.zeroCells z.cells k).toList).run P w = .ok () (w.setCells g (n * 1) (List.replicate k z)) := by
          rw [zeroCells_one z hzc, Addr.add_lit, Nat.zero_add]
          exact hst
        simp only [Nat.mul_one] at hst2 ⊢
        simp [Builtin.append_, run_underlying ht, run_underlying htn, sizeOf, typeInfo, zeroValue, hi, hz, asInt, asIntOf, hw, hroom, hneg, hk0, h48i, hsize, hst2]
      · refine own_mk c1 hbg hroom hcm (by rw [c2]; exact hcs) ?_
        apply List.ext_getElem?
        intro j
        simp only [Nat.mul_one] at hcs c3 ⊢
        rw [List.getElem?_take]
        by_cases hj : j < n + k
        · rw [if_pos hj, Array.getElem?_toList, c3 j (by omega)]
          by_cases ha : n ≤ j
          · rw [if_pos (by simp; omega), List.getElem?_append_right (by omega), hlx]
          · rw [if_neg (by omega), List.getElem?_append_left (by omega), ← htake, Nat.mul_one, List.getElem?_take, if_pos (by omega), Array.getElem?_toList]
        · rw [if_neg hj, List.getElem?_eq_none (by simp [hlx]; omega)]
    · have holds : ∀ (j : Nat) u, xs[j]? = some u → w.drew.cell? ((⟨g, 0, none⟩ : Addr).add j) = some u := fun j u hu => by
        rw [Addr.add_lit, Nat.zero_add]
        exact own_cell hown hu
      have hfc := run_firstCells_some (P := P) w.drew i.size n ⟨g, 0, none⟩ n cap xs (by rw [hsize]; exact hown.1) holds
      have hr := run_append_grow_zeros (P := P) w t tn ty e i z .i64 kn ht htn hi hz (some ⟨g, 0, none⟩) n cap xs hfc k h0 (by omega) (by omega) (by omega) hkb (growslice_fits (by omega) (by rw [hby]; exact hbytes))
      exact ⟨_, _, hr, grown cap (by omega), gfr _ _, .inr rfl⟩
end Go.Proofs.Ytjgndfhfiekomaa
