/- The texts and numbers of numbers: a part of the walk. No condition. -/
import Derived.Test.YtcjkgnafpkkjmaaGreatDoorQk28
set_option linter.all false
namespace Go.Proofs.YtcjkgnafpkkjmaaGreatDoor
section
open Go.ChangeShapes Go.WideShapes Go.RowKit Go.Shelf
def by8 (l : List UInt8) : List Nat := l.map UInt8.toNat
theorem by8_at (l : List UInt8) (i : Nat) (h : i < l.length) : (by8 l)[i]?.getD 0 = Rdf.bt l i := by
  unfold by8 Rdf.bt
  rw [List.getElem?_map, List.getElem?_eq_getElem h]; rfl
set_option maxRecDepth 100000 in
set_option maxHeartbeats 1000000 in
theorem plt_c (w : World) (k : Nat) (ds : List Nat) (dp : Int) (ng tr : Bool) (l : List UInt8) (b : Bool) (h : Dc w k ds dp ng tr) (hd : Fmt.Dig ds) (hc : Fmt.Dig (by8 l)) (hl : l.length ≤ 60)
    (hla : 1 ≤ Dg.dz (by8 l) ((by8 l).length - 1)) (hb : b = true ↔ Dg.less ds (by8 l)) : Calls Tryz.prog 224 #[.slice (some ⟨k, 0, none⟩) ds.length 800, .string (ba l)] w fun e w' => e = .returned (.bool b) ∧ Fr [] w w' := by
  have SI : ∀ (i : Nat), i < l.length → ∀ W : World, (Instr.index 9 (.string (ba l)) (.int .i64 (i : Int))).run Tryz.prog W = .ok (.int .u8 ((by8 l)[i]?.getD 0 : Nat)) W := fun i hi W => by rw [by8_at l i hi]; exact run_str_at l i hi W
  have ndl : ds.length ≤ 800 := by obtain ⟨_, _, h2⟩ := h; exact h2.len
  have hsz := ba_size l
  obtain ⟨cs, hcs⟩ : ∃ cs, cs = by8 l := ⟨_, rfl⟩
  have hm : l.length = cs.length := by rw [hcs]; simp [by8]
  rw [← hcs] at SI hc hla hb
  rw [hm] at SI hsz hl
  generalize ba l = S at *
  clear hcs hm
  obtain ⟨m, hm⟩ : ∃ m, m = cs.length := ⟨_, rfl⟩
  obtain ⟨n, hn⟩ : ∃ n, n = ds.length := ⟨_, rfl⟩
  have HD := Lib.hid h
  have HG := Lib.hid hd
  have HC := Lib.hid hc
  have HL := Lib.hid hla
  have HB := Lib.hid hb
  have HS := Lib.hid SI
  have HM := Lib.hid hm
  have HN := Lib.hid hn
  rw [← hm] at hsz hl
  rw [← hn] at ndl ⊢
  clear h hd hc hla hb SI hm hn
  go_enter Tryz.func224, Tryz.ntmps224
  go_wp2_with fail
  go_loopw [5] (fun s5 wr => ∃ i : Nat, i ≤ m ∧ i ≤ n ∧ s5 = .int .i64 (i : Int) ∧ Hid (∀ j, j < i → Dg.dz ds j = Dg.dz cs j) ∧ Hid (Fr [] w wr)) (fun a _ => m - (RowKit.intOf a).toNat)
  case atStart => exact ⟨0, Nat.zero_le _, Nat.zero_le _, rfl, Lib.hid (fun j hj => absurd hj (by omega)), Lib.hid (Fr.refl _ _)⟩
  case round =>
    obtain ⟨i, him, hin, rfl, HE, HF⟩ := hrel
    have HDr : Dc wr k ds dp ng tr := HD.out.fr HF.out
    by_cases h1 : i < m
    · by_cases h2 : i < n
      · have ci := HDr.cells.1 i (by rw [← HN.out]; exact h2)
        have fz := HDr.cells.2.2.2.2.2.2 i
        have si := HS.out i (by rw [← HM.out]; exact h1)
        have b1 := Dg.dz_le HG.out i
        have b2 := Dg.dz_le HC.out i
        have e1 := Dg.dz_in HG.out (i := i) (by rw [← HN.out]; exact h2)
        have e2 := Dg.dz_in HC.out (i := i) (by rw [← HM.out]; exact h1)
        obtain ⟨p, hp⟩ : ∃ p, p = ds[i]?.getD 0 := ⟨_, rfl⟩
        obtain ⟨q, hq⟩ : ∃ q, q = cs[i]?.getD 0 := ⟨_, rfl⟩
        rw [← hp] at ci e1
        rw [← hq] at si e2
        have HHD := Lib.hid HDr
        have E1 := Lib.hid e1
        have E2 := Lib.hid e2
        have pb : p < 256 := by omega
        have qb : q < 256 := by omega
        clear HDr e1 e2 hp hq b1 b2
        by_cases hpq : p = q
        · have HE2 : Hid (∀ j, j < i + 1 → Dg.dz ds j = Dg.dz cs j) := Lib.hid (fun j hj => by
            by_cases hji : j = i
            · subst hji; have := E1.out; have := E2.out; omega
            · exact HE.out j (by omega))
          subst hpq
          go_wp2_with fail
          go_region
          all_goals
            go_wp2_with fail
            go_roundw
            case rel => exact ⟨i + 1, by omega, by omega, by go_num, HE2, Lib.hid (by repeat (first | exact HF.out | apply Fr.drew))⟩
            case measure => simp [RowKit.intOf]; omega
        · have gne : ((p : Int) != (q : Int)) = true := by rw [bne_iff_ne]; omega
          have HR : Hid (b = decide (p < q)) := Lib.hid (by
            by_cases hlt : p < q
            · rw [decide_eq_true (by omega)]
              exact HB.out.mpr (Dg.less_diff HG.out HC.out (i := i) (by rw [← HM.out]; exact h1) (by rw [← HN.out]; exact h2) HE.out (by have := E1.out; have := E2.out; omega))
            · rw [decide_eq_false (by omega)]
              have := mt HB.out.mp (Dg.less_diff_no HG.out HC.out (i := i) (by rw [← HM.out]; exact h1) (by rw [← HN.out]; exact h2) HE.out (by have := E1.out; have := E2.out; omega))
              exact Bool.eq_false_iff.mpr this)
          clear hpq
          go_wp2_with fail
          go_region
          all_goals
            go_wp2_with fail
            go_region
            all_goals
              go_wp2_with fail
              go_ret
              exact ⟨by rw [HR.out]; rfl, by repeat (first | exact HF.out | apply Fr.drew)⟩
      · have HR : Hid (b = true) := Lib.hid (HB.out.mpr (Dg.less_ran HG.out HC.out (i := i) (by rw [← HM.out]; exact h1) (by rw [← HN.out]; omega) HE.out HL.out))
        clear HDr
        go_wp2_with fail
        go_ret
        exact ⟨by rw [HR.out]; rfl, by repeat (first | exact HF.out | apply Fr.drew)⟩
    · have HR : Hid (b = false) := Lib.hid (Bool.eq_false_iff.mpr (mt HB.out.mp (Dg.less_all HG.out (by rw [← HM.out, ← HN.out]; omega) (fun j hj => HE.out j (by rw [← HM.out] at hj; omega)))))
      clear HDr
      go_wp2_with fail
      go_ret
      exact ⟨by rw [HR.out]; rfl, by repeat (first | exact HF.out | apply Fr.drew)⟩
structure Dm (arr : Array Value) (K : Nat → Nat → Prop) (nd : Nat) (dp : Int) (ng tr : Bool) : Prop where
  sz : arr.size = 804
  kn : ∀ j x, K j x → arr[j]? = some (.int .u8 (x : Int))
  by8 : ∀ i, i < 800 → ∃ z : Nat, z < 256 ∧ arr[i]? = some (.int .u8 (z : Int))
  nd : arr[800]? = some (.int .i64 (nd : Int))
  dp : arr[801]? = some (.int .i64 dp)
  ng : arr[802]? = some (.bool ng)
  tr : arr[803]? = some (.bool tr)
def Dw (w : World) (k : Nat) (K : Nat → Nat → Prop) (nd : Nat) (dp : Int) (ng tr : Bool) : Prop := ∃ arr, blk w k = some (.cells arr 174 (0, 0)) ∧ Dm arr K nd dp ng tr
theorem Dw.cells {w : World} {k : Nat} {K : Nat → Nat → Prop} {nd : Nat} {dp : Int} {ng tr : Bool} (h : Dw w k K nd dp ng tr) :
    (∀ j x, K j x → w.cell? ⟨k, j, none⟩ = some (.int .u8 (x : Int))) ∧ w.cell? ⟨k, 800, none⟩ = some (.int .i64 (nd : Int)) ∧ w.cell? ⟨k, 801, none⟩ = some (.int .i64 dp) ∧ w.cell? ⟨k, 802, none⟩ = some (.bool ng) ∧ w.cell? ⟨k, 803, none⟩ = some (.bool tr) ∧ k < w.heap.size ∧ (∀ i, w.frozen? ⟨k, i, none⟩ = false) ∧ ∀ i, i < 800 → ∃ z : Nat, z < 256 ∧ w.cell? ⟨k, i, none⟩ = some (.int .u8 (z : Int)) := by
  obtain ⟨arr, h1, h2⟩ := h
  exact ⟨fun i x hi => by rw [cell_of h1 (h2.kn i x hi)], by rw [cell_of h1 h2.nd], by rw [cell_of h1 h2.dp], by rw [cell_of h1 h2.ng], by rw [cell_of h1 h2.tr], lt_size h1, fun i => free_of h1, fun i hi => by
    obtain ⟨z, hz, e⟩ := h2.by8 i hi
    exact ⟨z, hz, by rw [cell_of h1 e]⟩⟩
theorem Dw.weak {w : World} {k : Nat} {K K' : Nat → Nat → Prop} {nd : Nat} {dp : Int} {ng tr : Bool} (h : Dw w k K nd dp ng tr) (hK : ∀ j x, K' j x → K j x) : Dw w k K' nd dp ng tr := by
  obtain ⟨arr, h1, h2⟩ := h
  exact ⟨arr, h1, ⟨h2.sz, fun j x hj => h2.kn j x (hK j x hj), h2.by8, h2.nd, h2.dp, h2.ng, h2.tr⟩⟩
theorem Dw.setDig {w : World} {k : Nat} {K K' : Nat → Nat → Prop} {nd : Nat} {dp : Int} {ng tr : Bool} (h : Dw w k K nd dp ng tr) {i v : Nat} (hi : i < 800) (hv : v < 256) (hK : ∀ j x, K' j x → (j = i ∧ x = v) ∨ (j ≠ i ∧ K j x)) : Dw (w.setCell ⟨k, i, none⟩ (.int .u8 (v : Int))) k K' nd dp ng tr := by
  obtain ⟨arr, h1, h2⟩ := h
  have sz := h2.sz
  refine ⟨_, dc_set h1, ⟨by simp [sz], fun j x hj => ?_, fun j hj => ?_, ?_, ?_, ?_, ?_⟩⟩
  · rcases hK j x hj with ⟨rfl, rfl⟩ | ⟨h3, h4⟩
    · rw [Array.getElem?_setIfInBounds_self_of_lt (by omega)]
    · rw [Array.getElem?_setIfInBounds_ne (by omega)]; exact h2.kn j x h4
  · by_cases e : i = j
    · subst e; exact ⟨v, hv, by rw [Array.getElem?_setIfInBounds_self_of_lt (by omega)]⟩
    · rw [Array.getElem?_setIfInBounds_ne (by omega)]; exact h2.by8 j hj
  · rw [Array.getElem?_setIfInBounds_ne (by omega)]; exact h2.nd
  · rw [Array.getElem?_setIfInBounds_ne (by omega)]; exact h2.dp
  · rw [Array.getElem?_setIfInBounds_ne (by omega)]; exact h2.ng
  · rw [Array.getElem?_setIfInBounds_ne (by omega)]; exact h2.tr
theorem Dw.setNd {w : World} {k : Nat} {K : Nat → Nat → Prop} {nd : Nat} {dp : Int} {ng tr : Bool} (h : Dw w k K nd dp ng tr) (hK : ∀ j x, K j x → j < 800) (n : Nat) : Dw (w.setCell ⟨k, 800, none⟩ (.int .i64 (n : Int))) k K n dp ng tr := by
  obtain ⟨arr, h1, h2⟩ := h
  have sz := h2.sz
  refine ⟨_, dc_set h1, ⟨by simp [sz], fun j x hj => ?_, fun j hj => ?_, ?_, ?_, ?_, ?_⟩⟩
  · have := hK j x hj
    rw [Array.getElem?_setIfInBounds_ne (by omega)]; exact h2.kn j x hj
  · rw [Array.getElem?_setIfInBounds_ne (by omega)]; exact h2.by8 j hj
  · rw [Array.getElem?_setIfInBounds_self_of_lt (by omega)]
  · rw [Array.getElem?_setIfInBounds_ne (by omega)]; exact h2.dp
  · rw [Array.getElem?_setIfInBounds_ne (by omega)]; exact h2.ng
  · rw [Array.getElem?_setIfInBounds_ne (by omega)]; exact h2.tr
theorem Dw.setDp {w : World} {k : Nat} {K : Nat → Nat → Prop} {nd : Nat} {dp : Int} {ng tr : Bool} (h : Dw w k K nd dp ng tr) (hK : ∀ j x, K j x → j < 800) (n : Int) : Dw (w.setCell ⟨k, 801, none⟩ (.int .i64 n)) k K nd n ng tr := by
  obtain ⟨arr, h1, h2⟩ := h
  have sz := h2.sz
  refine ⟨_, dc_set h1, ⟨by simp [sz], fun j x hj => ?_, fun j hj => ?_, ?_, ?_, ?_, ?_⟩⟩
  · have := hK j x hj
    rw [Array.getElem?_setIfInBounds_ne (by omega)]; exact h2.kn j x hj
  · rw [Array.getElem?_setIfInBounds_ne (by omega)]; exact h2.by8 j hj
  · rw [Array.getElem?_setIfInBounds_ne (by omega)]; exact h2.nd
  · rw [Array.getElem?_setIfInBounds_self_of_lt (by omega)]
  · rw [Array.getElem?_setIfInBounds_ne (by omega)]; exact h2.ng
  · rw [Array.getElem?_setIfInBounds_ne (by omega)]; exact h2.tr
theorem Dw.setNg {w : World} {k : Nat} {K : Nat → Nat → Prop} {nd : Nat} {dp : Int} {ng tr : Bool} (h : Dw w k K nd dp ng tr) (hK : ∀ j x, K j x → j < 800) (b : Bool) : Dw (w.setCell ⟨k, 802, none⟩ (.bool b)) k K nd dp b tr := by
  obtain ⟨arr, h1, h2⟩ := h
  have sz := h2.sz
  refine ⟨_, dc_set h1, ⟨by simp [sz], fun j x hj => ?_, fun j hj => ?_, ?_, ?_, ?_, ?_⟩⟩
  · have := hK j x hj
    rw [Array.getElem?_setIfInBounds_ne (by omega)]; exact h2.kn j x hj
  · rw [Array.getElem?_setIfInBounds_ne (by omega)]; exact h2.by8 j hj
  · rw [Array.getElem?_setIfInBounds_ne (by omega)]; exact h2.nd
  · rw [Array.getElem?_setIfInBounds_ne (by omega)]; exact h2.dp
  · rw [Array.getElem?_setIfInBounds_self_of_lt (by omega)]
  · rw [Array.getElem?_setIfInBounds_ne (by omega)]; exact h2.tr
theorem Dw.setTr {w : World} {k : Nat} {K : Nat → Nat → Prop} {nd : Nat} {dp : Int} {ng tr : Bool} (h : Dw w k K nd dp ng tr) (hK : ∀ j x, K j x → j < 800) (b : Bool) : Dw (w.setCell ⟨k, 803, none⟩ (.bool b)) k K nd dp ng b := by
  obtain ⟨arr, h1, h2⟩ := h
  have sz := h2.sz
  refine ⟨_, dc_set h1, ⟨by simp [sz], fun j x hj => ?_, fun j hj => ?_, ?_, ?_, ?_, ?_⟩⟩
  · have := hK j x hj
    rw [Array.getElem?_setIfInBounds_ne (by omega)]; exact h2.kn j x hj
  · rw [Array.getElem?_setIfInBounds_ne (by omega)]; exact h2.by8 j hj
  · rw [Array.getElem?_setIfInBounds_ne (by omega)]; exact h2.nd
  · rw [Array.getElem?_setIfInBounds_ne (by omega)]; exact h2.dp
  · rw [Array.getElem?_setIfInBounds_ne (by omega)]; exact h2.ng
  · rw [Array.getElem?_setIfInBounds_self_of_lt (by omega)]
theorem Dc.open {w : World} {k : Nat} {ds : List Nat} {dp : Int} {ng tr : Bool} (h : Dc w k ds dp ng tr) : Dw w k (fun j x => j < ds.length ∧ x = ds[j]?.getD 0) ds.length dp ng tr := by
  obtain ⟨arr, h1, h2⟩ := h
  exact ⟨arr, h1, ⟨h2.sz, fun j x ⟨a, b⟩ => by rw [b]; exact h2.dg j a, h2.by8, h2.nd, h2.dp, h2.ng, h2.tr⟩⟩
theorem Dw.shut {w : World} {k : Nat} {K : Nat → Nat → Prop} {nd : Nat} {dp : Int} {ng tr : Bool} (h : Dw w k K nd dp ng tr) {ds : List Nat} (hl : ds.length = nd) (h8 : nd ≤ 800) (hK : ∀ j, j < nd → K j (ds[j]?.getD 0)) : Dc w k ds dp ng tr := by
  obtain ⟨arr, h1, h2⟩ := h
  exact ⟨arr, h1, ⟨h2.sz, by omega, fun j hj => h2.kn j _ (hK j (by omega)), h2.by8, by rw [hl]; exact h2.nd, h2.dp, h2.ng, h2.tr⟩⟩
structure LdZ (W : World) (k : Nat) : Prop where
  info : W.cell? ⟨6, 0, none⟩ = some (.int .u64 52) ∧ W.cell? ⟨6, 1, none⟩ = some (.int .u64 11) ∧ W.cell? ⟨6, 2, none⟩ = some (.int .i64 (-1023))
  ik : 6 ≠ k
  pow : ∃ b o c, b ≠ k ∧ W.cell? ⟨9, 0, none⟩ = some (.slice (some ⟨b, o, none⟩) 9 c) ∧ ∀ j, j < 9 → W.cell? ⟨b, o + j, none⟩ = some (.int .i64 ((powtabN.getD j 0 : Nat) : Int))
  pk : 9 ≠ k
  cheat : ∃ b o c, b ≠ k ∧ 61 ≤ c ∧ W.cell? ⟨12, 0, none⟩ = some (.slice (some ⟨b, o, none⟩) 61 c) ∧ ∀ i x, Pinned.cheatRows[i]? = some x → W.cell? ⟨b, o + i * 2, none⟩ = some (.int .i64 (x.1 : Int)) ∧ W.cell? ⟨b, o + i * 2 + 1, none⟩ = some (.string ⟨x.2.toArray⟩)
  ck : 12 ≠ k
theorem cell_keepk {w w' : World} {k b o : Nat} {v : Value} (h : Fr [k] w w') (hb : b ≠ k) (hc : w.cell? ⟨b, o, none⟩ = some v) : w'.cell? ⟨b, o, none⟩ = some v := by
  rw [cell_fr h (addr_none hc).2 (by simp [hb])]; exact hc
theorem LdZ.fr {w w' : World} {k : Nat} (h : LdZ w k) (hF : Fr [k] w w') : LdZ w' k := by
  obtain ⟨b2, o2, c2, n2, g2, g3⟩ := h.pow
  obtain ⟨b3, o3, c3, n3, k1, k2, k3⟩ := h.cheat
  exact ⟨⟨cell_keepk hF h.ik h.info.1, cell_keepk hF h.ik h.info.2.1, cell_keepk hF h.ik h.info.2.2⟩, h.ik,
    ⟨b2, o2, c2, n2, cell_keepk hF h.pk g2, fun j hj => cell_keepk hF n2 (g3 j hj)⟩, h.pk,
    ⟨b3, o3, c3, n3, k1, cell_keepk hF h.ck k2, fun i x hx => ⟨cell_keepk hF n3 (k3 i x hx).1, cell_keepk hF n3 (k3 i x hx).2⟩⟩, h.ck⟩
theorem Dw.kinds {w : World} {k : Nat} {K : Nat → Nat → Prop} {nd : Nat} {dp : Int} {ng tr : Bool} (h : Dw w k K nd dp ng tr) {i : Nat} {v : Value} (hv : w.cell? ⟨k, i, none⟩ = some v) : (i < 800 ∧ ∃ z : Nat, v = .int .u8 (z : Int)) ∨ ((i = 800 ∨ i = 801) ∧ ∃ z : Int, v = .int .i64 z) ∨ ((i = 802 ∨ i = 803) ∧ ∃ b, v = .bool b) := by
  obtain ⟨arr, h1, h2⟩ := h
  have hc : w.cell? ⟨k, i, none⟩ = arr[i]? := by
    unfold blk at h1
    simp [World.cell?, h1]
  rw [hc] at hv
  by_cases h8 : i < 800
  · obtain ⟨z, _, e⟩ := h2.by8 i h8
    rw [e] at hv
    exact .inl ⟨h8, z, (Option.some.inj hv).symm⟩
  · by_cases e0 : i = 800
    · subst e0; rw [h2.nd] at hv; exact .inr (.inl ⟨.inl rfl, _, (Option.some.inj hv).symm⟩)
    · by_cases e1 : i = 801
      · subst e1; rw [h2.dp] at hv; exact .inr (.inl ⟨.inr rfl, _, (Option.some.inj hv).symm⟩)
      · by_cases e2 : i = 802
        · subst e2; rw [h2.ng] at hv; exact .inr (.inr ⟨.inl rfl, _, (Option.some.inj hv).symm⟩)
        · by_cases e3 : i = 803
          · subst e3; rw [h2.tr] at hv; exact .inr (.inr ⟨.inr rfl, _, (Option.some.inj hv).symm⟩)
          · have := h2.sz
            rw [Array.getElem?_eq_none (by omega)] at hv
            exact absurd hv (by simp)
theorem ldZ_of {W : World} {k : Nat} {ds : List Nat} {dp : Int} {ng tr : Bool} (h : LdX W) (hD : Dc W k ds dp ng tr) : LdZ W k := by
  obtain ⟨b2, o2, c2, g2, g3⟩ := h.pow
  obtain ⟨b3, o3, c3, k1, k2, k3⟩ := h.cheat
  have H := hD.open
  have no : ∀ {i : Nat} {v : Value}, W.cell? ⟨k, i, none⟩ = some v → _ := fun {i v} hv => H.kinds (i := i) (v := v) hv
  have ik : 6 ≠ k := fun e => by
    have := h.info.1
    rw [e] at this
    rcases no this with ⟨_, z, hz⟩ | ⟨_, z, hz⟩ | ⟨_, z, hz⟩ <;> simp at hz
  have pk : 9 ≠ k := fun e => by
    rw [e] at g2
    rcases no g2 with ⟨_, z, hz⟩ | ⟨_, z, hz⟩ | ⟨_, z, hz⟩ <;> simp at hz
  have ck : 12 ≠ k := fun e => by
    rw [e] at k2
    rcases no k2 with ⟨_, z, hz⟩ | ⟨_, z, hz⟩ | ⟨_, z, hz⟩ <;> simp at hz
  have n3 : b3 ≠ k := fun e => by
    have := (k3 0 _ (show Pinned.cheatRows[0]? = some _ from rfl)).2
    rw [e] at this
    rcases no this with ⟨_, z, hz⟩ | ⟨_, z, hz⟩ | ⟨_, z, hz⟩ <;> simp at hz
  have n2 : b2 ≠ k := fun e => by
    rw [e] at g3
    have key : ∀ j, j < 9 → o2 + j = 800 ∨ o2 + j = 801 := fun j hj => by
      rcases no (g3 j hj) with ⟨_, z, hz⟩ | ⟨h, z, hz⟩ | ⟨_, z, hz⟩
      · simp at hz
      · exact h
      · simp at hz
    have a0 := key 0 (by omega)
    have a1 := key 1 (by omega)
    have a2 := key 2 (by omega)
    omega
  exact ⟨h.info, ik, ⟨b2, o2, c2, n2, g2, g3⟩, pk, ⟨b3, o3, c3, n3, k1, k2, k3⟩, ck⟩
theorem LdZ.row {W : World} {k : Nat} (h : LdZ W k) (s : Nat) (hs : s ≤ 60) : ∃ b o c l, b ≠ k ∧ 61 ≤ c ∧ W.cell? ⟨12, 0, none⟩ = some (.slice (some ⟨b, o, none⟩) 61 c) ∧ W.cell? ⟨b, o + s * 2, none⟩ = some (.int .i64 (Dg.dlt s : Int)) ∧ W.cell? ⟨b, o + s * 2 + 1, none⟩ = some (.string (ba l)) ∧ by8 l = Dg.cut s := by
  obtain ⟨b3, o3, c3, n3, k1, k2, k3⟩ := h.cheat
  have hl : Pinned.cheatRows.length = 61 := by kernel_rfl
  have e : Pinned.cheatRows[s]? = some (Pinned.cheatRows.getD s (0, [])) := by
    rw [List.getD_eq_getElem?_getD, List.getElem?_eq_getElem (by omega)]; rfl
  have := k3 s _ e
  exact ⟨b3, o3, c3, (Pinned.cheatRows.getD s (0, [])).2, n3, k1, k2, this.1, this.2, rfl⟩
def Kl (ds : List Nat) (N L hi lo : Nat) (j x : Nat) : Prop := (j < hi ∧ x = ds[j]?.getD 0) ∨ (lo ≤ j ∧ j < L ∧ j < 800 ∧ x = Dg.dg N L j)
theorem ls_put {ds : List Nat} {N n L i lo re d : Nat} (hi1 : i + 1 ≤ n) (hL : L = n + d) (hlo : lo + 1 + i = L) (hr : re = N / 10 ^ i % 10) (j x : Nat) (h : Kl ds N L (n - (i + 1)) (L - (i + 1)) j x) : (j = lo ∧ x = re + 48) ∨ (j ≠ lo ∧ Kl ds N L (n - i) (L - i) j x) := by
  rcases h with ⟨a1, a2⟩ | ⟨a1, a2, a3, a4⟩
  · exact .inr ⟨by omega, .inl ⟨by omega, a2⟩⟩
  · by_cases e : j = lo
    · refine .inl ⟨e, ?_⟩
      rw [a4, hr, e]; unfold Dg.dg
      rw [show L - 1 - lo = i by omega]; omega
    · exact .inr ⟨e, .inr ⟨by omega, a2, a3, a4⟩⟩
theorem ls_skip {ds : List Nat} {N n L i lo : Nat} (hi1 : i + 1 ≤ n) (hlo : lo + 1 + i = L) (h8 : ¬ lo < 800) (j x : Nat) (h : Kl ds N L (n - (i + 1)) (L - (i + 1)) j x) : Kl ds N L (n - i) (L - i) j x := by
  rcases h with ⟨a1, a2⟩ | ⟨a1, a2, a3, a4⟩
  · exact .inl ⟨by omega, a2⟩
  · exact .inr ⟨by omega, a2, a3, a4⟩
theorem ls_put0 {ds : List Nat} {N L i lo re : Nat} (hlo : lo + 1 + i = L) (hr : re = N / 10 ^ i % 10) (j x : Nat) (h : Kl ds N L 0 (L - (i + 1)) j x) : (j = lo ∧ x = re + 48) ∨ (j ≠ lo ∧ Kl ds N L 0 (L - i) j x) := by
  rcases h with ⟨a1, a2⟩ | ⟨a1, a2, a3, a4⟩
  · omega
  · by_cases e : j = lo
    · refine .inl ⟨e, ?_⟩
      rw [a4, hr, e]; unfold Dg.dg
      rw [show L - 1 - lo = i by omega]; omega
    · exact .inr ⟨e, .inr ⟨by omega, a2, a3, a4⟩⟩
theorem ls_skip0 {ds : List Nat} {N L i lo : Nat} (hlo : lo + 1 + i = L) (h8 : ¬ lo < 800) (j x : Nat) (h : Kl ds N L 0 (L - (i + 1)) j x) : Kl ds N L 0 (L - i) j x := by
  rcases h with ⟨a1, a2⟩ | ⟨a1, a2, a3, a4⟩
  · omega
  · exact .inr ⟨by omega, a2, a3, a4⟩
theorem Dg.cry_tail {D s n i : Nat} (h : D < 10 ^ n) (hi : n ≤ i) : Dg.cry D s i / 10 = Dg.cry D s (i + 1) ∧ Dg.cry D s i % 10 = D * 2 ^ s / 10 ^ i % 10 ∧ Dg.cry D s i = D * 2 ^ s / 10 ^ i := by
  have hlt : D < 10 ^ i := Nat.lt_of_lt_of_le h (Nat.pow_le_pow_right (by decide) hi)
  have e : D / 10 ^ i = 0 := Nat.div_eq_of_lt hlt
  have a := Dg.cry_succ D s i
  have b := Dg.cry_dig D s i
  rw [e, Nat.zero_mod, Nat.zero_mul, Nat.add_zero] at a b
  exact ⟨a, b, Dg.cry_end hlt⟩
theorem kl_lt {ds : List Nat} {N L hi lo j x : Nat} (hh : hi ≤ 800) (h : Kl ds N L hi lo j x) : j < 800 := by
  rcases h with ⟨a1, a2⟩ | ⟨a1, a2, a3, a4⟩ <;> omega
theorem slice800 (k n : Nat) (h : n ≤ 800) (W : World) : (Instr.sliceAt 172 (.pointer (some ⟨k, 0, none⟩)) (some (.int .i64 0)) (some (.int .i64 (n : Int))) none).run Tryz.prog W = .ok (.slice (some ⟨k, 0, none⟩) n 800) W := by
  have hl : Tryz.prog.arrayLen 172 = 800 := by kernel_rfl
  rw [run_sliceAt_array_lh W 172 ⟨k, 0, none⟩ (by kernel_rfl) .i64 .i64 0 (n : Int) (by omega) (by omega) (by rw [hl]; omega), hl]
  have hs : (sizeOf (Tryz.prog.elem 172)).run Tryz.prog W = .ok 1 W := by kernel_rfl
  rw [hs]
  simp [slicedAt, Result.andThen, Addr.add]
set_option maxRecDepth 100000 in
set_option maxHeartbeats 1000000 in
theorem ls_walk (w : World) (k : Nat) (ds : List Nat) (dp : Int) (ng tr : Bool) (s d : Nat) (b : Bool) (hG : Dg.Gd ds) (h0 : 0 < ds.length) (hs1 : 1 ≤ s) (hs : s ≤ 60) (hd1 : -1099511627776 ≤ dp) (hd2 : dp ≤ 1099511627776) (hZ : LdZ w k) (h : Dc w k ds dp ng tr)
    (hb : b = true ↔ Dg.less ds (Dg.cut s)) (hd : d = if b then Dg.dlt s - 1 else Dg.dlt s) (D : Nat) (hD : D = Dg.pv ds ds.length) (hN1 : 10 ^ (ds.length + d - 1) ≤ D * 2 ^ s) (hN2 : D * 2 ^ s < 10 ^ (ds.length + d)) :
    Calls Tryz.prog 201 #[.pointer (some ⟨k, 0, none⟩), .int .u64 (s : Int)] w fun e w' => e = .returned (.tuple #[]) ∧ Dc w' k (trimZ (Dg.digs (D * 2 ^ s) (ds.length + d) (min (ds.length + d) 800))) (trimD (Dg.digs (D * 2 ^ s) (ds.length + d) (min (ds.length + d) 800)) (dp + d)) ng (Dg.trF (D * 2 ^ s) (ds.length + d) tr (ds.length + d)) ∧ Fr [k] w w' := by
  obtain ⟨n, hn⟩ : ∃ n, n = ds.length := ⟨_, rfl⟩
  obtain ⟨L, hL⟩ : ∃ L, L = n + d := ⟨_, rfl⟩
  obtain ⟨N, hN⟩ : ∃ N, N = D * 2 ^ s := ⟨_, rfl⟩
  have hl8 := hG.le
  obtain ⟨q1, q2, q3, q4, q5, q6, q7, q8⟩ := Dg.cut_facts s hs1 hs
  obtain ⟨bb, o, c, l, nb, hc61, r1, r2, r3, r4⟩ := hZ.row s hs
  have hll : l.length ≤ 60 := by
    have : l.length = (Dg.cut s).length := by rw [← r4]; simp [by8]
    omega
  have CP := Lib.hid (fun (w1 : World) (hF : Fr [] w w1) => plt_c w1 k ds dp ng tr l b (h.fr hF) hG.dg (by rw [r4]; exact q1) hll (by rw [r4]; exact q7) (by rw [r4]; exact hb))
  rw [← hn, ← hL, ← hN] at hN1 hN2 ⊢
  rw [← hn] at hD CP h0 hl8
  have c0 : w.cell? ⟨k, 800, none⟩ = some (.int .i64 (n : Int)) := by rw [hn]; exact h.cells.2.1
  have kl := h.cells.2.2.2.2.2.1
  have HZ := Lib.hid hZ
  have HDc := Lib.hid h
  have HG := Lib.hid hG
  have HN := Lib.hid hN
  have HL := Lib.hid hL
  have HLn := Lib.hid hn
  have HD := Lib.hid hD
  have HN1 := Lib.hid hN1
  have HN2 := Lib.hid hN2
  obtain ⟨dl, hdl⟩ : ∃ dl, dl = Dg.dlt s := ⟨_, rfl⟩
  rw [← hdl] at r2 hd q5 q8
  have HDL : Hid (1 ≤ dl) := Lib.hid (by omega)
  have Hd := Lib.hid hd
  clear hZ h hG hN hL hn hll hD hN1 hN2 hdl hd q1 q2 q3 q4 q5 q6 q7 r4 hb nb
  obtain ⟨S, hS⟩ : ∃ S, S = ba l := ⟨_, rfl⟩
  rw [← hS] at r3 CP
  clear hS
  have SL := slice800 k n hl8
  go_enter Tryz.func201, Tryz.ntmps201
  go_upto_region 1 with fail
  go_cut [30] from 17 to 30 (fun s30 wx => s30 = .bool b ∧ Hid (Fr [] w wx))
  case first =>
    go_region_with (go_at_call 224; refine Calls.mono (CP.out _ ?_) ?_; (· (repeat (first | exact Fr.refl _ _ | apply Fr.drew))); rintro e w3 ⟨rfl, F3⟩; have F3 := Lib.hid F3)
    all_goals (go_wp2_with fail; go_meet; exact ⟨rfl, Lib.hid (Fr.same (by repeat (first | exact Fr.refl _ _ | apply Fr.drew)) F3.out)⟩)
  case rest =>
    obtain ⟨rfl, F1⟩ := hcut
    clear CP SL r1 r2 r3
    go_upto_if 30 with fail
    go_cut [4] from 31 to 32 (fun s4 wx => s4 = .int .i64 (d : Int) ∧ wc = wx)
    case first =>
      cases b
      · have HE : Hid (d = dl) := Lib.hid Hd.out
        clear Hd
        go_wp2_with fail
        go_meet
        exact ⟨by rw [HE.out], rfl⟩
      · have HE : Hid (d = dl - 1) := Lib.hid Hd.out
        clear Hd
        go_wp2_with fail
        go_meet
        exact ⟨congrArg (Value.int .i64) (by have h1 := HE.out; have h2 := HDL.out; omega), rfl⟩
    case rest =>
      obtain ⟨rfl, rfl⟩ := hcut
      have HW := Lib.hid (HDc.out.fr F1.out)
      clear c0
      have c0 : wc.cell? ⟨k, 800, none⟩ = some (.int .i64 (n : Int)) := by rw [HLn.out]; exact HW.out.cells.2.1
      have kl := HW.out.cells.2.2.2.2.2.1
      have DL : d ≤ 19 := by have := Hd.out; split at this <;> omega
      clear Hd HDL q8
      go_wp2_with fail
      go_loopw [5, 6, 7] (fun s5 s6 s7 wr => ∃ i : Nat, i ≤ n ∧ s5 = .int .i64 ((n : Int) - 1 - (i : Int)) ∧ s6 = .int .i64 ((L : Int) - (i : Int)) ∧ s7 = .int .u64 (Dg.cry D s i : Int) ∧ Hid (Dw wr k (Kl ds N L (n - i) (L - i)) n dp ng (Dg.trF N L tr i)) ∧ Hid (Fr [k] wc wr)) (fun a _ _ _ => ((RowKit.intOf a) + 1).toNat)
      case atStart =>
        refine ⟨0, Nat.zero_le _, by go_num, congrArg (Value.int .i64) (by have := HL.out; omega), by rw [Dg.cry_zero]; rfl, Lib.hid ?_, Lib.hid (Fr.refl _ _)⟩
        have H1 := HW.out.open.weak (K' := Kl ds N L (n - 0) (L - 0)) (fun j x hj => by
          rcases hj with ⟨a1, a2⟩ | ⟨a1, a2, a3, a4⟩
          · exact ⟨by rw [← HLn.out]; omega, a2⟩
          · omega)
        rw [← HLn.out] at H1
        exact H1
      case round =>
        obtain ⟨i, hi, rfl, rfl, rfl, HI, HF⟩ := hrel
        have hcb := Dg.cry_lt D s i
        have hp2 : 2 ^ s ≤ 1152921504606846976 := Nat.pow_le_pow_right (by decide) (show s ≤ 60 from hs)
        obtain ⟨cy, hcy⟩ : ∃ cy, cy = Dg.cry D s i := ⟨_, rfl⟩
        rw [← hcy] at hcb ⊢
        by_cases h1 : i < n
        · have hi1 : i + 1 ≤ n := h1
          obtain ⟨r, hr⟩ : ∃ r, r = n - 1 - i := ⟨_, rfl⟩
          have er : (n : Int) - 1 - (i : Int) = (r : Int) := by omega
          rw [er]
          have r8 : r < 800 := by omega
          obtain ⟨e, he⟩ : ∃ e, e = D / 10 ^ i % 10 := ⟨_, rfl⟩
          have e9 : e ≤ 9 := by omega
          have cr : wr.cell? ⟨k, r, none⟩ = some (.int .u8 ((e + 48 : Nat) : Int)) := by
            have x1 := HI.out.cells.1 r (ds[r]?.getD 0) (.inl ⟨by omega, rfl⟩)
            rw [x1, Dg.dz_in HG.out.dg (by rw [← HLn.out]; omega), he, HD.out, Dg.pv_dig HG.out.dg n i h1, ← hr]
          have fr := HI.out.cells.2.2.2.2.2.2.1
          have fz3 := fr 803
          have c3 := HI.out.cells.2.2.2.2.1
          obtain ⟨sh, hsh⟩ : ∃ sh, sh = e * 2 ^ s := ⟨_, rfl⟩
          have hsh9 : sh ≤ 9 * 2 ^ s := by rw [hsh]; exact Nat.mul_le_mul_right _ e9
          obtain ⟨sm, hsm⟩ : ∃ sm, sm = cy + sh := ⟨_, rfl⟩
          have hsmb : sm < 18446744073709551616 := by omega
          obtain ⟨q, hq⟩ : ∃ q, q = sm / 10 := ⟨_, rfl⟩
          obtain ⟨re, hre⟩ : ∃ re, re = sm % 10 := ⟨_, rfl⟩
          obtain ⟨tq, htq⟩ : ∃ tq, tq = 10 * q := ⟨_, rfl⟩
          obtain ⟨lo, hlo⟩ : ∃ lo, lo = L - i - 1 := ⟨_, rfl⟩
          have hLn : L = n + d := HL.out
          have HQ : Hid (q = Dg.cry D s (i + 1)) := Lib.hid (by rw [hq, hsm, hsh, hcy, he]; exact Dg.cry_succ D s i)
          have HR : Hid (re = N / 10 ^ i % 10) := Lib.hid (by rw [hre, hsm, hsh, hcy, he, HN.out]; exact Dg.cry_dig D s i)
          have HLO : Hid (lo + 1 + i = L) := Lib.hid (by omega)
          have HRI : Hid (r + 1 + i = n) := Lib.hid (by omega)
          have rb : re ≤ 9 := by omega
          have lb : lo ≤ 819 := by omega
          have w1 : IntKind.u64.wrap ((e : Int) + 48 - 48) = (e : Int) := by rw [IntKind.wrap_u64]; omega
          have w2 : IntKind.u64.wrap ((e : Int) * 2 ^ s) = (sh : Int) := by
            have : ((e : Int) * 2 ^ s) = (sh : Int) := by rw [hsh]; push_cast; rfl
            rw [this]; exact fw_u64 _ (by omega) (by omega)
          have w3 : IntKind.u64.wrap ((cy : Int) + (sh : Int)) = (sm : Int) := by rw [IntKind.wrap_u64]; omega
          have w4 : IntKind.u64.wrap ((sm : Int) / 10) = (q : Int) := by rw [IntKind.wrap_u64]; omega
          have w5 : IntKind.u64.wrap (10 * (q : Int)) = (tq : Int) := by rw [IntKind.wrap_u64]; omega
          have w6 : IntKind.u64.wrap ((sm : Int) - (tq : Int)) = (re : Int) := by rw [IntKind.wrap_u64]; omega
          have w7 : IntKind.u64.wrap ((re : Int) + 48) = (re : Int) + 48 := by rw [IntKind.wrap_u64]; omega
          have w8 : IntKind.u8.wrap ((re : Int) + 48) = ((re + 48 : Nat) : Int) := by rw [IntKind.wrap_u8]; omega
          have eL : (L : Int) - (i : Int) - 1 = (lo : Int) := by omega
          clear hr er he hcy hsh hsm hq htq hlo hLn hre hcb hsh9 hsmb
          by_cases h8 : lo < 800
          · have HT : Hid (Dg.trF N L tr (i + 1) = Dg.trF N L tr i) := Lib.hid (by
              show (if _ then _ else _) = _
              rw [if_neg (by have := HLO.out; omega)])
            have fzl := fr lo
            obtain ⟨z, _, czl⟩ := HI.out.cells.2.2.2.2.2.2.2 lo h8
            clear fr
            go_wp2_with fail
            go_roundw
            case rel =>
              refine ⟨i + 1, by omega, congrArg (Value.int .i64) (by have := HRI.out; omega), congrArg (Value.int .i64) (by have := HLO.out; omega), by rw [HQ.out], Lib.hid ?_, Lib.hid (HF.out.setCell (by simp) _)⟩
              rw [HT.out]
              exact HI.out.setDig (i := lo) (v := re + 48) h8 (by omega) (ls_put hi1 HL.out HLO.out HR.out)
            case measure => simp [RowKit.intOf] <;> omega
          · by_cases h9 : re = 0
            · have HT : Hid (Dg.trF N L tr (i + 1) = Dg.trF N L tr i) := Lib.hid (by
                show (if _ then _ else _) = _
                rw [if_neg (by rw [← HR.out, h9]; simp)])
              subst h9
              go_wp2_with fail
              go_roundw
              case rel =>
                refine ⟨i + 1, by omega, congrArg (Value.int .i64) (by have := HRI.out; omega), congrArg (Value.int .i64) (by have := HLO.out; omega), by rw [HQ.out], Lib.hid ?_, HF⟩
                rw [HT.out]
                exact HI.out.weak (ls_skip hi1 HLO.out h8)
              case measure => simp [RowKit.intOf] <;> omega
            · have HT : Hid (Dg.trF N L tr (i + 1) = true) := Lib.hid (by
                show (if _ then _ else _) = _
                rw [if_pos ⟨by have := HLO.out; omega, by rw [← HR.out]; exact h9⟩])
              have g9 : ((re : Int) != 0) = true := by rw [bne_iff_ne]; omega
              clear h9
              go_wp2_with fail
              go_roundw
              case rel =>
                refine ⟨i + 1, by omega, congrArg (Value.int .i64) (by have := HRI.out; omega), congrArg (Value.int .i64) (by have := HLO.out; omega), by rw [HQ.out], Lib.hid ?_, Lib.hid (HF.out.setCell (by simp) _)⟩
                rw [HT.out]
                exact (HI.out.weak (ls_skip hi1 HLO.out h8)).setTr (fun j x h => kl_lt (by omega) h) true
              case measure => simp [RowKit.intOf] <;> omega
        · have hin : i = n := by omega
          have e5 : (n : Int) - 1 - (i : Int) = -1 := by omega
          rw [e5]
          have HD9 : Hid (D < 10 ^ n) := Lib.hid (by rw [HD.out]; exact Dg.pv_lt HG.out.dg _)
          have HI2 : Hid (Dw wr k (Kl ds N L 0 (L - n)) n dp ng (Dg.trF N L tr n)) := Lib.hid (by
            have := HI.out
            rw [hin, Nat.sub_self] at this
            exact this)
          have HC2 : Hid (cy = Dg.cry D s n) := Lib.hid (by rw [hcy, hin])
          have HL2 : Hid (L - i = L - n) := Lib.hid (by rw [hin])
          clear hin hcb hcy hp2 HI h1 hi
          have HLn2 : Hid (L = n + d) := HL
          go_wp2_with fail
          go_loopw [6, 7] (fun s6 s7 wv => ∃ i : Nat, n ≤ i ∧ i ≤ L ∧ s6 = .int .i64 ((L : Int) - (i : Int)) ∧ s7 = .int .u64 (Dg.cry D s i : Int) ∧ Hid (Dw wv k (Kl ds N L 0 (L - i)) n dp ng (Dg.trF N L tr i)) ∧ Hid (Fr [k] wc wv)) (fun a _ _ => (RowKit.intOf a).toNat)
          case atStart =>
            refine ⟨n, Nat.le_refl _, by have := HLn2.out; omega, congrArg (Value.int .i64) (by have := HL2.out; omega), by rw [HC2.out], HI2, HF⟩
          case round =>
            clear HC2 HI2 HF e5 HL2
            obtain ⟨i, hni, hiL, rfl, rfl, HI, HF⟩ := hrel
            obtain ⟨t1, t2, t3⟩ := Dg.cry_tail (s := s) HD9.out hni
            have hcb := Dg.cry_lt D s i
            have hp2 : 2 ^ s ≤ 1152921504606846976 := Nat.pow_le_pow_right (by decide) (show s ≤ 60 from hs)
            have T3 : Hid (Dg.cry D s i = N / 10 ^ i) := Lib.hid (by rw [t3, HN.out])
            obtain ⟨cy, hcy⟩ : ∃ cy, cy = Dg.cry D s i := ⟨_, rfl⟩
            rw [← hcy] at hcb t1 t2 T3 ⊢
            by_cases h1 : i < L
            · have cp : 0 < cy := by
                rw [T3.out]
                refine Nat.div_pos ?_ (Nat.pow_pos (by decide))
                exact Nat.le_trans (Nat.pow_le_pow_right (by decide) (by omega)) HN1.out
              have cpi : (0 : Int) < (cy : Int) := by omega
              obtain ⟨q, hq⟩ : ∃ q, q = cy / 10 := ⟨_, rfl⟩
              obtain ⟨re, hre⟩ : ∃ re, re = cy % 10 := ⟨_, rfl⟩
              obtain ⟨tq, htq⟩ : ∃ tq, tq = 10 * q := ⟨_, rfl⟩
              obtain ⟨lo, hlo⟩ : ∃ lo, lo = L - i - 1 := ⟨_, rfl⟩
              have HQ : Hid (q = Dg.cry D s (i + 1)) := Lib.hid (by rw [hq, t1])
              have HR : Hid (re = N / 10 ^ i % 10) := Lib.hid (by rw [hre, t2, HN.out])
              have HLO : Hid (lo + 1 + i = L) := Lib.hid (by omega)
              have HQL : Hid (q < cy) := Lib.hid (by omega)
              have rb : re ≤ 9 := by omega
              have lb : lo ≤ 819 := by have := HLn2.out; omega
              have w4 : IntKind.u64.wrap ((cy : Int) / 10) = (q : Int) := by rw [IntKind.wrap_u64]; omega
              have w5 : IntKind.u64.wrap (10 * (q : Int)) = (tq : Int) := by rw [IntKind.wrap_u64]; omega
              have w6 : IntKind.u64.wrap ((cy : Int) - (tq : Int)) = (re : Int) := by rw [IntKind.wrap_u64]; omega
              have w7 : IntKind.u64.wrap ((re : Int) + 48) = (re : Int) + 48 := by rw [IntKind.wrap_u64]; omega
              have w8 : IntKind.u8.wrap ((re : Int) + 48) = ((re + 48 : Nat) : Int) := by rw [IntKind.wrap_u8]; omega
              have eL : (L : Int) - (i : Int) - 1 = (lo : Int) := by omega
              have fr := HI.out.cells.2.2.2.2.2.2.1
              have fz3 := fr 803
              have c3 := HI.out.cells.2.2.2.2.1
              have hni1 : n ≤ i + 1 := by omega
              clear t1 t2 t3 hcy hq hre htq hlo hcb hp2 cp hni T3
              by_cases h8 : lo < 800
              · have HT : Hid (Dg.trF N L tr (i + 1) = Dg.trF N L tr i) := Lib.hid (by
                  show (if _ then _ else _) = _
                  rw [if_neg (by have := HLO.out; omega)])
                have fzl := fr lo
                obtain ⟨z, _, czl⟩ := HI.out.cells.2.2.2.2.2.2.2 lo h8
                clear fr
                go_wp2_with fail
                go_roundw
                case rel =>
                  refine ⟨i + 1, hni1, h1, congrArg (Value.int .i64) (by have := HLO.out; omega), by rw [HQ.out], Lib.hid ?_, Lib.hid (HF.out.setCell (by simp) _)⟩
                  rw [HT.out]
                  exact HI.out.setDig (i := lo) (v := re + 48) h8 (by omega) (ls_put0 HLO.out HR.out)
                case measure => have := HQL.out; simp [RowKit.intOf] <;> omega
              · by_cases h9 : re = 0
                · have HT : Hid (Dg.trF N L tr (i + 1) = Dg.trF N L tr i) := Lib.hid (by
                    show (if _ then _ else _) = _
                    rw [if_neg (by rw [← HR.out, h9]; simp)])
                  subst h9
                  go_wp2_with fail
                  go_roundw
                  case rel =>
                    refine ⟨i + 1, hni1, h1, congrArg (Value.int .i64) (by have := HLO.out; omega), by rw [HQ.out], Lib.hid ?_, HF⟩
                    rw [HT.out]
                    exact HI.out.weak (ls_skip0 HLO.out h8)
                  case measure => have := HQL.out; simp [RowKit.intOf] <;> omega
                · have HT : Hid (Dg.trF N L tr (i + 1) = true) := Lib.hid (by
                    show (if _ then _ else _) = _
                    rw [if_pos ⟨by have := HLO.out; omega, by rw [← HR.out]; exact h9⟩])
                  have g9 : ((re : Int) != 0) = true := by rw [bne_iff_ne]; omega
                  clear h9
                  go_wp2_with fail
                  go_roundw
                  case rel =>
                    refine ⟨i + 1, hni1, h1, congrArg (Value.int .i64) (by have := HLO.out; omega), by rw [HQ.out], Lib.hid ?_, Lib.hid (HF.out.setCell (by simp) _)⟩
                    rw [HT.out]
                    exact (HI.out.weak (ls_skip0 HLO.out h8)).setTr (fun j x h => kl_lt (by omega) h) true
                  case measure => have := HQL.out; simp [RowKit.intOf] <;> omega
            · have hiL2 : i = L := by omega
              have cz : cy = 0 := by rw [T3.out, hiL2]; exact Nat.div_eq_of_lt HN2.out
              have HZD : Hid (Dw wr k (Kl ds N L 0 0) n dp ng (Dg.trF N L tr L)) := Lib.hid (by
                have := HI.out
                rw [hiL2, Nat.sub_self] at this
                exact this)
              clear t1 t2 t3 hcb hp2 T3 HI hcy hni h1 hiL hiL2
              subst cz
              obtain ⟨cn, c801⟩ : wr.cell? ⟨k, 800, none⟩ = some (.int .i64 (n : Int)) ∧ wr.cell? ⟨k, 801, none⟩ = some (.int .i64 dp) := ⟨HZD.out.cells.2.1, HZD.out.cells.2.2.1⟩
              have kl2 := HZD.out.cells.2.2.2.2.2.1
              have fz0 := HZD.out.cells.2.2.2.2.2.2.1 800
              have fz1 := HZD.out.cells.2.2.2.2.2.2.1 801
              have eLn : (n : Int) + (d : Int) = (L : Int) := by have := HLn2.out; omega
              obtain ⟨T, hT⟩ : ∃ T, T = Dg.trF N L tr L := ⟨_, rfl⟩
              rw [← hT] at HZD
              have HTT := Lib.hid hT
              have Llt : L ≤ 819 := by have := HLn2.out; omega
              have KL : Hid (∀ j x, Kl ds N L 0 0 j x → j < 800) := Lib.hid (fun j x h => kl_lt (by omega) h)
              have CT := Lib.hid (fun (w1 : World) (h : Dc w1 k (Dg.digs N L (min L 800)) (dp + (d : Int)) ng T) => trim_c w1 k _ _ ng T h)
              clear hT
              by_cases h8 : 800 ≤ L
              · have h8i : (800 : Int) ≤ (L : Int) := by omega
                have HM : Hid (min L 800 = 800) := Lib.hid (by omega)
                clear h8
                go_wp2_with fail
                refine (CT.out _ ((((HZD.out.setNd KL.out L).setNd KL.out 800).setDp KL.out _).shut (by rw [Dg.digs_len, HM.out]) (by omega) (fun j hj => .inr ⟨Nat.zero_le _, by have := HM.out; omega, by omega, by rw [Dg.digs_at _ _ _ _ (by rw [HM.out]; exact hj)]⟩))).mono ?_
                rintro e w9 ⟨rfl, D9, F9⟩
                go_wp2_with fail
                go_end0
                rw [← HTT.out]
                exact ⟨rfl, D9, Fr.same (F1.out.mono (by simp)) ((((HF.out.setCell (by simp) _).setCell (by simp) _).setCell (by simp) _).same F9)⟩
              · have h8i : ¬ (800 : Int) ≤ (L : Int) := by omega
                have HM : Hid (min L 800 = L) := Lib.hid (by omega)
                clear h8
                go_wp2_with fail
                refine (CT.out _ (((HZD.out.setNd KL.out L).setDp KL.out _).shut (by rw [Dg.digs_len, HM.out]) (by have := HM.out; omega) (fun j hj => .inr ⟨Nat.zero_le _, hj, by have := HM.out; omega, by rw [Dg.digs_at _ _ _ _ (by rw [HM.out]; exact hj)]⟩))).mono ?_
                rintro e w9 ⟨rfl, D9, F9⟩
                go_wp2_with fail
                go_end0
                rw [← HTT.out]
                exact ⟨rfl, D9, Fr.same (F1.out.mono (by simp)) (((HF.out.setCell (by simp) _).setCell (by simp) _).same F9)⟩
end
end Go.Proofs.YtcjkgnafpkkjmaaGreatDoor
