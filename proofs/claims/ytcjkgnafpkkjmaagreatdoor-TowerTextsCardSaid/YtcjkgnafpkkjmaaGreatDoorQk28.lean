/- The texts and numbers of numbers: a part of the walk. No condition. -/
import Derived.Test.YtcjkgnafpkkjmaaGreatDoorQk27
set_option linter.all false
section
namespace Go.Proofs.YtcjkgnafpkkjmaaGreatDoor
open Go.ChangeShapes Go.WideShapes Go.RowKit Go.Shelf
structure Da (arr : Array Value) (ds : List Nat) (dp : Int) (ng tr : Bool) : Prop where
  sz : arr.size = 804
  len : ds.length ≤ 800
  dg : ∀ i, i < ds.length → arr[i]? = some (.int .u8 ((ds[i]?.getD 0 : Nat) : Int))
  by8 : ∀ i, i < 800 → ∃ z : Nat, z < 256 ∧ arr[i]? = some (.int .u8 (z : Int))
  nd : arr[800]? = some (.int .i64 (ds.length : Int))
  dp : arr[801]? = some (.int .i64 dp)
  ng : arr[802]? = some (.bool ng)
  tr : arr[803]? = some (.bool tr)
def Dc (w : World) (k : Nat) (ds : List Nat) (dp : Int) (ng tr : Bool) : Prop := ∃ arr, blk w k = some (.cells arr 174 (0, 0)) ∧ Da arr ds dp ng tr
theorem Dc.fr {w w' : World} {k : Nat} {ds : List Nat} {dp : Int} {ng tr : Bool} (h : Dc w k ds dp ng tr) (hF : Fr [] w w') : Dc w' k ds dp ng tr := by
  obtain ⟨arr, h1, h2⟩ := h
  exact ⟨arr, hF.at h1 (by simp), h2⟩
theorem Dc.cells {w : World} {k : Nat} {ds : List Nat} {dp : Int} {ng tr : Bool} (h : Dc w k ds dp ng tr) :
    (∀ i, i < ds.length → w.cell? ⟨k, i, none⟩ = some (.int .u8 ((ds[i]?.getD 0 : Nat) : Int))) ∧ w.cell? ⟨k, 800, none⟩ = some (.int .i64 (ds.length : Int)) ∧ w.cell? ⟨k, 801, none⟩ = some (.int .i64 dp) ∧ w.cell? ⟨k, 802, none⟩ = some (.bool ng) ∧ w.cell? ⟨k, 803, none⟩ = some (.bool tr) ∧ k < w.heap.size ∧ ∀ i, w.frozen? ⟨k, i, none⟩ = false := by
  obtain ⟨arr, h1, h2⟩ := h
  exact ⟨fun i hi => by rw [cell_of h1 (h2.dg i hi)], by rw [cell_of h1 h2.nd], by rw [cell_of h1 h2.dp], by rw [cell_of h1 h2.ng], by rw [cell_of h1 h2.tr], lt_size h1, fun i => free_of h1⟩
def sruN (ds : List Nat) (tr : Bool) (n : Int) : Bool :=
  if n < 0 ∨ (ds.length : Int) ≤ n then false
  else if ds[n.toNat]?.getD 0 = 53 ∧ n + 1 = (ds.length : Int) then (if tr then true else if 0 < n then decide ((ds[n.toNat - 1]?.getD 0 - 48) % 2 ≠ 0) else false)
  else decide (53 ≤ ds[n.toNat]?.getD 0)
set_option maxRecDepth 100000 in
set_option maxHeartbeats 1000000 in
theorem sru_c (w : World) (k : Nat) (ds : List Nat) (dp : Int) (ng tr : Bool) (n : Int) (h : Dc w k ds dp ng tr) (hd : Fmt.Dig ds) (hn1 : -10000000000 ≤ n) (hn2 : n ≤ 10000000000) : Calls Tryz.prog 203 #[.pointer (some ⟨k, 0, none⟩), .int .i64 n] w fun e w' => e = .returned (.bool (sruN ds tr n)) ∧ Fr [] w w' := by
  obtain ⟨cd, c0, c1, c2, c3, kl, _⟩ := h.cells
  have hl : ds.length ≤ 800 := by obtain ⟨_, _, h2⟩ := h; exact h2.len
  obtain ⟨L, hL⟩ : ∃ L, L = ds.length := ⟨_, rfl⟩
  obtain ⟨R, hR⟩ : ∃ R, R = sruN ds tr n := ⟨_, rfl⟩
  rw [← hR]
  unfold sruN at hR
  rw [← hL] at hR cd c0 hl
  by_cases h0 : n < 0
  · rw [if_pos (.inl h0)] at hR
    subst hR
    clear cd hL h
    go_enter Tryz.func203, Tryz.ntmps203
    go_wp2
    go_ret
    exact ⟨rfl, by repeat (first | exact Fr.refl _ _ | apply Fr.drew)⟩
  · by_cases h1 : (L : Int) ≤ n
    · rw [if_pos (.inr h1)] at hR
      subst hR
      clear cd hL h
      go_enter Tryz.func203, Tryz.ntmps203
      go_wp2
      go_ret
      exact ⟨rfl, by repeat (first | exact Fr.refl _ _ | apply Fr.drew)⟩
    · rw [if_neg (by omega)] at hR
      obtain ⟨i, hi⟩ : ∃ i : Nat, n = (i : Int) := ⟨n.toNat, by omega⟩
      subst hi
      rw [Int.toNat_natCast] at hR
      have hiL : i < L := by omega
      have ci := cd i hiL
      have hdi : 48 ≤ ds[i]?.getD 0 ∧ ds[i]?.getD 0 ≤ 57 := by
        rw [List.getElem?_eq_getElem (by omega)]; exact hd _ (List.getElem_mem _)
      have hi800 : i < 800 := by omega
      clear hn1 hn2
      obtain ⟨c, hc⟩ : ∃ c, c = ds[i]?.getD 0 := ⟨_, rfl⟩
      rw [← hc] at ci hR hdi
      by_cases h5 : c = 53
      · by_cases h6 : (i : Int) + 1 = (L : Int)
        · rw [if_pos ⟨h5, h6⟩] at hR
          have g6 : ((i : Int) + 1 == (L : Int)) = true := by simpa using h6
          cases tr
          · by_cases hp : 0 < i
            · have hpi : (0 : Int) < (i : Int) := by omega
              rw [if_neg (by decide), if_pos hpi] at hR
              have cp := cd (i - 1) (by omega)
              have hdp : 48 ≤ ds[i - 1]?.getD 0 ∧ ds[i - 1]?.getD 0 ≤ 57 := by
                rw [List.getElem?_eq_getElem (by omega)]; exact hd _ (List.getElem_mem _)
              generalize ds[i - 1]?.getD 0 = e at cp hR hdp
              obtain ⟨j, hj⟩ : ∃ j, i = j + 1 := ⟨i - 1, by omega⟩
              subst hj
              rw [Nat.add_sub_cancel] at cp
              obtain ⟨d, hd2⟩ : ∃ d, d = e - 48 := ⟨_, rfl⟩
              obtain ⟨f, hf⟩ : ∃ f, f = d % 2 := ⟨_, rfl⟩
              have e1 : IntKind.u8.wrap ((e : Int) - 48) = (d : Int) := by rw [IntKind.wrap_u8]; omega
              have e2 : (d : Int) % 2 = (f : Int) := by omega
              rw [← hd2, ← hf] at hR
              have jj : ((j + 1 : Nat) : Int) - 1 = (j : Int) := by omega
              have g53 : ((c : Int) == 53) = true := by simpa using (show (c : Int) = 53 by omega)
              have hpi2 : (0 : Int) < (j : Int) + 1 := by omega
              have hj800 : j < 800 := by omega
              clear cd hd2 hf hc h5 hdi hL hd h hdp h6 h0 h1 hp
              by_cases hf0 : f = 0
              · have g0 : ((f : Int) != 0) = false := by subst hf0; rfl
                rw [decide_eq_false (fun h => h hf0)] at hR
                clear hf0
                subst hR
                go_enter Tryz.func203, Tryz.ntmps203
                go_wp2
                go_ret
                exact ⟨rfl, by repeat (first | exact Fr.refl _ _ | apply Fr.drew)⟩
              · have g0 : ((f : Int) != 0) = true := by rw [bne_iff_ne]; omega
                rw [decide_eq_true hf0] at hR
                clear hf0
                subst hR
                go_enter Tryz.func203, Tryz.ntmps203
                go_wp2
                go_ret
                exact ⟨rfl, by repeat (first | exact Fr.refl _ _ | apply Fr.drew)⟩
            · have hi0 : i = 0 := by omega
              rw [if_neg (by decide), if_neg (by omega)] at hR
              have g53 : ((c : Int) == 53) = true := by simpa using (show (c : Int) = 53 by omega)
              subst hi0
              clear cd hc h5 hdi hL hd h h6 h0 h1 hp
              subst hR
              go_enter Tryz.func203, Tryz.ntmps203
              go_wp2
              go_ret
              exact ⟨rfl, by repeat (first | exact Fr.refl _ _ | apply Fr.drew)⟩
          · rw [if_pos rfl] at hR
            have g53 : ((c : Int) == 53) = true := by simpa using (show (c : Int) = 53 by omega)
            clear cd hc h5 hdi hL hd h h6 h0
            subst hR
            go_enter Tryz.func203, Tryz.ntmps203
            go_wp2
            go_ret
            exact ⟨rfl, by repeat (first | exact Fr.refl _ _ | apply Fr.drew)⟩
        · have g6 : ((i : Int) + 1 == (L : Int)) = false := by rw [beq_eq_false_iff_ne]; exact h6
          rw [if_neg (fun h => h6 h.2), decide_eq_true (by omega)] at hR
          have g53 : ((c : Int) == 53) = true := by simpa using (show (c : Int) = 53 by omega)
          have g5 : (53 : Int) ≤ (c : Int) := by omega
          clear cd hc h5 hdi hL hd h h6 h0
          subst hR
          go_enter Tryz.func203, Tryz.ntmps203
          go_wp2
          go_ret
          exact ⟨rfl, by repeat (first | exact Fr.refl _ _ | apply Fr.drew)⟩
      · rw [if_neg (fun h => h5 h.1)] at hR
        have g53 : ((c : Int) == 53) = false := by rw [beq_eq_false_iff_ne]; omega
        by_cases h7 : 53 ≤ c
        · have g5 : (53 : Int) ≤ (c : Int) := by omega
          rw [decide_eq_true h7] at hR
          clear cd hc h5 hdi hL hd h h0 h7
          subst hR
          go_enter Tryz.func203, Tryz.ntmps203
          go_wp2
          go_ret
          exact ⟨rfl, by repeat (first | exact Fr.refl _ _ | apply Fr.drew)⟩
        · have g5 : ¬ (53 : Int) ≤ (c : Int) := by omega
          rw [decide_eq_false h7] at hR
          clear cd hc h5 hdi hL hd h h0 h7
          subst hR
          go_enter Tryz.func203, Tryz.ntmps203
          go_wp2
          go_ret
          exact ⟨rfl, by repeat (first | exact Fr.refl _ _ | apply Fr.drew)⟩
end Go.Proofs.YtcjkgnafpkkjmaaGreatDoor
end
section
namespace Go.Proofs.YtcjkgnafpkkjmaaGreatDoor
open Go.ChangeShapes Go.WideShapes Go.RowKit Go.Shelf
def riD (ds : List Nat) : Nat → Nat
  | 0 => 0
  | i + 1 => (riD ds i * 10 + (ds[i]?.getD 0 - 48)) % 18446744073709551616
def riZ (n : Nat) : Nat → Nat
  | 0 => n
  | j + 1 => riZ n j * 10 % 18446744073709551616
def riN (ds : List Nat) (dp : Int) (tr : Bool) : Nat :=
  if 20 < dp then 18446744073709551615
  else (riZ (riD ds (min dp.toNat ds.length)) (dp.toNat - min dp.toNat ds.length) + (if sruN ds tr dp then 1 else 0)) % 18446744073709551616
theorem riD_lt (ds : List Nat) (i : Nat) : riD ds i < 18446744073709551616 := by
  cases i with
  | zero => exact Nat.zero_lt_of_lt (show 0 < 18446744073709551616 by decide)
  | succ i => exact Nat.mod_lt _ (by decide)
theorem riZ_lt {n : Nat} (h : n < 18446744073709551616) (j : Nat) : riZ n j < 18446744073709551616 := by
  cases j with
  | zero => exact h
  | succ j => exact Nat.mod_lt _ (by decide)
theorem riN_lt (ds : List Nat) (dp : Int) (tr : Bool) : riN ds dp tr < 18446744073709551616 := by
  unfold riN
  split
  · decide
  · exact Nat.mod_lt _ (by decide)
set_option maxRecDepth 100000 in
set_option maxHeartbeats 1000000 in
theorem rint_c (w : World) (k : Nat) (ds : List Nat) (dp : Int) (ng tr : Bool) (h : Dc w k ds dp ng tr) (hd : Fmt.Dig ds) (h1 : -10000000000 ≤ dp) (h2 : dp ≤ 10000000000) : Calls Tryz.prog 221 #[.pointer (some ⟨k, 0, none⟩)] w fun e w' => e = .returned (.int .u64 (riN ds dp tr : Int)) ∧ Fr [] w w' := by
  obtain ⟨cd, c0, c1, c2, c3, kl, _⟩ := h.cells
  have hl : ds.length ≤ 800 := by obtain ⟨_, _, h2⟩ := h; exact h2.len
  have CS := Lib.hid (fun (w1 : World) (hF : Fr [] w w1) => sru_c w1 k ds dp ng tr dp (h.fr hF) hd (by omega) (by omega))
  have HC := Lib.hid h.cells
  have HD := Lib.hid hd
  obtain ⟨R, hR⟩ : ∃ R, R = riN ds dp tr := ⟨_, rfl⟩
  rw [← hR]
  unfold riN at hR
  obtain ⟨ru, hru⟩ : ∃ ru, ru = sruN ds tr dp := ⟨_, rfl⟩
  rw [← hru] at hR CS
  have CD := Lib.hid cd
  clear cd hru h hd
  by_cases h20 : 20 < dp
  · rw [if_pos h20] at hR
    subst hR
    go_enter Tryz.func221, Tryz.ntmps221
    go_wp2
    go_ret
    exact ⟨rfl, by repeat (first | exact Fr.refl _ _ | apply Fr.drew)⟩
  · rw [if_neg h20] at hR
    obtain ⟨L, hL⟩ : ∃ L, L = ds.length := ⟨_, rfl⟩
    rw [← hL] at hR CD c0 hl
    obtain ⟨M, hM⟩ : ∃ M, M = min dp.toNat L := ⟨_, rfl⟩
    rw [← hM] at hR
    have HR := Lib.hid hR
    have HM := Lib.hid hM
    have HL := Lib.hid hL
    clear hR hM hL
    go_enter Tryz.func221, Tryz.ntmps221
    go_wp2_with fail
    go_loopw [3, 4] (fun s3 s4 wr => ∃ i : Nat, i ≤ M ∧ s3 = .int .i64 (i : Int) ∧ s4 = .int .u64 (riD ds i : Int) ∧ w = wr) (fun a _ _ => M - (RowKit.intOf a).toNat)
    case atStart => exact ⟨0, Nat.zero_le _, rfl, rfl, rfl⟩
    case round =>
      obtain ⟨i, hi, rfl, rfl, rfl⟩ := hrel
      have hb := riD_lt ds i
      obtain ⟨n, hn⟩ : ∃ n, n = riD ds i := ⟨_, rfl⟩
      have HN := Lib.hid hn
      rw [← hn] at hb ⊢
      clear hn
      by_cases hlt : i < M
      · have hid : (i : Int) < dp := by have := HM.out; omega
        have hiL : i < L := by have := HM.out; omega
        have ci := CD.out i hiL
        have hc : 48 ≤ ds[i]?.getD 0 ∧ ds[i]?.getD 0 ≤ 57 := by
          rw [List.getElem?_eq_getElem (by rw [← HL.out]; exact hiL)]; exact HD.out _ (List.getElem_mem _)
        have H9 : Hid (riD ds (i + 1) = (n * 10 + (ds[i]?.getD 0 - 48)) % 18446744073709551616) := Lib.hid (by rw [HN.out]; rfl)
        generalize ds[i]?.getD 0 = c at ci hc H9
        obtain ⟨d, hd⟩ : ∃ d, d = c - 48 := ⟨_, rfl⟩
        rw [← hd] at H9
        obtain ⟨t, ht⟩ : ∃ t, t = n * 10 % 18446744073709551616 := ⟨_, rfl⟩
        obtain ⟨v, hv⟩ : ∃ v, v = (t + d) % 18446744073709551616 := ⟨_, rfl⟩
        have e1 : IntKind.u64.wrap ((n : Int) * 10) = (t : Int) := by rw [IntKind.wrap_u64]; omega
        have e2 : IntKind.u8.wrap ((c : Int) - 48) = (d : Int) := by rw [IntKind.wrap_u8]; omega
        have e3 : IntKind.u64.wrap (d : Int) = (d : Int) := fw_u64 _ (by omega) (by omega)
        have e4 : IntKind.u64.wrap ((t : Int) + (d : Int)) = (v : Int) := by rw [IntKind.wrap_u64]; omega
        have H8 : Hid (riD ds (i + 1) = v) := Lib.hid (by rw [H9.out]; omega)
        have hi800 : i < 800 := by omega
        clear hc hd ht hv H9
        go_wp2_with fail
        go_roundw
        case rel => exact ⟨i + 1, by omega, by go_num, by rw [H8.out], trivial⟩
        case measure => simp [RowKit.intOf]; omega
      · have hiM : i = M := by omega
        have gstop : ¬ ((i : Int) < dp ∧ (i : Int) < (L : Int)) := by have := HM.out; omega
        have HIM := Lib.hid hiM
        clear hlt hi hiM
        obtain ⟨K, hK⟩ : ∃ K, K = dp.toNat - M := ⟨_, rfl⟩
        have HK := Lib.hid hK
        have hKb : K ≤ 20 := by omega
        clear hK
        by_cases g1 : (i : Int) < dp
        · have g2 : ¬ (i : Int) < (L : Int) := fun h => gstop ⟨g1, h⟩
          clear gstop
          go_wp2_with fail
          go_loopw [3, 4] (fun s3 s4 wr => ∃ j : Nat, j ≤ K ∧ s3 = .int .i64 ((i + j : Nat) : Int) ∧ s4 = .int .u64 (riZ n j : Int) ∧ w = wr) (fun a _ _ => i + K - (RowKit.intOf a).toNat)
          case atStart => exact ⟨0, Nat.zero_le _, rfl, rfl, rfl⟩
          case round =>
            obtain ⟨j, hj, rfl, rfl, rfl⟩ := hrel
            have hb2 := riZ_lt hb j
            obtain ⟨z, hz⟩ : ∃ z, z = riZ n j := ⟨_, rfl⟩
            have HZ := Lib.hid hz
            rw [← hz] at hb2 ⊢
            clear hz
            obtain ⟨q, hq⟩ : ∃ q, q = i + j := ⟨_, rfl⟩
            have HQ := Lib.hid hq
            rw [← hq]
            clear hq
            by_cases hlt : j < K
            · have hqd : (q : Int) < dp := by have := HQ.out; have := HK.out; have := HIM.out; omega
              obtain ⟨t, ht⟩ : ∃ t, t = z * 10 % 18446744073709551616 := ⟨_, rfl⟩
              have e1 : IntKind.u64.wrap ((z : Int) * 10) = (t : Int) := by rw [IntKind.wrap_u64]; omega
              have H8 : Hid (riZ n (j + 1) = t) := Lib.hid (by rw [ht, HZ.out]; rfl)
              have hq2 : q ≤ 800 := by omega
              clear ht
              go_wp2_with fail
              go_roundw
              case rel => exact ⟨j + 1, by omega, congrArg (Value.int .i64) (by have := HQ.out; omega), by rw [H8.out], trivial⟩
              case measure => have := HQ.out; simp [RowKit.intOf]; omega
            · have hjK : j = K := by omega
              have hqd : ¬ (q : Int) < dp := by have := HQ.out; have := HK.out; have := HIM.out; have := HM.out; omega
              have H7 : Hid (R = (z + (if ru then 1 else 0)) % 18446744073709551616) := Lib.hid (by rw [HR.out, HZ.out, hjK, HK.out, HN.out, HIM.out])
              clear hjK hlt
              go_wp2_with fail
              refine (CS.out _ (by repeat (first | exact Fr.refl _ _ | apply Fr.drew))).mono ?_
              rintro e w2 ⟨rfl, F2⟩
              have F2 := Lib.hid F2
              cases ru
              · have H6 : Hid (R = z) := Lib.hid (by rw [H7.out, if_neg (by decide)]; omega)
                go_wp2_with fail
                go_ret
                rw [H6.out]
                exact ⟨rfl, F2.out⟩
              · have H6 : Hid (R = (z + 1) % 18446744073709551616) := Lib.hid (by rw [H7.out, if_pos rfl])
                obtain ⟨v, hv⟩ : ∃ v, v = (z + 1) % 18446744073709551616 := ⟨_, rfl⟩
                have e1 : IntKind.u64.wrap ((z : Int) + 1) = (v : Int) := by rw [IntKind.wrap_u64]; omega
                rw [← hv] at H6
                clear hv
                go_wp2_with fail
                go_ret
                rw [H6.out]
                exact ⟨rfl, F2.out⟩
        · clear gstop
          go_wp2_with fail
          go_loopw [3, 4] (fun s3 s4 wr => ∃ j : Nat, j ≤ K ∧ s3 = .int .i64 ((i + j : Nat) : Int) ∧ s4 = .int .u64 (riZ n j : Int) ∧ w = wr) (fun a _ _ => i + K - (RowKit.intOf a).toNat)
          case atStart => exact ⟨0, Nat.zero_le _, rfl, rfl, rfl⟩
          case round =>
            obtain ⟨j, hj, rfl, rfl, rfl⟩ := hrel
            have hb2 := riZ_lt hb j
            obtain ⟨z, hz⟩ : ∃ z, z = riZ n j := ⟨_, rfl⟩
            have HZ := Lib.hid hz
            rw [← hz] at hb2 ⊢
            clear hz
            obtain ⟨q, hq⟩ : ∃ q, q = i + j := ⟨_, rfl⟩
            have HQ := Lib.hid hq
            rw [← hq]
            clear hq
            by_cases hlt : j < K
            · have hqd : (q : Int) < dp := by have := HQ.out; have := HK.out; have := HIM.out; omega
              obtain ⟨t, ht⟩ : ∃ t, t = z * 10 % 18446744073709551616 := ⟨_, rfl⟩
              have e1 : IntKind.u64.wrap ((z : Int) * 10) = (t : Int) := by rw [IntKind.wrap_u64]; omega
              have H8 : Hid (riZ n (j + 1) = t) := Lib.hid (by rw [ht, HZ.out]; rfl)
              have hq2 : q ≤ 800 := by omega
              clear ht
              go_wp2_with fail
              go_roundw
              case rel => exact ⟨j + 1, by omega, congrArg (Value.int .i64) (by have := HQ.out; omega), by rw [H8.out], trivial⟩
              case measure => have := HQ.out; simp [RowKit.intOf]; omega
            · have hjK : j = K := by omega
              have hqd : ¬ (q : Int) < dp := by have := HQ.out; have := HK.out; have := HIM.out; have := HM.out; omega
              have H7 : Hid (R = (z + (if ru then 1 else 0)) % 18446744073709551616) := Lib.hid (by rw [HR.out, HZ.out, hjK, HK.out, HN.out, HIM.out])
              clear hjK hlt
              go_wp2_with fail
              refine (CS.out _ (by repeat (first | exact Fr.refl _ _ | apply Fr.drew))).mono ?_
              rintro e w2 ⟨rfl, F2⟩
              have F2 := Lib.hid F2
              cases ru
              · have H6 : Hid (R = z) := Lib.hid (by rw [H7.out, if_neg (by decide)]; omega)
                go_wp2_with fail
                go_ret
                rw [H6.out]
                exact ⟨rfl, F2.out⟩
              · have H6 : Hid (R = (z + 1) % 18446744073709551616) := Lib.hid (by rw [H7.out, if_pos rfl])
                obtain ⟨v, hv⟩ : ∃ v, v = (z + 1) % 18446744073709551616 := ⟨_, rfl⟩
                have e1 : IntKind.u64.wrap ((z : Int) + 1) = (v : Int) := by rw [IntKind.wrap_u64]; omega
                rw [← hv] at H6
                clear hv
                go_wp2_with fail
                go_ret
                rw [H6.out]
                exact ⟨rfl, F2.out⟩
end Go.Proofs.YtcjkgnafpkkjmaaGreatDoor
end
section
namespace Go.Proofs.YtcjkgnafpkkjmaaGreatDoor
open Go.ChangeShapes Go.WideShapes Go.RowKit Go.Shelf
theorem dc_set {w : World} {k i : Nat} {v : Value} {arr : Array Value} (h : blk w k = some (.cells arr 174 (0, 0))) : blk (w.setCell ⟨k, i, none⟩ v) k = some (.cells (arr.setIfInBounds i v) 174 (0, 0)) := by
  rw [blk_set, if_pos rfl, h]; rfl
theorem Da.setNd {arr : Array Value} {ds : List Nat} {dp : Int} {ng tr : Bool} (h : Da arr ds dp ng tr) {t : Nat} (ht : t ≤ ds.length) : Da (arr.setIfInBounds 800 (.int .i64 (t : Int))) (ds.take t) dp ng tr := by
  have sz := h.sz
  have hl := h.len
  have lt : (ds.take t).length = t := by rw [List.length_take]; omega
  refine ⟨by simp [sz], by rw [lt]; omega, fun i hi => ?_, fun i hi => ?_, ?_, ?_, ?_, ?_⟩
  · rw [lt] at hi
    rw [Array.getElem?_setIfInBounds_ne (by omega), h.dg i (by omega), List.getElem?_take, if_pos hi]
  · rw [Array.getElem?_setIfInBounds_ne (by omega)]; exact h.by8 i hi
  · rw [lt, Array.getElem?_setIfInBounds_self_of_lt (by omega)]
  · rw [Array.getElem?_setIfInBounds_ne (by omega)]; exact h.dp
  · rw [Array.getElem?_setIfInBounds_ne (by omega)]; exact h.ng
  · rw [Array.getElem?_setIfInBounds_ne (by omega)]; exact h.tr
theorem Da.setDp {arr : Array Value} {ds : List Nat} {dp : Int} {ng tr : Bool} (h : Da arr ds dp ng tr) (dp' : Int) : Da (arr.setIfInBounds 801 (.int .i64 dp')) ds dp' ng tr := by
  have sz := h.sz
  have hl := h.len
  refine ⟨by simp [sz], hl, fun i hi => ?_, fun i hi => ?_, ?_, ?_, ?_, ?_⟩
  · rw [Array.getElem?_setIfInBounds_ne (by omega)]; exact h.dg i hi
  · rw [Array.getElem?_setIfInBounds_ne (by omega)]; exact h.by8 i hi
  · rw [Array.getElem?_setIfInBounds_ne (by omega)]; exact h.nd
  · rw [Array.getElem?_setIfInBounds_self_of_lt (by omega)]
  · rw [Array.getElem?_setIfInBounds_ne (by omega)]; exact h.ng
  · rw [Array.getElem?_setIfInBounds_ne (by omega)]; exact h.tr
theorem Dc.setNd {w : World} {k : Nat} {ds : List Nat} {dp : Int} {ng tr : Bool} (h : Dc w k ds dp ng tr) {t : Nat} (ht : t ≤ ds.length) : Dc (w.setCell ⟨k, 800, none⟩ (.int .i64 (t : Int))) k (ds.take t) dp ng tr := by
  obtain ⟨arr, h1, h2⟩ := h
  exact ⟨_, dc_set h1, h2.setNd ht⟩
theorem Dc.setDp {w : World} {k : Nat} {ds : List Nat} {dp : Int} {ng tr : Bool} (h : Dc w k ds dp ng tr) (dp' : Int) : Dc (w.setCell ⟨k, 801, none⟩ (.int .i64 dp')) k ds dp' ng tr := by
  obtain ⟨arr, h1, h2⟩ := h
  exact ⟨_, dc_set h1, h2.setDp dp'⟩
theorem Dc.drew {w : World} {k : Nat} {ds : List Nat} {dp : Int} {ng tr : Bool} (h : Dc w k ds dp ng tr) : Dc w.drew k ds dp ng tr := h.fr (Fr.refl _ _).drew
def trimN (ds : List Nat) : Nat → Nat
  | 0 => 0
  | t + 1 => if ds[t]?.getD 0 = 48 then trimN ds t else t + 1
theorem trimN_le (ds : List Nat) (t : Nat) : trimN ds t ≤ t := by
  induction t with
  | zero => exact Nat.le_refl _
  | succ t ih => unfold trimN; split <;> omega
def trimZ (ds : List Nat) : List Nat := ds.take (trimN ds ds.length)
def trimD (ds : List Nat) (dp : Int) : Int := if trimN ds ds.length = 0 then 0 else dp
def ndOf (k : Nat) (w : World) : Nat := match w.cell? ⟨k, 800, none⟩ with
  | some (.int _ n) => n.toNat
  | _ => 0
theorem ndOf_dc {w : World} {k : Nat} {ds : List Nat} {dp : Int} {ng tr : Bool} (h : Dc w k ds dp ng tr) : ndOf k w = ds.length := by
  unfold ndOf; rw [h.cells.2.1]; simp
set_option maxRecDepth 100000 in
set_option maxHeartbeats 1000000 in
theorem trim_c (w : World) (k : Nat) (ds : List Nat) (dp : Int) (ng tr : Bool) (h : Dc w k ds dp ng tr) : Calls Tryz.prog 200 #[.pointer (some ⟨k, 0, none⟩)] w fun e w' => e = .returned (.tuple #[]) ∧ Dc w' k (trimZ ds) (trimD ds dp) ng tr ∧ Fr [k] w w' := by
  have hl : ds.length ≤ 800 := by obtain ⟨_, _, h2⟩ := h; exact h2.len
  have H := Lib.hid h
  clear h
  go_enter Tryz.func200, Tryz.ntmps200
  go_wp2_with fail
  go_loopw [] (fun wr => ∃ t : Nat, t ≤ ds.length ∧ Hid (Dc wr k (ds.take t) dp ng tr) ∧ Hid (trimN ds t = trimN ds ds.length) ∧ Hid (Fr [k] w wr)) (fun wr => ndOf k wr)
  case atStart => exact ⟨ds.length, Nat.le_refl _, by rw [List.take_length]; exact H, Lib.hid rfl, Lib.hid (Fr.refl _ _)⟩
  case round =>
    obtain ⟨t, ht, HT, HZ, HF⟩ := hrel
    have lt : (ds.take t).length = t := by rw [List.length_take]; omega
    obtain ⟨cd, c0, c1, c2, c3, kl, fz⟩ := HT.out.cells
    rw [lt] at c0
    have f0 := fz 800
    have f1 := fz 801
    by_cases h0 : t = 0
    · subst h0
      clear cd fz
      have DF : Hid (trimN ds ds.length = 0) := Lib.hid (by rw [← HZ.out]; rfl)
      go_wp2_with fail
      go_region
      all_goals
        go_wp2_with fail
        go_end0
        refine ⟨rfl, ?_, (HF.out.drew).setCell (by simp) _⟩
        have e1 : trimZ ds = ds.take 0 := by unfold trimZ; rw [DF.out]
        have e2 : trimD ds dp = 0 := by unfold trimD; rw [if_pos DF.out]
        rw [e1, e2]
        exact (HT.out.drew).setDp 0
    · obtain ⟨j, hj⟩ : ∃ j, t = j + 1 := ⟨t - 1, by omega⟩
      subst hj
      have cj := cd j (by rw [lt]; omega)
      have ej : (ds.take (j + 1))[j]?.getD 0 = ds[j]?.getD 0 := by rw [List.getElem?_take, if_pos (by omega)]
      rw [ej] at cj
      have HZ2 : Hid (trimN ds (j + 1) = if ds[j]?.getD 0 = 48 then trimN ds j else j + 1) := Lib.hid rfl
      generalize ds[j]?.getD 0 = c at cj HZ2
      have jj : ((j + 1 : Nat) : Int) - 1 = (j : Int) := by omega
      have jp : (0 : Int) < ((j + 1 : Nat) : Int) := by omega
      have j8 : j < 800 := by omega
      obtain ⟨j1, hj1⟩ : ∃ j1 : Nat, j1 = j + 1 := ⟨_, rfl⟩
      have HJ := Lib.hid hj1
      rw [← hj1] at c0 jj jp
      have jpb : decide (0 < j1) = true := decide_eq_true (by omega)
      clear jp
      clear cd fz ej lt hj1 h0
      by_cases hc : c = 48
      · have g48 : ((c : Int) == 48) = true := by simpa using (show (c : Int) = 48 by omega)
        have HZ3 : Hid (trimN ds j = trimN ds ds.length) := Lib.hid (by rw [← HZ.out, HZ2.out, if_pos hc])
        clear hc
        go_wp2_with fail
        go_region
        all_goals
          go_wp2_with fail
          go_roundw
          case rel =>
            refine ⟨j, by omega, Lib.hid ?_, HZ3, Lib.hid ((HF.out.drew).setCell (by simp) _)⟩
            have := (HT.out.drew).setNd (t := j) (by rw [List.length_take]; omega)
            rw [List.take_take, Nat.min_eq_left (by omega)] at this
            exact this
          case measure =>
            have n2 := ndOf_dc HT.out
            have hD := (HT.out.drew).setNd (t := j) (by rw [List.length_take]; omega)
            have n1 := ndOf_dc hD
            rw [List.take_take, Nat.min_eq_left (by omega), List.length_take] at n1
            rw [List.length_take] at n2
            show ndOf k (wr.drew.setCell ⟨k, 800, none⟩ (.int .i64 (j : Int))) < _
            omega
      · have g48 : ((c : Int) == 48) = false := by rw [beq_eq_false_iff_ne]; omega
        have HZ3 : Hid (trimN ds ds.length = j + 1) := Lib.hid (by rw [← HZ.out, HZ2.out, if_neg hc])
        have gz : ((j1 : Int) == 0) = false := by rw [beq_eq_false_iff_ne]; have := HJ.out; omega
        clear hc
        go_wp2_with fail
        go_region
        all_goals
          go_wp2_with fail
          go_end0
          refine ⟨rfl, ?_, HF.out.drew⟩
          have e1 : trimZ ds = ds.take (j + 1) := by unfold trimZ; rw [HZ3.out]
          have e2 : trimD ds dp = dp := by unfold trimD; rw [if_neg (by rw [HZ3.out]; omega)]
          rw [e1, e2]
          exact HT.out.drew
end Go.Proofs.YtcjkgnafpkkjmaaGreatDoor
end
section
namespace Go.Proofs.YtcjkgnafpkkjmaaGreatDoor
namespace Dg
def dz (ds : List Nat) (i : Nat) : Nat := ds[i]?.getD 48 - 48
def pv (ds : List Nat) : Nat → Nat
  | 0 => 0
  | i + 1 => pv ds i * 10 + dz ds i
structure Gd (ds : List Nat) : Prop where
  dg : Fmt.Dig ds
  le : ds.length ≤ 800
  first : 0 < ds.length → 1 ≤ dz ds 0
theorem dz_le {ds : List Nat} (h : Fmt.Dig ds) (i : Nat) : dz ds i ≤ 9 := by
  unfold dz
  by_cases hi : i < ds.length
  · rw [List.getElem?_eq_getElem hi]
    have := h _ (List.getElem_mem hi)
    simp; omega
  · rw [List.getElem?_eq_none (by omega)]; simp
theorem dz_in {ds : List Nat} (h : Fmt.Dig ds) {i : Nat} (hi : i < ds.length) : ds[i]?.getD 0 = dz ds i + 48 := by
  unfold dz
  rw [List.getElem?_eq_getElem hi]
  have := h _ (List.getElem_mem hi)
  simp; omega
theorem dz_out {ds : List Nat} {i : Nat} (hi : ds.length ≤ i) : dz ds i = 0 := by
  unfold dz; rw [List.getElem?_eq_none hi]; rfl
theorem pv_lt {ds : List Nat} (h : Fmt.Dig ds) (i : Nat) : pv ds i < 10 ^ i := by
  induction i with
  | zero => exact Nat.one_pos
  | succ i ih =>
    have := dz_le h i
    rw [Nat.pow_succ]; unfold pv; omega
theorem pv_first {ds : List Nat} (h : 1 ≤ dz ds 0) (i : Nat) : 10 ^ i ≤ pv ds (i + 1) := by
  induction i with
  | zero => show 1 ≤ pv ds 0 * 10 + dz ds 0; omega
  | succ i ih =>
    show 10 ^ (i + 1) ≤ pv ds (i + 1) * 10 + dz ds (i + 1)
    rw [Nat.pow_succ]; omega
theorem pv_div {ds : List Nat} (h : Fmt.Dig ds) (n i : Nat) (hi : i ≤ n) : pv ds n / 10 ^ i = pv ds (n - i) := by
  induction i with
  | zero => simp
  | succ i ih =>
    rw [Nat.pow_succ, ← Nat.div_div_eq_div_mul, ih (by omega)]
    obtain ⟨j, hj⟩ : ∃ j, n - i = j + 1 := ⟨n - i - 1, by omega⟩
    have e : n - (i + 1) = j := by omega
    rw [hj, e]
    have := dz_le h j
    show (pv ds j * 10 + dz ds j) / 10 = pv ds j
    omega
theorem pv_dig {ds : List Nat} (h : Fmt.Dig ds) (n i : Nat) (hi : i < n) : pv ds n / 10 ^ i % 10 = dz ds (n - 1 - i) := by
  rw [pv_div h n i (by omega)]
  obtain ⟨j, hj⟩ : ∃ j, n - i = j + 1 := ⟨n - i - 1, by omega⟩
  have e : n - 1 - i = j := by omega
  rw [hj, e]
  have := dz_le h j
  show (pv ds j * 10 + dz ds j) % 10 = dz ds j
  omega
theorem pv_congr {a b : List Nat} {i : Nat} (h : ∀ j, j < i → dz a j = dz b j) : pv a i = pv b i := by
  induction i with
  | zero => rfl
  | succ i ih =>
    show pv a i * 10 + dz a i = pv b i * 10 + dz b i
    rw [ih (fun j hj => h j (by omega)), h i (by omega)]
theorem pv_between {ds : List Nat} (h : Fmt.Dig ds) {i n : Nat} (hi : i ≤ n) : pv ds i * 10 ^ (n - i) ≤ pv ds n ∧ pv ds n < (pv ds i + 1) * 10 ^ (n - i) := by
  have e := pv_div h n (n - i) (by omega)
  rw [show n - (n - i) = i by omega] at e
  have hp : 0 < 10 ^ (n - i) := Nat.pow_pos (by decide)
  refine ⟨?_, ?_⟩
  · rw [← e]; exact Nat.div_mul_le_self _ _
  · rw [← e, Nat.mul_comm]; exact Nat.lt_mul_div_succ _ hp
def less (ds cs : List Nat) : Prop := pv ds ds.length * 10 ^ cs.length < pv cs cs.length * 10 ^ ds.length
theorem less_ran {ds cs : List Nat} (hd : Fmt.Dig ds) (hc : Fmt.Dig cs) {i : Nat} (h1 : i < cs.length) (h2 : ds.length ≤ i) (he : ∀ j, j < i → dz ds j = dz cs j) (hl : 1 ≤ dz cs (cs.length - 1)) : less ds cs := by
  unfold less
  have e : pv ds ds.length = pv cs ds.length := pv_congr (fun j hj => he j (by omega))
  rw [e]
  obtain ⟨d, hd2⟩ : ∃ d, cs.length = ds.length + d := ⟨cs.length - ds.length, by omega⟩
  obtain ⟨b1, b2⟩ := pv_between hc (i := cs.length - 1) (n := cs.length) (by omega)
  obtain ⟨a1, a2⟩ := pv_between hc (i := ds.length) (n := cs.length - 1) (by omega)
  obtain ⟨f, hf⟩ : ∃ f, d = f + 1 := ⟨d - 1, by omega⟩
  have e1 : cs.length - 1 - ds.length = f := by omega
  rw [e1] at a1
  have e3 : pv cs cs.length = pv cs (cs.length - 1) * 10 + dz cs (cs.length - 1) := by
    obtain ⟨j, hj⟩ : ∃ j, cs.length = j + 1 := ⟨cs.length - 1, by omega⟩
    rw [hj]; rfl
  have hlt : pv cs ds.length * 10 ^ d < pv cs cs.length := by
    rw [hf, Nat.pow_succ, ← Nat.mul_assoc, e3]; omega
  rw [hd2, Nat.pow_add, Nat.mul_left_comm, Nat.mul_comm (10 ^ ds.length), ← hd2]
  exact Nat.mul_lt_mul_of_pos_right hlt (Nat.pow_pos (by decide))
theorem less_diff {ds cs : List Nat} (hd : Fmt.Dig ds) (hc : Fmt.Dig cs) {i : Nat} (h1 : i < cs.length) (h2 : i < ds.length) (he : ∀ j, j < i → dz ds j = dz cs j) (hl : dz ds i < dz cs i) : less ds cs := by
  unfold less
  have e : pv ds i = pv cs i := pv_congr he
  obtain ⟨_, a2⟩ := pv_between hd (i := i + 1) (n := ds.length) (by omega)
  obtain ⟨b1, _⟩ := pv_between hc (i := i + 1) (n := cs.length) (by omega)
  have a3 : pv ds (i + 1) + 1 ≤ pv cs (i + 1) := by
    show pv ds i * 10 + dz ds i + 1 ≤ pv cs i * 10 + dz cs i
    rw [e]; omega
  have p1 : 0 < 10 ^ cs.length := Nat.pow_pos (by decide)
  have q1 : 10 ^ (ds.length - (i + 1)) * 10 ^ cs.length = 10 ^ (cs.length - (i + 1)) * 10 ^ ds.length := by
    rw [← Nat.pow_add, ← Nat.pow_add]; congr 1; omega
  calc pv ds ds.length * 10 ^ cs.length < (pv ds (i + 1) + 1) * 10 ^ (ds.length - (i + 1)) * 10 ^ cs.length := Nat.mul_lt_mul_of_pos_right a2 p1
    _ ≤ pv cs (i + 1) * 10 ^ (ds.length - (i + 1)) * 10 ^ cs.length := Nat.mul_le_mul_right _ (Nat.mul_le_mul_right _ a3)
    _ = pv cs (i + 1) * 10 ^ (cs.length - (i + 1)) * 10 ^ ds.length := by rw [Nat.mul_assoc, q1, Nat.mul_assoc]
    _ ≤ pv cs cs.length * 10 ^ ds.length := Nat.mul_le_mul_right _ b1
theorem less_diff_no {ds cs : List Nat} (hd : Fmt.Dig ds) (hc : Fmt.Dig cs) {i : Nat} (h1 : i < cs.length) (h2 : i < ds.length) (he : ∀ j, j < i → dz ds j = dz cs j) (hl : dz cs i < dz ds i) : ¬ less ds cs := by
  intro h
  have h3 : less cs ds := less_diff hc hd h2 h1 (fun j hj => (he j hj).symm) hl
  unfold less at h h3
  exact Nat.lt_asymm h h3
theorem less_all {ds cs : List Nat} (hd : Fmt.Dig ds) (h2 : cs.length ≤ ds.length) (he : ∀ j, j < cs.length → dz ds j = dz cs j) : ¬ less ds cs := by
  unfold less
  have e : pv ds cs.length = pv cs cs.length := pv_congr he
  obtain ⟨a1, _⟩ := pv_between hd h2
  rw [← e]
  intro h
  have q1 : 10 ^ (ds.length - cs.length) * 10 ^ cs.length = 10 ^ ds.length := by rw [← Nat.pow_add]; congr 1; omega
  have := Nat.mul_le_mul_right (10 ^ cs.length) a1
  rw [Nat.mul_assoc, q1] at this
  omega
theorem fit {D C k m n d : Nat} (hk : C * 2 ^ k = 10 ^ k) (hn : 1 ≤ n) (h1 : 10 ^ (n - 1) ≤ D) (h2 : D < 10 ^ n) (c1 : 10 ^ (m - 1) ≤ C) (c2 : C < 10 ^ m) (hm : 1 ≤ m) (hmk : m ≤ k)
    (hd : (D * 10 ^ m < C * 10 ^ n ∧ d = k - m) ∨ (¬ D * 10 ^ m < C * 10 ^ n ∧ d = k - m + 1)) : 10 ^ (n + d - 1) ≤ D * 2 ^ k ∧ D * 2 ^ k < 10 ^ (n + d) := by
  have pm : 0 < 10 ^ m := Nat.pow_pos (by decide)
  have p2 : 0 < 2 ^ k := Nat.pow_pos (by decide)
  have key : C * 10 ^ n * 2 ^ k = 10 ^ (n + k) := by rw [Nat.mul_right_comm, hk, ← Nat.pow_add, Nat.add_comm]
  rcases hd with ⟨hlt, hd⟩ | ⟨hge, hd⟩
  · refine ⟨?_, ?_⟩
    · have a1 : 10 ^ (k - m) ≤ 2 ^ k := by
        apply Nat.le_of_mul_le_mul_right _ pm
        rw [← Nat.pow_add, show k - m + m = k by omega, ← hk, Nat.mul_comm (2 ^ k)]
        exact Nat.mul_le_mul_right _ (Nat.le_of_lt c2)
      calc 10 ^ (n + d - 1) = 10 ^ (n - 1) * 10 ^ (k - m) := by rw [← Nat.pow_add]; congr 1; omega
        _ ≤ D * 2 ^ k := Nat.mul_le_mul h1 a1
    · have a1 := Nat.mul_lt_mul_of_pos_right hlt p2
      rw [key] at a1
      apply Nat.lt_of_mul_lt_mul_right (a := 10 ^ m)
      calc D * 2 ^ k * 10 ^ m = D * 10 ^ m * 2 ^ k := Nat.mul_right_comm _ _ _
        _ < 10 ^ (n + k) := a1
        _ = 10 ^ (n + d) * 10 ^ m := by rw [← Nat.pow_add]; congr 1; omega
  · refine ⟨?_, ?_⟩
    · have a1 := Nat.mul_le_mul_right (2 ^ k) (Nat.le_of_not_lt hge)
      rw [key] at a1
      apply Nat.le_of_mul_le_mul_right _ pm
      calc 10 ^ (n + d - 1) * 10 ^ m = 10 ^ (n + k) := by rw [← Nat.pow_add]; congr 1; omega
        _ ≤ D * 10 ^ m * 2 ^ k := a1
        _ = D * 2 ^ k * 10 ^ m := Nat.mul_right_comm _ _ _
    · have a1 : 2 ^ k ≤ 10 ^ d := by
        apply Nat.le_of_mul_le_mul_right _ (show 0 < 10 ^ (m - 1) from Nat.pow_pos (by decide))
        rw [← Nat.pow_add, show d + (m - 1) = k by omega, ← hk, Nat.mul_comm (2 ^ k)]
        exact Nat.mul_le_mul_right _ c1
      calc D * 2 ^ k < 10 ^ n * 2 ^ k := Nat.mul_lt_mul_of_pos_right h2 p2
        _ ≤ 10 ^ n * 10 ^ d := Nat.mul_le_mul_left _ a1
        _ = 10 ^ (n + d) := by rw [← Nat.pow_add]
def cry (D k i : Nat) : Nat := D % 10 ^ i * 2 ^ k / 10 ^ i
theorem cry_zero (D k : Nat) : cry D k 0 = 0 := by unfold cry; simp [Nat.mod_one]
theorem cry_lt (D k i : Nat) : cry D k i < 2 ^ k := by
  unfold cry
  apply Nat.div_lt_of_lt_mul
  exact Nat.mul_lt_mul_of_pos_right (Nat.mod_lt _ (Nat.pow_pos (by decide))) (Nat.pow_pos (by decide))
theorem cry_sum (D k i : Nat) : cry D k i + D / 10 ^ i % 10 * 2 ^ k = D % 10 ^ (i + 1) * 2 ^ k / 10 ^ i := by
  unfold cry
  rw [Nat.mod_pow_succ, Nat.add_mul, Nat.mul_assoc, Nat.add_mul_div_left _ _ (Nat.pow_pos (by decide))]
theorem cry_succ (D k i : Nat) : (cry D k i + D / 10 ^ i % 10 * 2 ^ k) / 10 = cry D k (i + 1) := by
  rw [cry_sum, Nat.div_div_eq_div_mul, ← Nat.pow_succ]; rfl
theorem cry_dig (D k i : Nat) : (cry D k i + D / 10 ^ i % 10 * 2 ^ k) % 10 = D * 2 ^ k / 10 ^ i % 10 := by
  rw [cry_sum]
  have e : D * 2 ^ k = D % 10 ^ (i + 1) * 2 ^ k + 10 ^ i * (10 * (D / 10 ^ (i + 1) * 2 ^ k)) := by
    have := Nat.mod_add_div D (10 ^ (i + 1))
    calc D * 2 ^ k = (D % 10 ^ (i + 1) + 10 ^ (i + 1) * (D / 10 ^ (i + 1))) * 2 ^ k := by rw [this]
      _ = D % 10 ^ (i + 1) * 2 ^ k + 10 ^ i * (10 * (D / 10 ^ (i + 1) * 2 ^ k)) := by rw [Nat.add_mul, Nat.pow_succ]; congr 1; simp only [Nat.mul_assoc]
  rw [e, Nat.add_mul_div_left _ _ (Nat.pow_pos (by decide)), Nat.add_mul_mod_self_left]
theorem cry_end {D k n : Nat} (h : D < 10 ^ n) : cry D k n = D * 2 ^ k / 10 ^ n := by unfold cry; rw [Nat.mod_eq_of_lt h]
def dg (N L j : Nat) : Nat := 48 + N / 10 ^ (L - 1 - j) % 10
def digs (N L n : Nat) : List Nat := (List.range n).map (dg N L)
theorem digs_len (N L n : Nat) : (digs N L n).length = n := by simp [digs]
theorem digs_at (N L n j : Nat) (h : j < n) : (digs N L n)[j]?.getD 0 = dg N L j := by simp [digs, h]
theorem dg_b (N L j : Nat) : 48 ≤ dg N L j ∧ dg N L j ≤ 57 := by unfold dg; omega
theorem digs_dig (N L n : Nat) : Fmt.Dig (digs N L n) := by
  intro d hd
  simp only [digs, List.mem_map] at hd
  obtain ⟨j, _, rfl⟩ := hd
  exact dg_b _ _ _
theorem digs_first {N L n : Nat} (hn : 0 < n) (hL : 1 ≤ L) (h1 : 10 ^ (L - 1) ≤ N) (h2 : N < 10 ^ L) : dz (digs N L n) 0 = N / 10 ^ (L - 1) ∧ 1 ≤ N / 10 ^ (L - 1) := by
  have p : 0 < 10 ^ (L - 1) := Nat.pow_pos (by decide)
  have a1 : N / 10 ^ (L - 1) < 10 := by
    apply Nat.div_lt_of_lt_mul
    rw [← Nat.pow_succ, show (L - 1).succ = L by omega]; exact h2
  have a2 : 1 ≤ N / 10 ^ (L - 1) := (Nat.le_div_iff_mul_le p).mpr (by omega)
  refine ⟨?_, a2⟩
  have e : dz (digs N L n) 0 = (digs N L n)[0]?.getD 0 - 48 := by
    have := dz_in (digs_dig N L n) (i := 0) (by rw [digs_len]; exact hn)
    omega
  rw [e, digs_at _ _ _ _ hn]
  unfold dg
  simp only [Nat.sub_zero]
  rw [Nat.mod_eq_of_lt a1]; omega
def trF (N L : Nat) (tr : Bool) : Nat → Bool
  | 0 => tr
  | i + 1 => if 800 ≤ L - (i + 1) ∧ N / 10 ^ i % 10 ≠ 0 then true else trF N L tr i
theorem trimN_pos {ds : List Nat} (h : 1 ≤ dz ds 0) (n : Nat) (hn : 1 ≤ n) (hn2 : n ≤ ds.length) : 1 ≤ trimN ds n := by
  induction n with
  | zero => omega
  | succ n ih =>
    unfold trimN
    split
    · rename_i hc
      by_cases h0 : n = 0
      · subst h0
        exfalso
        unfold dz at h
        rw [List.getElem?_eq_getElem (by omega)] at h hc
        simp at h hc
        omega
      · exact ih (by omega) (by omega)
    · omega
theorem trim_first {ds : List Nat} (h : 1 ≤ dz ds 0) (hl : 0 < ds.length) : dz (trimZ ds) 0 = dz ds 0 ∧ 0 < (trimZ ds).length ∧ ∀ dp, trimD ds dp = dp := by
  have ht := trimN_pos h ds.length (by omega) (Nat.le_refl _)
  have hl2 := trimN_le ds ds.length
  refine ⟨?_, ?_, fun dp => ?_⟩
  · unfold trimZ dz; rw [List.getElem?_take, if_pos (by omega)]
  · unfold trimZ; rw [List.length_take]; omega
  · unfold trimD; rw [if_neg (by omega)]
theorem trim_gd {ds : List Nat} (hd : Fmt.Dig ds) (hl : ds.length ≤ 800) (h : 1 ≤ dz ds 0) (h0 : 0 < ds.length) : Gd (trimZ ds) := by
  obtain ⟨t1, t2, _⟩ := trim_first h h0
  refine ⟨fun d hm => hd d (List.mem_of_mem_take hm), ?_, fun _ => by rw [t1]; exact h⟩
  unfold trimZ; rw [List.length_take]; omega
def cut (k : Nat) : List Nat := ((Pinned.cheatRows.getD k (0, [])).2).map UInt8.toNat
def dlt (k : Nat) : Nat := (Pinned.cheatRows.getD k (0, [])).1
theorem cut_facts (k : Nat) (h1 : 1 ≤ k) (h2 : k ≤ 60) : Fmt.Dig (cut k) ∧ 1 ≤ (cut k).length ∧ (cut k).length ≤ k ∧ pv (cut k) (cut k).length * 2 ^ k = 10 ^ k ∧ dlt k = k - (cut k).length + 1 ∧ 1 ≤ dz (cut k) 0 ∧ 1 ≤ dz (cut k) ((cut k).length - 1) ∧ dlt k ≤ 19 := by
  have key : ∀ k : Fin 61, 1 ≤ k.val → (∀ d ∈ cut k.val, 48 ≤ d ∧ d ≤ 57) ∧ 1 ≤ (cut k.val).length ∧ (cut k.val).length ≤ k.val ∧ pv (cut k.val) (cut k.val).length * 2 ^ k.val = 10 ^ k.val ∧ dlt k.val = k.val - (cut k.val).length + 1 ∧ 1 ≤ dz (cut k.val) 0 ∧ 1 ≤ dz (cut k.val) ((cut k.val).length - 1) ∧ dlt k.val ≤ 19 := by decide +kernel
  exact key ⟨k, by omega⟩ h1
end Dg
end Go.Proofs.YtcjkgnafpkkjmaaGreatDoor
end
