/- Fibers: one more, with a handler. -/
import Derived.Test.YtjgndfhfiekomaaFibN
import Derived.Test.YtjgndfhfiekomaaOwn
namespace Go.Proofs.Ytjgndfhfiekomaa
open Go.ChangeShapes Go.WideShapes Go.RowKit
variable {w0 w w1 w' : World} {c : Sk} {A A' : Ar} {top : Int} {last : Value}
theorem info_wd : (Try.prog.info? 37).map (fun i => (i.zero, i.size, i.bytes)) = some (some (.int .u64 0), 1, 8) := by kernel_rfl
/-- Labels and what is done for each, one behind the other. -/
def zipL (ls ps : List Int) : Nat → List Int
  | 0 => []
  | k + 1 => zipL ls ps k ++ [ls[k]?.getD 0, ps[k]?.getD 0]
theorem len_zipL (ls ps : List Int) (k : Nat) : (zipL ls ps k).length = 2 * k := by
  induction k with
  | zero => rfl
  | succ k ih => simp [zipL, ih]; omega
def entL (deep : Bool) (ret : Int) (ls ps : List Int) (k : Nat) : List Int := [smW (if deep = true then 1 else 0), ret] ++ zipL ls ps k
theorem len_entL (deep : Bool) (ret : Int) (ls ps : List Int) (k : Nat) : (entL deep ret ls ps k).length = 2 + 2 * k := by simp [entL, len_zipL]; omega
theorem w64_zipL {ls ps : List Int} (h1 : ∀ x, x ∈ ls → W64 x) (h2 : ∀ x, x ∈ ps → W64 x) (k : Nat) : ∀ x, x ∈ zipL ls ps k → W64 x := by
  induction k with
  | zero => intro x hx; simp [zipL] at hx
  | succ k ih =>
    intro x hx
    simp only [zipL, List.mem_append, List.mem_cons, List.not_mem_nil, or_false] at hx
    rcases hx with hx | rfl | rfl
    · exact ih x hx
    · exact w64_nth h1 k
    · exact w64_nth h2 k
def wc (l : List Int) : List Value := l.map (Value.int .u64)
theorem wc_one (l : List Int) (u : Value) (hu : u ∈ wc l) : u.oneCell' = true := by
  unfold wc at hu
  obtain ⟨x, _, rfl⟩ := List.mem_map.1 hu
  rfl
theorem len_wc (l : List Int) : (wc l).length = l.length := by simp [wc]
theorem truth_c (b : Bool) (w : World) : Calls Try.prog 105 #[.bool b] w fun e w' => e = .returned (.int .i64 (if b = true then 1 else 0)) ∧ w = w' := by
  cases b
  · go_enter Try.func105, Try.ntmps105
    go_wp2
    go_ret
    exact ⟨rfl, rfl⟩
  · go_enter Try.func105, Try.ntmps105
    go_wp2
    go_ret
    exact ⟨rfl, rfl⟩
theorem cells_add {w : World} {g : Nat} {l : List Value} (h : ∀ j u, l[j]? = some u → w.cell? ⟨g, j, none⟩ = some u) : ∀ j u, l[j]? = some u → w.cell? ((⟨g, 0, none⟩ : Addr).add j) = some u := by
  intro j u hu
  rw [← h j u hu]
  unfold Addr.add
  split
  · subst j; rfl
  · rw [Nat.zero_add]
/-- The fields of a handler, in a row of the call's own. -/
def EntAt (w wr : World) (g cap N : Nat) (l : List Int) : Prop := wr.ownsRow w.heap.size 37 1 (.slice (some ⟨g, 0, none⟩) N cap) N (wc l) ∧ Fr [] w wr
theorem EntAt.start (w wr : World) (hF : Fr [] w wr) (a b : Int) : EntAt w (wr.alloc (.cells #[.int .u64 a, .int .u64 b] 37)) wr.heap.size 2 2 [a, b] :=
  ⟨own_mk (cur := #[.int .u64 a, .int .u64 b]) (by rw [blk_alloc, if_pos rfl]) hF.size (Nat.le_refl _) (by decide) rfl rfl, hF.alloc _⟩
theorem EntAt.fd (h : St w0 w c A top last) {wr : World} {g cap N : Nat} {l : List Int} (hE : EntAt w wr g cap N l) (hN : l.length = N) : FdAt wr c (some ⟨g, 0, none⟩) l := by
  right
  refine ⟨g, 0, rfl, own_lt hE.1, fun hm => ?_, fun i hi => ?_⟩
  · have h1 := own_base hE.1
    unfold Sk.own at hm
    simp only [List.mem_cons, List.not_mem_nil, or_false] at hm
    rcases hm with rfl | rfl | rfl | rfl | rfl
    · have := lt_size h.a.k; omega
    · have := lt_size h.a.r; omega
    · have := lt_size h.a.h.ar.hb; omega
    · have := lt_size h.a.h.ar.hw; omega
    · have := lt_size h.a.h.ar.hl; omega
  · rw [Nat.zero_add]
    exact own_cell hE.1 (by unfold wc; rw [List.getElem?_map, List.getElem?_eq_getElem hi]; rfl)
set_option maxRecDepth 100000 in
set_option maxHeartbeats 2000000 in
theorem kenter_c (h : St w0 w c A top last) (deep : Bool) (ret : Int) (hret : W64 ret) (ls ps : List Int) (h1 : ∀ x, x ∈ ls → W64 x) (h2 : ∀ x, x ∈ ps → W64 x) (n : Nat) (hn1 : ls.length = n) (hn2 : ps.length = n) (hn : n ≤ 20) (a1 a2 : Option Addr) (cap1 cap2 : Nat) (f1 : FdAt w c a1 ls) (f2 : FdAt w c a2 ps)
    (hd f : Int) (ho : (objF A c.m 8 (entL deep ret ls ps n)).2 = some hd) (hhd : W64 hd) (hf : (fibF (objF A c.m 8 (entL deep ret ls ps n)).1 c.m top hd).2 = some f) (hfw : W64 f) :
    Calls Try.prog 48 #[.pointer (some ⟨c.kb, 0, none⟩), .bool deep, .int .u64 ret, .slice a1 n cap1, .slice a2 n cap2] w fun e w' => e = .returned (.bool true) ∧ St w0 w' c (fibF (objF A c.m 8 (entL deep ret ls ps n)).1 c.m top hd).1 f (.pointer none) := by
  have H := Lib.hid h
  have HF1 := Lib.hid f1
  have HF2 := Lib.hid f2
  have HN1 := Lib.hid hn1
  have HN2 := Lib.hid hn2
  obtain ⟨i0, hi, hz0, hz1, hz2⟩ := info_parts info_wd
  have HI := Lib.hid hi
  have Z0 := Lib.hid hz0
  have Z1 := Lib.hid hz1
  have Z2 := Lib.hid hz2
  have CO : Hid (∀ wr g cap N, EntAt w wr g cap N (entL deep ret ls ps n) → N = 2 + 2 * n → Calls Try.prog 106 #[.pointer (some ⟨c.sb, 0, none⟩), .int .i64 8, .slice (some ⟨g, 0, none⟩) N cap] wr fun e w' => e = .returned (.tuple #[.int .u64 hd, .bool true]) ∧ St w0 w' c (objF A c.m 8 (entL deep ret ls ps n)).1 top last) := Lib.hid (fun wr g cap N hE hN => by
    have := vobject_c (h.keep hE.2) 8 (by omega) (entL deep ret ls ps n) (by
      intro x hx
      unfold entL at hx
      simp only [List.cons_append, List.nil_append, List.mem_cons] at hx
      rcases hx with rfl | rfl | hx
      · exact smW_w _
      · exact hret
      · exact w64_zipL h1 h2 n x hx) (some ⟨g, 0, none⟩) N cap (EntAt.fd h hE (by rw [len_entL, hN])) (by rw [len_entL, hN]) (by omega)
    rw [ho] at this
    exact this)
  have CFB : Hid (∀ w1, St w0 w1 c (objF A c.m 8 (entL deep ret ls ps n)).1 top last → Calls Try.prog 97 #[.pointer (some ⟨c.kb, 0, none⟩), .int .u64 top, .int .u64 hd] w1 fun e w' => e = .returned (.tuple #[.int .u64 f, .bool true]) ∧ St w0 w' c (fibF (objF A c.m 8 (entL deep ret ls ps n)).1 c.m top hd).1 top last) := Lib.hid (fun w1 h1 => by
    have := kfiber_c h1 top hd h1.tw hhd
    rw [hf] at this
    exact this)
  have CTU : Hid (∀ w1, St w0 w1 c (fibF (objF A c.m 8 (entL deep ret ls ps n)).1 c.m top hd).1 top last → _) := Lib.hid (fun w1 h1 => kturn_c h1 f hfw)
  generalize (fibF (objF A c.m 8 (entL deep ret ls ps n)).1 c.m top hd).1 = A2 at *
  generalize (objF A c.m 8 (entL deep ret ls ps n)).1 = A1 at *
  obtain ⟨d, hdd⟩ : ∃ d, d = smW (if deep = true then 1 else 0) := ⟨_, rfl⟩
  have SM : Hid (∀ w, Calls Try.prog 101 #[.int .i64 (if deep = true then 1 else 0)] w fun e w' => e = .returned (.int .u64 d) ∧ w = w') := Lib.hid (fun w => by rw [hdd]; exact small_c _ w (by cases deep <;> simp) (by cases deep <;> simp))
  have TR := Lib.hid (truth_c deep)
  have EL : Hid (∀ k, entL deep ret ls ps k = [d, ret] ++ zipL ls ps k) := Lib.hid (fun k => by rw [hdd]; rfl)
  have E0 : Hid (EntAt w (w.alloc (.cells #[.int .u64 d, .int .u64 ret] 37)) w.heap.size 2 2 (entL deep ret ls ps 0)) := Lib.hid (by rw [EL.out]; exact EntAt.start w w (Fr.refl _ _) d ret)
  generalize (if deep = true then (1 : Int) else 0) = dn at *
  have hnI : (n : Int) ≤ 20 := by omega
  clear h f1 f2 hn1 hn2 hi hz0 hz1 hz2 ho hf hdd h1 h2
  go_enter Try.func48, Try.ntmps48
  go_wp2_with fail
  refine (TR.out _).mono ?_
  rintro e w' ⟨rfl, rfl⟩
  go_wp2_with fail
  refine (SM.out _).mono ?_
  rintro e w' ⟨rfl, rfl⟩
  clear TR SM
  go_wp2
  go_loopw [11, 34] (fun v y wr => ∃ (k g cap N : Nat), k ≤ n ∧ y = .int .i64 (k : Int) ∧ v = .slice (some ⟨g, 0, none⟩) N cap ∧ Hid (N = 2 + 2 * k) ∧ Hid (EntAt w wr g cap N (entL deep ret ls ps k))) (fun _ y _ => n - (intOf y).toNat)
  case atStart => exact ⟨0, w.heap.size, 2, 2, Nat.zero_le _, rfl, rfl, Lib.hid rfl, E0⟩
  case round =>
    obtain ⟨k, g, cap, N, hk, rfl, rfl, hN, hE⟩ := hrel
    clear E0
    by_cases hlt : k < n
    · have r1 := HF1.out.keep ((hE.out.2).mono (T := c.own) (by simp))
      have r2 := HF2.out.keep ((hE.out.2).mono (T := c.own) (by simp))
      rcases r1 with r1 | ⟨b1, o1, rfl, p1, _, q1⟩
      · have := HN1.out; rw [r1] at this; simp at this; omega
      rcases r2 with r2 | ⟨b2, o2, rfl, p2, _, q2⟩
      · have := HN2.out; rw [r2] at this; simp at this; omega
      have d1 := q1 k (by rw [HN1.out]; exact hlt)
      have d2 := q2 k (by rw [HN2.out]; exact hlt)
      have EK := EL.out (k + 1)
      obtain ⟨x, hx⟩ : ∃ x, x = ls[k]?.getD 0 := ⟨_, rfl⟩
      obtain ⟨y, hy⟩ : ∃ y, y = ps[k]?.getD 0 := ⟨_, rfl⟩
      have NX : Hid (wc (entL deep ret ls ps k) ++ [.int .u64 x, .int .u64 y] = wc (entL deep ret ls ps (k + 1))) := Lib.hid (by
        rw [EK, EL.out k, hx, hy]; simp [wc, zipL])
      rw [← hx] at d1
      rw [← hy] at d2
      clear hx hy EK q1 q2
      have OW : Hid ((wr.alloc (.cells #[.int .u64 x, .int .u64 y] 37)).ownsRow w.heap.size 37 1 (.slice (some ⟨g, 0, none⟩) N cap) N (wc (entL deep ret ls ps k))) := Lib.hid (own_fr hE.out.1 ((Fr.refl [] _).alloc _) (by simp))
      have CE : Hid (∀ j u, [Value.int .u64 x, .int .u64 y][j]? = some u → (wr.alloc (.cells #[.int .u64 x, .int .u64 y] 37)).cell? ((⟨wr.heap.size, 0, none⟩ : Addr).add j) = some u) := Lib.hid (cells_add (fun j u hu => by
        refine cell_of (c := #[.int .u64 x, .int .u64 y]) (t := 37) (by rw [blk_alloc, if_pos rfl]) ?_
        rw [← hu]; simp))
      have hBs : w.heap.size ≤ (wr.alloc (.cells #[.int .u64 x, .int .u64 y] 37)).heap.size := by have := hE.out.2.size; rw [size_alloc]; omega
      have hNs : N ≤ 100 := by have := hN.out; omega
      have FR : Hid (Fr [] w (wr.alloc (.cells #[.int .u64 x, .int .u64 y] 37)) ∧ w.heap.size ≤ g) := Lib.hid ⟨hE.out.2.alloc _, own_base hE.out.1⟩
      clear hE
      go_wp2_with (at_builtin; refine wpList_append_own _ rfl _ _ 26 rfl w.heap.size 37 i0 (.int .u64 0) 1 8 Try.underlying26 HI.out Z0.out Z1.out Z2.out rfl (by decide) (.slice (some ⟨g, 0, none⟩) N cap) N (wc (entL deep ret ls ps k)) rfl OW.out ⟨wr.heap.size, 0, none⟩ 2 2 [.int .u64 x, .int .u64 y] rfl rfl CE.out (by simp [Value.oneCell']) (by unfold maxLen; omega) (by omega) hBs ?_; intro v' w5 hown hgrow hnil)
      have G5 : Fr [] w w5 := FR.out.1.trans (grown_fr hgrow) (by intro q hq; simp [Value.ownBlock] at hq; subst hq; right; exact FR.out.2)
      obtain ⟨g5, cap5, rfl, _, _⟩ := hown.form (by omega)
      have E5 : Hid (EntAt w w5 g5 cap5 (N + 2) (entL deep ret ls ps (k + 1))) := Lib.hid ⟨by rw [← NX.out]; exact hown, G5⟩
      have N5 : Hid (N + 2 = 2 + 2 * (k + 1)) := Lib.hid (by have := hN.out; omega)
      clear hown hgrow hnil CE OW FR NX G5
      go_wp2
      go_roundw
      case rel => exact ⟨k + 1, g5, cap5, N + 2, by omega, by go_num, rfl, N5, E5⟩
      case measure => simp [intOf]; omega
    · have hkn : k = n := by omega
      have CX := Lib.hid (CO.out wr g cap N (by rw [← hkn]; exact hE.out) (by rw [← hkn]; exact hN.out))
      have k0 := (H.out.keep hE.out.2).k0
      clear hkn CO hE
      go_wp2_with fail
      refine CX.out.mono ?_
      rintro e w5 ⟨rfl, h5⟩
      have h5 := Lib.hid h5
      clear CX k0
      go_wp2_with (go_at_call 103; refine (ktop_c h5.out).mono ?_; rintro e w' ⟨rfl, rfl⟩)
      refine (CFB.out _ h5.out).mono ?_
      rintro e w6 ⟨rfl, h6⟩
      have h6 := Lib.hid h6
      clear h5 CFB
      go_wp2_with fail
      refine (CTU.out _ h6.out).mono ?_
      rintro e w7 ⟨rfl, h7⟩
      go_wp2
      go_ret
      exact ⟨rfl, h7⟩
end Go.Proofs.Ytjgndfhfiekomaa
