/- The texts and numbers of numbers: a part of the walk. No condition. -/
import Derived.Test.YtcjkgnafpkkjmaaGreatDoorQk08
import Derived.Lib.ItoaMem
import Derived.Laws.IdiomStrings
set_option linter.all false
namespace Go.Proofs.YtcjkgnafpkkjmaaGreatDoor
section
open Go.ChangeShapes Go.WideShapes Go.RowKit
variable {w w' w2 wr : World} {a b : Option Addr} {cap cap2 : Nat} {L M : List Nat} {B : Nat}
theorem times_len {L M : List Nat} (hL : Lim L) (hM : Lim M) {x : Nat} (h : x ≤ val L * val M) : (lims x).length ≤ L.length + M.length := by
  rw [len_lims, Nat.pow_add]
  have h1 := val_lt hL
  have h2 := val_lt hM
  exact Nat.lt_of_le_of_lt h (Nat.mul_lt_mul'' h1 h2)
theorem bit_u32 (x r : Nat) (h : x < 4294967296) : bits BinOp.and IntKind.u32 ((x : Int) / 2 ^ r) 1 = ((x / 2 ^ r % 2 : Nat) : Int) := by
  have e : (x : Int) / 2 ^ r = ((x / 2 ^ r : Nat) : Int) := by simp
  have h2 := Nat.div_le_self x (2 ^ r)
  rw [e, show (1 : Int) = ((1 : Nat) : Int) from rfl, u32_and _ 1 (by omega) (by decide), Nat.and_one_is_mod]
theorem bit_b (x r : Nat) (h : x < 4294967296) (t : Nat) (ht : x / 2 ^ r % 2 = t) : (t = 0 ∨ t = 1) ∧ (bits BinOp.and IntKind.u32 ((x : Int) / 2 ^ r) 1 == 1) = decide (t = 1) := by
  rw [bit_u32 x r h, ht]
  have : t = 0 ∨ t = 1 := by omega
  refine ⟨this, ?_⟩
  rcases this with rfl | rfl <;> rfl
set_option maxRecDepth 100000 in
theorem r1times_c (w : World) (ha : In w a cap L) (hb : In w b cap2 M) (hlen : L.length + M.length ≤ 80000) : Calls Tryz.prog 119 #[.slice a L.length cap, .slice b M.length cap2] w (Gives w (lims (val L * val M))) := by
  have HA := Lib.hid ha
  have HB := Lib.hid hb
  have TL := Lib.hid (fun x (h : x ≤ val L * val M) => times_len ha.lim hb.lim h)
  have hsb : M.length ≤ 80000 := by omega
  have N0 : Hid (Nw (w.alloc (.cells #[] 84)) w.heap.size (some ⟨w.heap.size, 0, none⟩) 0 (lims (val L * (val M / 2 ^ (32 * M.length))))) := Lib.hid (by
    rw [all_bits hb.lim, Nat.mul_zero]; exact Nw.made w 0 0 (Nat.le_refl _) (by omega) (by omega))
  have F0 : Hid (Fr [] w (w.alloc (.cells #[] 84))) := Lib.hid ((Fr.refl [] w).alloc _)
  have DIV : Hid (∀ k, val L * (val M / 2 ^ k) ≤ val L * val M) := Lib.hid (fun k => Nat.mul_le_mul_left _ (Nat.div_le_self _ _))
  have E0 : Hid ((lims (val L * (val M / 2 ^ (32 * M.length)))).length = 0) := Lib.hid (by rw [all_bits hb.lim, Nat.mul_zero]; rfl)
  have ST : Hid (∀ j, val L * (val M / 2 ^ (j + 1)) + val L * (val M / 2 ^ (j + 1)) + val L * (M[j / 32]?.getD 0 / 2 ^ (j % 32) % 2) = val L * (val M / 2 ^ j)) := Lib.hid (fun j => times_step (bit_of' hb.lim j))
  clear ha hb
  go_enter Tryz.func119, Tryz.ntmps119
  go_wp2
  go_loopw [5, 6] (fun s5 s6 wr => ∃ (k : Nat) (ao : Option Addr) (co : Nat), k ≤ 32 * M.length ∧ s6 = .int .i64 ((k : Int) - 1) ∧ s5 = .slice ao (lims (val L * (val M / 2 ^ k))).length co ∧ Hid (Nw wr w.heap.size ao co (lims (val L * (val M / 2 ^ k)))) ∧ Hid (Fr [] w wr)) (fun _ x _ => (intOf x + 1).toNat)
  case atStart => exact ⟨32 * M.length, _, _, Nat.le_refl _, by first | rfl | (congr 1; omega), by rw [E0.out], N0, F0⟩
  case round =>
    obtain ⟨k, ao, co, hk, rfl, rfl, hN, hF⟩ := hrel
    cases k with
    | zero =>
      have CT := Lib.hid (r1trim_c wr hN.out.in)
      rw [Nat.pow_zero, Nat.div_one, val_lims] at CT
      rw [Nat.pow_zero, Nat.div_one] at hN ⊢
      clear hN
      go_wp2_with fail
      refine CT.out.mono ?_
      rintro e w3 ⟨a3, c3, rfl, h3, f3⟩
      have D := Lib.hid (gives_mk (h3.base hF.out.size) (hF.out.same f3))
      clear h3 f3
      go_wp2
      go_ret
      exact D.out
    | succ j =>
      rw [show (((j + 1 : Nat) : Int) - 1) = (j : Int) from by omega]
      have l1 := TL.out _ (DIV.out (j + 1))
      have C1 := Lib.hid (r1plus_c wr hN.out.in hN.out.in (by omega) (by omega))
      rw [val_lims] at C1
      have s1 := ST.out j
      have q1 : ((j : Int) / 32) = ((j / 32 : Nat) : Int) := by omega
      have q2 : ((j : Int) % 32) = ((j % 32 : Nat) : Int) := by omega
      have q3 : j / 32 < M.length := by omega
      have q4 : j % 32 < 32 := by omega
      have X1 := Lib.hid (fun W (hW : Fr [] wr W) => (HB.out.keep (hF.out.same hW)).at q3)
      have bx := lim_get HB.out.lim (j / 32)
      generalize j / 32 = q at *
      generalize j % 32 = r at *
      generalize M[q]?.getD 0 = x at *
      obtain ⟨t, ht⟩ : ∃ t, x / 2 ^ r % 2 = t := ⟨_, rfl⟩
      obtain ⟨bt, bb_⟩ := bit_b x r bx t ht
      rw [ht] at s1
      clear ht
      go_wp2_with fail
      refine C1.out.mono ?_
      rintro e w3 ⟨a3, c3, rfl, h3, f3⟩
      obtain ⟨bb, bo, rfl, bl, bc⟩ := X1.out w3 f3
      have Q0 := Lib.hid (h3.base hF.out.size)
      have G0 := Lib.hid (hF.out.same f3)
      rcases bt with rfl | rfl
      · have bb1 : (bits BinOp.and IntKind.u32 ((x : Int) / 2 ^ r) 1 == 1) = false := bb_
        rw [Nat.mul_zero, Nat.add_zero] at s1
        rw [s1] at Q0 ⊢
        clear C1 hN f3 h3 X1 bb_ s1
        go_wp2
        go_roundw
        case rel => exact ⟨j, _, _, by omega, rfl, rfl, Q0, G0⟩
        case measure => simp [intOf]
      · have bb1 : (bits BinOp.and IntKind.u32 ((x : Int) / 2 ^ r) 1 == 1) = true := bb_
        rw [Nat.mul_one] at s1
        have A3 := Lib.hid (HA.out.keep G0.out)
        have C2 := Lib.hid (r1plus_c w3 Q0.out.in A3.out (by have := TL.out _ (Nat.le_trans (Nat.le_trans (Nat.le_add_right _ _) (Nat.le_of_eq s1)) (DIV.out j)); omega) (by omega))
        rw [val_lims, s1] at C2
        clear C1 hN f3 h3 X1 bb_ s1
        go_wp2_with fail
        refine C2.out.mono ?_
        rintro e w4 ⟨a4, c4, rfl, h4, f4⟩
        have Q1 := Lib.hid (h4.base G0.out.size)
        have G1 := Lib.hid (G0.out.same f4)
        clear h4 f4 C2 Q0
        go_wp2
        go_roundw
        case rel => exact ⟨j, _, _, by omega, rfl, rfl, Q1, G1⟩
        case measure => simp [intOf]
theorem one_new (w : World) (x B : Nat) (hx : x < 4294967296) (hB : B ≤ w.heap.size) : Nw (w.alloc (.cells #[.int .u32 (x : Int)] 84)) B (some ⟨w.heap.size, 0, none⟩) 1 [x] :=
  Nw.new w [x] 1 _ hB (lim_cons.2 ⟨hx, lim_nil⟩) (by simp) (by simp) (by unfold maxLen; omega) rfl rfl
theorem same_all {L M : List Nat} (hl : L.length = M.length) (h : ∀ i, i < L.length → L[i]?.getD 0 = M[i]?.getD 0) : L = M := by
  apply List.ext_getElem hl
  intro i h1 h2
  have := h i h1
  rw [List.getElem?_eq_getElem h1, List.getElem?_eq_getElem h2] at this
  simpa using this
set_option maxRecDepth 100000 in
theorem r1same_c (w : World) (ha : In w a cap L) (hb : In w b cap2 M) : Calls Tryz.prog 80 #[.slice a L.length cap, .slice b M.length cap2] w fun e w' => e = .returned (.bool (decide (L = M))) ∧ Fr [] w w' := by
  have HA := Lib.hid ha
  have HB := Lib.hid hb
  have hsa := ha.sm
  clear ha hb
  by_cases hl : L.length = M.length
  · have HL := Lib.hid hl
    have SA := Lib.hid (fun h => same_all (L := L) (M := M) hl h)
    clear hl
    obtain ⟨r, hr⟩ : ∃ r, r = decide (L = M) := ⟨_, rfl⟩
    have HR := Lib.hid hr
    rw [← hr]
    rw [← HL.out]
    clear hr
    go_enter Tryz.func80, Tryz.ntmps80
    go_wp2_with fail
    go_loopw [13, 5] (fun x _ wr => ∃ k : Nat, k ≤ L.length ∧ x = .int .i64 (k : Int) ∧ Hid (∀ i, i < k → L[i]?.getD 0 = M[i]?.getD 0) ∧ Hid (Fr [] w wr)) (fun x _ _ => L.length - (intOf x).toNat)
    case atStart => exact ⟨0, by omega, rfl, Lib.hid (fun i h => by omega), Lib.hid (Fr.refl _ _)⟩
    case round =>
      obtain ⟨k, hk, rfl, hS, hF⟩ := hrel
      by_cases hlt : k < L.length
      · obtain ⟨ab, ao, rfl, al, ac⟩ := (HA.out.keep hF.out).at hlt
        obtain ⟨bb, bo, rfl, bl, bc⟩ := (HB.out.keep hF.out).at (i := k) (by rw [← HL.out]; exact hlt)
        have kk0 : (0 : Int) ≤ (k : Int) := by omega
        have kk1 : (k : Int) < (L.length : Int) := by omega
        have NX : Hid (L[k]?.getD 0 = M[k]?.getD 0 → ∀ i, i < k + 1 → L[i]?.getD 0 = M[i]?.getD 0) := Lib.hid (fun he i hi => by
          by_cases h : i = k
          · subst h; exact he
          · exact hS.out i (by omega))
        have NE : Hid (L[k]?.getD 0 ≠ M[k]?.getD 0 → r = false) := Lib.hid (fun he => by
          rw [HR.out, decide_eq_false_iff_not]; rintro rfl; exact he rfl)
        generalize L[k]?.getD 0 = x at *
        generalize M[k]?.getD 0 = y at *
        by_cases hxy : x = y
        · have S1 := Lib.hid (NX.out hxy)
          have hb : ((x : Int) != (y : Int)) = false := by rw [bne_eq_false_iff_eq]; omega
          clear NX NE hxy hS
          go_wp2_with fail
          go_quiet (fail)
          go_wp2
          go_roundw
          case rel => exact ⟨k + 1, by omega, by go_num, S1, Lib.hid (by first | exact hF.out.drewN _ | exact hF.out.drew | exact hF.out)⟩
          case measure => simp [intOf]; omega
        · have hb : ((x : Int) != (y : Int)) = true := by rw [bne_iff_ne]; omega
          have R0 := NE.out hxy
          have D : Hid (∀ W, Fr [] wr W → (Ending.returned (.bool false) = .returned (.bool r) ∧ Fr [] w W)) := Lib.hid (fun W hW => ⟨by rw [R0], hF.out.same hW⟩)
          clear NX NE hxy hS R0
          go_wp2_with fail
          go_quiet (fail)
          go_wp2
          go_ret
          exact D.out _ (by first | exact (Fr.refl _ _).drewN _ | exact (Fr.refl _ _).drew | exact Fr.refl _ _)
      · have hkl : k = L.length := by omega
        have R1 : r = true := by rw [HR.out, decide_eq_true_eq]; exact SA.out (by rw [← hkl]; exact hS.out)
        subst R1
        clear hS
        go_wp2
        go_ret
        exact ⟨rfl, hF.out⟩
  · have hd : decide (L = M) = false := by rw [decide_eq_false_iff_not]; rintro rfl; exact hl rfl
    rw [hd]
    have hn : ((L.length : Int) != (M.length : Int)) = true := by rw [bne_iff_ne]; omega
    clear hd hl
    go_enter Tryz.func80, Tryz.ntmps80
    go_wp2
    go_ret
    exact ⟨rfl, Fr.refl _ _⟩
end
section
open Lib
def padD : Nat → Nat → List UInt8
  | 0, _ => []
  | k + 1, r => padD k (r / 10) ++ [UInt8.ofNat (48 + r % 10)]
theorem dec_small {r : Nat} (h : r < 10) : decDigits r = [UInt8.ofNat (48 + r)] := decDigits_one h
theorem dec_big {r : Nat} (h : ¬ r < 10) : decDigits r = decDigits (r / 10) ++ [UInt8.ofNat (48 + r % 10)] := by rw [decDigits, dif_neg h]
theorem dec_split {q : Nat} (hq : 0 < q) (k r : Nat) (hr : r < 10 ^ k) : decDigits (q * 10 ^ k + r) = decDigits q ++ padD k r := by
  induction k generalizing r with
  | zero => have : r = 0 := by simpa using hr
            subst this; simp [padD]
  | succ k ih =>
    have hp : 0 < 10 ^ k := Nat.pow_pos (by decide)
    have h1 : q * 10 ^ (k + 1) = q * 10 ^ k * 10 := by rw [Nat.pow_succ, Nat.mul_assoc]
    have h2 : 0 < q * 10 ^ k := Nat.mul_pos hq hp
    rw [dec_big (by rw [h1]; omega), h1]
    have e1 : (q * 10 ^ k * 10 + r) / 10 = q * 10 ^ k + r / 10 := by omega
    have e2 : (q * 10 ^ k * 10 + r) % 10 = r % 10 := by omega
    rw [e1, e2, ih (r / 10) (by rw [Nat.pow_succ] at hr; omega), padD, List.append_assoc]
theorem padD_zero (k : Nat) : padD k 0 = List.replicate k 48 := by
  induction k with
  | zero => rfl
  | succ k ih => rw [padD, Nat.zero_div, ih, List.replicate_succ']; rfl
theorem padD_eq (k r : Nat) (hk : 0 < k) (hr : r < 10 ^ k) : (decDigits r).length ≤ k ∧ padD k r = List.replicate (k - (decDigits r).length) 48 ++ decDigits r := by
  induction k generalizing r with
  | zero => omega
  | succ k ih =>
    by_cases h : r < 10
    · rw [dec_small h, padD, show r / 10 = 0 by omega, padD_zero, show r % 10 = r by omega]
      simp
    · have hr2 : r / 10 < 10 ^ k := by rw [Nat.pow_succ] at hr; omega
      have hk2 : 0 < k := by
        rcases Nat.eq_zero_or_pos k with h0 | h0
        · subst h0; simp at hr; omega
        · exact h0
      obtain ⟨h1, h2⟩ := ih (r / 10) hk2 hr2
      rw [dec_big h, padD, h2]
      simp only [List.length_append, List.length_cons, List.length_nil, List.append_assoc]
      refine ⟨by omega, ?_⟩
      congr 2
      omega
def partsF : Nat → Nat → List Nat
  | 0, _ => []
  | k + 1, n => if n = 0 then [] else n % 1000000000 :: partsF k (n / 1000000000)
def parts (n : Nat) : List Nat := partsF n n
theorem partsF_big : ∀ (k j n : Nat), n ≤ k → n ≤ j → partsF k n = partsF j n := by
  intro k
  induction k with
  | zero => intro j n hk hj; obtain rfl : n = 0 := by omega
            cases j <;> simp [partsF]
  | succ k ih =>
    intro j n hk hj
    cases j with
    | zero => obtain rfl : n = 0 := by omega
              simp [partsF]
    | succ j =>
      unfold partsF
      by_cases h : n = 0
      · simp [h]
      · rw [if_neg h, if_neg h, ih j (n / 1000000000) (by omega) (by omega)]
theorem parts_zero : parts 0 = [] := rfl
theorem parts_pos {n : Nat} (h : n ≠ 0) : parts n = n % 1000000000 :: parts (n / 1000000000) := by
  unfold parts
  cases n with
  | zero => exact absurd rfl h
  | succ n => rw [partsF, if_neg h, partsF_big n ((n + 1) / 1000000000) _ (by omega) (by omega)]
theorem parts_nil {n : Nat} : parts n = [] ↔ n = 0 := by
  constructor
  · intro h
    by_cases h0 : n = 0
    · exact h0
    · rw [parts_pos h0] at h; simp at h
  · rintro rfl; rfl
theorem parts_lt (n : Nat) : ∀ p, p ∈ parts n → p < 1000000000 := by
  induction n using Nat.strongRecOn with
  | _ n ih =>
    by_cases h : n = 0
    · subst h; intro p hp; simp [parts_zero] at hp
    · rw [parts_pos h]
      intro p hp
      rcases List.mem_cons.1 hp with rfl | hp
      · exact Nat.mod_lt _ (by decide)
      · exact ih _ (by omega) p hp
def outOf : List Nat → List UInt8
  | [] => []
  | p :: l => outOf l ++ (if l = [] then decDigits p else padD 9 p)
theorem outOf_parts {n : Nat} (h : n ≠ 0) : outOf (parts n) = decDigits n := by
  induction n using Nat.strongRecOn with
  | _ n ih =>
    rw [parts_pos h, outOf]
    by_cases h0 : n / 1000000000 = 0
    · rw [h0, parts_zero, if_pos rfl]
      simp only [outOf, List.nil_append]
      congr 1; omega
    · rw [if_neg (fun he => h0 (parts_nil.1 he)), ih _ (by omega) h0, ← dec_split (by omega) 9 _ (by omega)]
      congr 1; omega
theorem parts_len (n : Nat) (k : Nat) (h : n < 1000000000 ^ k) : (parts n).length ≤ k := by
  induction k generalizing n with
  | zero => have : n = 0 := by simpa using h
            subst this; simp [parts_zero]
  | succ k ih =>
    by_cases h0 : n = 0
    · subst h0; simp [parts_zero]
    · rw [parts_pos h0, List.length_cons]
      have := ih (n / 1000000000) (by rw [Nat.pow_succ] at h; exact Nat.div_lt_of_lt_mul (by rw [Nat.mul_comm]; exact h))
      omega
def Popped (n v : Nat) (t : List UInt8) : Prop := if v = 0 then t = decDigits n else decDigits v ++ t = decDigits n
theorem Popped.start {n : Nat} (h : n ≠ 0) : Popped n n [] := by unfold Popped; rw [if_neg h]; simp
theorem Popped.step {n v : Nat} {t : List UInt8} (h : Popped n v t) (hv : v ≠ 0) : Popped n (v / 10) (UInt8.ofNat (48 + v % 10) :: t) := by
  unfold Popped at *
  rw [if_neg hv] at h
  by_cases h1 : v < 10
  · rw [if_pos (by omega), ← h, dec_small h1, show v % 10 = v by omega]; rfl
  · rw [if_neg (by omega), ← h, dec_big h1, List.append_assoc]; rfl
def numOf (s : List UInt8) : Nat := s.foldl (fun a c => 10 * a + (c.toNat - 48)) 0
theorem numOf_snoc (s : List UInt8) (c : UInt8) : numOf (s ++ [c]) = 10 * numOf s + (c.toNat - 48) := by simp [numOf]
def isDig (c : UInt8) : Bool := decide (48 ≤ c.toNat ∧ c.toNat ≤ 57)
theorem ofNat_dig {d : Nat} (h : d < 10) : (UInt8.ofNat (48 + d)).toNat = 48 + d := by
  rw [UInt8.toNat_ofNat']; omega
theorem dec_len {n k : Nat} (hk : 0 < k) (h : n < 10 ^ k) : (decDigits n).length ≤ k := (padD_eq k n hk h).1
end
section
open Go.ChangeShapes Go.WideShapes Go.RowKit
variable {w w' w2 wr : World} {a b : Option Addr} {cap cap2 : Nat} {L M : List Nat} {B : Nat}
def textOf (n : Nat) : List UInt8 := if fits n then Lib.decDigits n else []
theorem fits_dec {n : Nat} (h : fits n = true) : (Lib.decDigits n).length ≤ 617 := by
  unfold fits at h
  have h1 : n < 4294967296 ^ 64 := by simpa using h
  have h2 : (4294967296 : Nat) ^ 64 ≤ 10 ^ 617 := by decide +kernel
  exact dec_len (by decide) (Nat.lt_of_lt_of_le h1 h2)
structure TenI (C O : List Nat) (k R : Nat) : Prop where
  len : O.length + k = C.length
  v : val (C.drop k) = val O * 10 + R
  r : R < 10
theorem TenI.start (C : List Nat) : TenI C [] C.length 0 := ⟨by simp, by simp [val], by decide⟩
theorem TenI.step {C O : List Nat} {j R x : Nat} (h : TenI C O (j + 1) R) (hx : C[j]?.getD 0 = x) : TenI C (((R * 4294967296 + x) / 10) :: O) j ((R * 4294967296 + x) % 10) := by
  refine ⟨by have := h.len; simp; omega, ?_, Nat.mod_lt _ (by decide)⟩
  rw [val_drop, hx, val]
  exact short_step h.v rfl
theorem app_list (z : Nat) (O : List Nat) : lc [z] ++ lc O = lc (z :: O) := rfl
theorem Popped.len {n v : Nat} {t : List UInt8} {k : Nat} (h : Popped n v t) (hk : (Lib.decDigits n).length ≤ k) : t.length ≤ k := by
  unfold Popped at h
  split at h
  · rw [h]; exact hk
  · rw [← h] at hk; simp at hk; omega
theorem one_string (W : World) (ch : UInt8) {v : Int} (hv : v = (ch.toNat : Int)) : (convert 123 9 (.slice (some ⟨W.heap.size, 0, none⟩) 1 1)).run Tryz.prog (W.alloc (.cells #[.int .u8 v] 5)) = .ok (.string ⟨#[ch]⟩) (W.alloc (.cells #[.int .u8 v] 5)) := by
  refine run_convert_bytes_back (W.alloc (.cells #[.int .u8 v] 5)) 123 9 5 ⟨W.heap.size, 0, none⟩ 1 [ch] Tryz.underlying123 Tryz.underlying5 Tryz.underlying9 ?_
  intro j hj
  have hj0 : j = 0 := by simp at hj; omega
  subst hj0
  have hb : blk (W.alloc (.cells #[.int .u8 v] 5)) W.heap.size = some (.cells #[.int .u8 v] 5 (0, 0)) := by rw [blk_alloc, if_pos rfl]
  have := cell_of (i := 0) hb rfl
  rw [hv] at this ⊢
  exact this
set_option maxRecDepth 100000 in
set_option maxHeartbeats 2000000 in
theorem r1text_c (w : World) (h : In w a cap L) (hla : L.length ≤ 80000) : Calls Tryz.prog 55 #[.slice a L.length cap] w fun e w' => e = .returned (.string ⟨(textOf (val L)).toArray⟩) ∧ Fr [] w w' := by
  have H := Lib.hid h
  clear h
  obtain ⟨n, hn⟩ : ∃ n, n = val L := ⟨_, rfl⟩
  have HN := Lib.hid hn
  rw [← hn]
  clear hn
  obtain ⟨i0, hi, hz0, hz1, hz2⟩ := info_parts info_u32
  have HI := Lib.hid hi
  have Z0 := Lib.hid hz0
  have Z1 := Lib.hid hz1
  have Z2 := Lib.hid hz2
  clear hi hz0 hz1 hz2
  by_cases hb : fits n = true
  · have CB := Lib.hid (r1big_c w H.out)
    rw [← HN.out, hb] at CB
    have HT : Hid (textOf n = Lib.decDigits n) := Lib.hid (by unfold textOf; rw [if_pos hb])
    have HD := fits_dec hb
    clear hb
    by_cases h0 : n = 0
    · have D : Hid (∀ W, Fr [] w W → (Ending.returned (.string ⟨#[48]⟩) = .returned (.string ⟨(textOf n).toArray⟩) ∧ Fr [] w W)) := Lib.hid (fun W hW => ⟨by rw [HT.out, h0, dec_small (by decide)]; rfl, hW⟩)
      have HL0 : Hid ((lims n).length = 0) := Lib.hid (by rw [h0]; rfl)
      clear HD h0
      go_enter Tryz.func55, Tryz.ntmps55
      go_wp2_with fail
      refine CB.out.mono ?_
      rintro e w1 ⟨rfl, F1⟩
      have F1 := Lib.hid F1
      have CT := Lib.hid (r1trim_c w1 (H.out.keep F1.out))
      rw [← HN.out] at CT
      go_wp2_with fail
      refine CT.out.mono ?_
      rintro e w2 ⟨a2, c2, rfl, N2, F2⟩
      have D := Lib.hid (D.out w2 (F1.out.same F2))
      clear N2 F2 F1 CT CB
      rw [HL0.out]
      go_wp2
      go_ret
      exact D.out
    · have hl0 : 0 < (lims n).length := lims_len_pos.2 h0
      have hlz : (((lims n).length : Int) == 0) = false := by rw [beq_eq_false_iff_ne]; omega
      have P0 := Popped.start h0
      clear h0
      go_enter Tryz.func55, Tryz.ntmps55
      go_wp2_with fail
      refine CB.out.mono ?_
      rintro e w1 ⟨rfl, F1⟩
      have F1 := Lib.hid F1
      have H1 := Lib.hid (H.out.keep F1.out)
      have CT := Lib.hid (r1trim_c w1 H1.out)
      rw [← HN.out] at CT
      go_wp2_with fail
      refine CT.out.mono ?_
      rintro e w2 ⟨a2, c2, rfl, N2, F2⟩
      have H2 := Lib.hid (H1.out.keep F2)
      have F2 := Lib.hid (F1.out.same F2)
      clear N2 F1 CT CB H1
      go_wp2_with fail
      go_loopw [0, 3, 4, 5, 6, 7] (fun s0 s3 _ _ _ _ wr => ∃ (aC : Option Addr) (cC : Nat) (C : List Nat) (t : List UInt8), s0 = .slice aC C.length cC ∧ C.length ≤ 80000 ∧ s3 = .string ⟨t.toArray⟩ ∧ t.length ≤ 617 ∧ Popped n (val C) t ∧ Hid (In wr aC cC C) ∧ Hid (Fr [] w wr)) (fun _ s3 _ _ _ _ _ => (match s3 with | .string s => 1000 - s.size | _ => 0))
      case atStart => exact ⟨a, cap, L, [], rfl, hla, rfl, by simp, by rw [← HN.out]; exact P0, H2, F2⟩
      case round =>
        obtain ⟨aC, cC, C, t, rfl, hC, rfl, ht, hP, hI, hF⟩ := hrel
        have CT := Lib.hid (r1trim_c wr hI.out)
        by_cases hv : val C = 0
        · have hl0' : Hid ((lims (val C)).length = 0) := Lib.hid (by rw [hv]; rfl)
          have D : Hid (∀ W, Fr [] w W → (Ending.returned (.string ⟨t.toArray⟩) = .returned (.string ⟨(textOf n).toArray⟩) ∧ Fr [] w W)) := Lib.hid (fun W hW => by
            unfold Popped at hP; rw [if_pos hv] at hP
            exact ⟨by rw [HT.out, hP], hW⟩)
          clear hP hv
          go_wp2_with fail
          refine CT.out.mono ?_
          rintro e w3 ⟨a3, c3, rfl, N3, F3⟩
          have D := Lib.hid (D.out w3 (hF.out.same F3))
          clear N3 F3 CT hI hF
          rw [hl0'.out]
          go_wp2
          go_ret
          exact D.out
        · have hlc : 0 < (lims (val C)).length := lims_len_pos.2 hv
          have PS := hP.step hv
          go_wp2_with fail
          refine CT.out.mono ?_
          rintro e w3 ⟨a3, c3, rfl, N3, F3⟩
          have I3 := Lib.hid (hI.out.keep F3)
          have F3 := Lib.hid (hF.out.same F3)
          clear N3 hI hF CT hP
          go_wp2_with fail
          have NB0 : Hid (Nw (w3.alloc (.cells #[] 84)) w3.heap.size (some ⟨w3.heap.size, 0, none⟩) 0 []) := Lib.hid (Nw.made w3 0 0 (Nat.le_refl _) (by omega) (by omega))
          have FB0 : Hid (Fr [] w3 (w3.alloc (.cells #[] 84))) := Lib.hid ((Fr.refl [] w3).alloc _)
          go_loopw [4, 5, 6, 7] (fun s4 s5 s6 _ wx => ∃ (k R g cO : Nat) (O : List Nat), k ≤ C.length ∧ s6 = .int .i64 ((k : Int) - 1) ∧ s4 = .slice (some ⟨g, 0, none⟩) O.length cO ∧ s5 = .int .u64 (R : Int) ∧ TenI C O k R ∧ Hid (Nw wx w3.heap.size (some ⟨g, 0, none⟩) cO O) ∧ Hid (Fr [] w3 wx)) (fun _ _ x _ _ => (intOf x + 1).toNat)
          case atStart => exact ⟨C.length, 0, _, _, [], Nat.le_refl _, rfl, rfl, rfl, TenI.start C, NB0, FB0⟩
          case round =>
            obtain ⟨k, R, g, cO, O, hk, rfl, rfl, rfl, hT, hN, hG⟩ := hrel
            cases k with
            | zero =>
              rw [show (((0 : Nat) : Int) - 1) = -1 from rfl]
              have hr := hT.r
              have HO : Hid (O.length = C.length ∧ val C = val O * 10 + R) := Lib.hid ⟨by have := hT.len; omega, by have := hT.v; simpa using this⟩
              have EQ : Hid (val C / 10 = val O ∧ val C % 10 = R) := Lib.hid (div_of HO.out.2 hr)
              rw [EQ.out.1, EQ.out.2] at PS
              obtain ⟨ch, hch⟩ : ∃ ch, ch = UInt8.ofNat (48 + R) := ⟨_, rfl⟩
              rw [← hch] at PS
              have hcv : (48 : Int) + (R : Int) = (ch.toNat : Int) := by rw [hch, ofNat_dig hr]; omega
              have KC := fun W => one_string W ch hcv
              have LT : Hid ((ch :: t).length ≤ 617) := Lib.hid (Popped.len PS HD)
              have NO : Hid (In (wr.alloc (.cells #[.int .u8 (48 + (R : Int))] 5)) (some ⟨g, 0, none⟩) cO O) := Lib.hid (hN.out.keep ((Fr.refl [] _).alloc _)).in
              have FO : Hid (Fr [] w (wr.alloc (.cells #[.int .u8 (48 + (R : Int))] 5))) := Lib.hid ((F3.out.same hG.out).alloc _)
              clear hT hch hN hG EQ hcv
              go_wp2_with fail
              go_roundw
              case rel => exact ⟨_, _, O, ch :: t, rfl, by rw [HO.out.1]; exact hC, by rw [ByteArray.mk_append_mk]; simp, LT.out, PS, NO, FO⟩
              case measure => simp [ByteArray.size]; omega
            | succ j =>
              rw [show (((j + 1 : Nat) : Int) - 1) = (j : Int) from by omega]
              have hj : j < C.length := by omega
              obtain ⟨bb, bo, rfl, bl, bc⟩ := (I3.out.keep hG.out).at hj
              have bx := lim_get I3.out.lim j
              have TS := hT.step (x := C[j]?.getD 0) rfl
              have hr := hT.r
              have hol := hT.len
              generalize C[j]?.getD 0 = x at *
              obtain ⟨T, hTe⟩ : ∃ T, T = R * 4294967296 + x := ⟨_, rfl⟩
              rw [← hTe] at TS
              have eI : (R : Int) * 4294967296 + (x : Int) = (T : Int) := by omega
              have q1 : (T : Int) / 10 = ((T / 10 : Nat) : Int) := by omega
              have q2 : (T : Int) % 10 = ((T % 10 : Nat) : Int) := by omega
              have hz : T / 10 < 4294967296 := by omega
              have hTb : T < 42949672960 := by omega
              generalize T / 10 = z at *
              generalize T % 10 = y at *
              have hOs : O.length ≤ 80000 := by omega
              have NO : Hid (Nw (wr.alloc (.cells #[.int .u32 (z : Int)] 84)) w3.heap.size (some ⟨g, 0, none⟩) cO O) := Lib.hid (hN.out.keep ((Fr.refl [] _).alloc _))
              have OW := Lib.hid (one_new wr z w3.heap.size hz hG.out.size).own
              have CE : Hid (∀ j u, (lc O)[j]? = some u → (wr.alloc (.cells #[.int .u32 (z : Int)] 84)).cell? ((⟨g, 0, none⟩ : Addr).add j) = some u) := Lib.hid (fun j u hu => by
                have h1 := own_cell NO.out.own hu
                rw [← h1]
                unfold Addr.add
                split
                · subst j; rfl
                · rw [Nat.zero_add])
              have hBs : w3.heap.size ≤ (wr.alloc (.cells #[.int .u32 (z : Int)] 84)).heap.size := by have := hG.out.size; rw [size_alloc]; omega
              clear hT hTe hN
              go_wp2_with (at_builtin; refine wpList_append_own _ rfl _ _ 34 rfl w3.heap.size 84 i0 (.int .u32 0) 1 4 Tryz.underlying34 HI.out Z0.out Z1.out Z2.out rfl (by decide) (.slice (some ⟨wr.heap.size, 0, none⟩) 1 1) 1 (lc [z]) rfl OW.out ⟨g, 0, none⟩ O.length cO (lc O) rfl (by rw [len_lc, Nat.mul_one]) CE.out (lc_one O) (by unfold maxLen; omega) (by omega) hBs ?_; intro v' w5 hown hgrow hnil)
              have ⟨aO, cO', hv'⟩ := own_slice hown
              subst hv'
              have N5 := Lib.hid (Nw.of_own (L := z :: O) (n := 1 + O.length) (by rw [app_list] at hown; exact hown) (lim_cons.2 ⟨hz, NO.out.lim⟩) (by simp; omega))
              have G5 : Hid (Fr [] w3 w5) := Lib.hid ((hG.out.alloc _).trans (grown_fr hgrow) (by intro q hq; simp [Value.ownBlock] at hq; subst hq; right; exact hG.out.size))
              obtain ⟨g5, rfl, _, _⟩ := N5.out.at (i := 0) (by simp)
              clear hown hgrow hnil CE OW NO
              go_wp2
              go_roundw
              case rel => exact ⟨j, y, g5, cO', z :: O, by omega, by first | rfl | go_num, by rw [List.length_cons, Nat.add_comm 1], by first | rfl | exact congrArg _ q2, TS, N5, G5⟩
              case measure => simp [intOf]
  · have CB := Lib.hid (r1big_c w H.out)
    have hbf : fits n = false := by simpa using hb
    rw [← HN.out, hbf] at CB
    have HT : Hid (textOf n = []) := Lib.hid (by unfold textOf; rw [if_neg hb])
    clear hb hbf
    go_enter Tryz.func55, Tryz.ntmps55
    go_wp2_with fail
    refine CB.out.mono ?_
    rintro e w1 ⟨rfl, F1⟩
    have D : Hid (Ending.returned (.string ⟨#[]⟩) = .returned (.string ⟨(textOf n).toArray⟩) ∧ Fr [] w w1) := Lib.hid ⟨by rw [HT.out], F1⟩
    clear F1
    go_wp2
    go_ret
    exact D.out
end
end Go.Proofs.YtcjkgnafpkkjmaaGreatDoor
