import Derived.Test.YtjdanblijcdllaaGreatDoorFloR
import Derived.Test.YtjdanblijcdllaaGreatDoorLawT
import Derived.Test.YtjdanblijcdllaaGreatDoorStrR
/- The plain law of FloNear: the floating number nearest to a whole number, and its neighbours. No program in sight. -/
set_option linter.all false
namespace Go.Proofs.YtjdanblijcdllaaGreatDoor
open Ieee
theorem ofR_lt {v : Nat} (h : v < 4294967296 ^ 30) : ofR v < 9007199254740992 * 1000 := by
  by_cases h0 : v = 0
  · rw [h0]; unfold ofR; rw [if_pos rfl]; decide
  · have hl : v.log2 < 960 := (Nat.log2_lt h0).2 (by
      have h2 : (4294967296 : Nat) ^ 30 = 2 ^ 960 := by decide +kernel
      rwa [h2] at h)
    have hk := keptN_b h0
    unfold ofR
    rw [if_neg h0]
    omega
theorem ofR_zero : ofR 0 = 0 := by unfold ofR; rw [if_pos rfl]
theorem ofR_whole {v : Nat} (h : v < 4294967296 ^ 30) : magn (ofR v) % U1 = 0 := by
  have hlt := ofR_lt h
  by_cases hl : v.log2 ≤ 52
  · have hv : v < 9007199254740992 := by
      have := Nat.lt_log2_self (n := v)
      have h2 : (2 : Nat) ^ (v.log2 + 1) ≤ 2 ^ 53 := Nat.pow_le_pow_right (by decide) (by omega)
      have h3 : (2 : Nat) ^ 53 = 9007199254740992 := by decide
      omega
    rw [magn_ofR hv]
    exact Nat.mul_mod_left _ _
  · have h0 : v ≠ 0 := by
      intro hc
      subst hc
      exact hl (by decide)
    have hk := keptN_b h0
    have ho : ofR v = (v.log2 + 1022) * 4503599627370496 + keptN v := by
      unfold ofR at hlt ⊢
      rw [if_neg h0] at hlt ⊢
      omega
    have hpow : (2 : Nat) ^ (v.log2 + 1022) = 2 ^ (v.log2 - 52) * U1 := by
      unfold U1
      rw [← Nat.pow_add, B1_eq]; congr 1; omega
    rw [ho, magn_at _ _ hk.1 hk.2, hpow, ← Nat.mul_assoc]
    exact Nat.mul_mod_left _ _
/-- The word of the number nearest to a whole number. -/
def ofW (s : Bool) (v : Nat) : Nat := if s then Op.negFloat .f64 (ofR v) else ofR v
theorem ofW_eq (s : Bool) {v : Nat} (h : v < 4294967296 ^ 30) : ofW s v = ofR v + if s then 9223372036854775808 else 0 := by
  have hlt := ofR_lt h
  unfold ofW
  cases s with
  | false => rfl
  | true =>
    have hs : fsg (ofR v) = false := by unfold fsg; rw [Nat.div_eq_of_lt (by omega)]; rfl
    rw [if_pos rfl, if_pos rfl, neg_eq (by omega), hs]; rfl
theorem fsg_at (s : Bool) {r : Nat} (h : r < 9223372036854775808) : fsg (r + if s then 9223372036854775808 else 0) = s := by
  unfold fsg
  cases s with
  | false => simp only [Bool.false_eq_true, if_false, Nat.add_zero]; rw [Nat.div_eq_of_lt h]; rfl
  | true => rw [if_pos rfl, show (r + 9223372036854775808) / 9223372036854775808 = 1 by omega]; rfl
theorem mod_at (s : Bool) {r : Nat} (h : r < 9223372036854775808) : (r + if s then 9223372036854775808 else 0) % 9223372036854775808 = r := by
  cases s <;> simp <;> omega
theorem key_at (s : Bool) {r : Nat} (h : r < 9218868437227405312) : keyF (r + if s then 9223372036854775808 else 0) = if s then -(magn r : Int) else magn r := by
  have h2 : r < 9223372036854775808 := by omega
  rw [keyF_fin (by unfold Fin64; rw [mod_at s h2]; exact h), num_fmg, fsg_at s h2]
  unfold fmg
  rw [mod_at s h2]
theorem nan_at (s : Bool) {r : Nat} (h : r < 9218868437227405312) : isNan (r + if s then 9223372036854775808 else 0) = false := by
  unfold isNan
  rw [mod_at s (by omega)]
  exact decide_eq_false (by omega)
theorem fc_at (s : Bool) (n : Nat) {r : Nat} (t : Bool) (h : r < 9218868437227405312) : fcP s n (r + if t then 9223372036854775808 else 0) = sgI (unitX s n) (if t then -(magn r : Int) else magn r) := by
  unfold fcP
  rw [nan_at t h, if_neg (by decide), key_at t h]
structure Near (s : Bool) (n b : Nat) : Prop where
  lt : b < 18446744073709551616
  dn : nextDn b < 18446744073709551616
  up : nextUp b < 18446744073709551616
  fin : Fin64 b
  whole : WholeF b
  n0 : isNan b = false
  n1 : isNan (nextDn b) = false
  n2 : isNan (nextUp b) = false
  cdn : fcP s n (nextDn b) = 1
  cup : fcP s n (nextUp b) = -1
  back : cmpP s n (sg (fsg b) (exN b)) (exN b) = fcP s n b
theorem sgI_gt {a b : Int} (h : b < a) : sgI a b = 1 := by unfold sgI; rw [if_neg (by omega), if_neg (by omega)]
theorem sgI_lt {a b : Int} (h : a < b) : sgI a b = -1 := by unfold sgI; rw [if_pos h]
theorem nx_zero : nextDn 0 < 18446744073709551616 ∧ nextUp 0 < 18446744073709551616 ∧ isNan (nextDn 0) = false ∧ isNan (nextUp 0) = false := by decide
theorem sg_ones : sgI 0 (-1) = 1 ∧ sgI 0 1 = -1 := by decide
theorem fc_zero : fcP false 0 (nextDn 0) = 1 ∧ fcP false 0 (nextUp 0) = -1 := by
  have m1 : magn 1 = 1 := by decide
  have hd : nextDn 0 = 1 + if (true : Bool) then 9223372036854775808 else 0 := by decide
  have hu : nextUp 0 = 1 + if (false : Bool) then 9223372036854775808 else 0 := by decide
  have hx : unitX false 0 = 0 := by unfold unitX sInt; simp
  constructor
  · rw [hd, fc_at false 0 true (by decide), m1, hx]; exact sg_ones.1
  · rw [hu, fc_at false 0 false (by decide), m1, hx]; exact sg_ones.2
theorem near_back (s : Bool) {n : Nat} (h : n < 4294967296 ^ 30) (hs : s = true → n ≠ 0) (hwh : WholeF (ofW s n)) (hfm : fmg (ofW s n) = magn (ofR n)) (hg : fsg (ofW s n) = s) : cmpP s n (sg (fsg (ofW s n)) (exN (ofW s n))) (exN (ofW s n)) = fcP s n (ofW s n) := by
  have hlt := ofR_lt h
  have he := ofW_eq s h
  have hU := U1_pos
  have hex := whole_mul hwh
  rw [cmpP_sgI hs (by unfold sg; intro hc; simp at hc; exact hc.2)]
  rw [← sgI_scale _ _ (show (0 : Int) < (U1 : Int) by omega)]
  have h1 := fc_at s n s (r := ofR n) (by omega)
  rw [← he] at h1
  rw [h1]
  have h2 : sInt (sg (fsg (ofW s n)) (exN (ofW s n))) (exN (ofW s n)) * U1 = if s then -(magn (ofR n) : Int) else magn (ofR n) := by
    rw [← hfm, hex, hg]
    unfold sInt sg
    generalize exN (ofW s n) = k
    generalize U1 = U
    cases s with
    | false => simp
    | true =>
      by_cases h0 : k = 0
      · rw [h0]; simp
      · simp [h0, Int.neg_mul]
  rw [h2]
  rfl
theorem near_side (s : Bool) {n : Nat} (h0 : n ≠ 0) (hlt : ofR n < 9007199254740992 * 1000) (he : ofW s n = ofR n + if s then 9223372036854775808 else 0) (hm : ofW s n % 9223372036854775808 = ofR n) (hg : fsg (ofW s n) = s) :
    nextDn (ofW s n) < 18446744073709551616 ∧ nextUp (ofW s n) < 18446744073709551616 ∧ isNan (nextDn (ofW s n)) = false ∧ isNan (nextUp (ofW s n)) = false ∧ fcP s n (nextDn (ofW s n)) = 1 ∧ fcP s n (nextUp (ofW s n)) = -1 := by
  have hp := ofR_pos h0
  have hn := near_of h0 (by omega)
  have hne : ¬ ofW s n % 9223372036854775808 = 0 := by rw [hm]; omega
  have hd : nextDn (ofW s n) = (if s then ofR n + 1 else ofR n - 1) + if s then 9223372036854775808 else 0 := by
    unfold nextDn
    rw [if_neg hne, hg, he]
    generalize ofR n = r at *
    generalize (9223372036854775808 : Nat) = PP at *
    cases s with
    | false => simp only [Bool.false_eq_true, if_false]; all_goals omega
    | true => simp only [if_true]; all_goals omega
  have hu : nextUp (ofW s n) = (if s then ofR n - 1 else ofR n + 1) + if s then 9223372036854775808 else 0 := by
    unfold nextUp
    rw [if_neg hne, hg, he]
    generalize ofR n = r at *
    generalize (9223372036854775808 : Nat) = PP at *
    cases s with
    | false => simp only [Bool.false_eq_true, if_false]; all_goals omega
    | true => simp only [if_true]; all_goals omega
  rw [hd, hu]
  have l1 : (if s then ofR n + 1 else ofR n - 1) < 9218868437227405312 := by split <;> omega
  have l2 : (if s then ofR n - 1 else ofR n + 1) < 9218868437227405312 := by split <;> omega
  refine ⟨by split <;> omega, by split <;> omega, nan_at s l1, nan_at s l2, ?_, ?_⟩
  · rw [fc_at s n s l1]
    refine sgI_gt ?_
    unfold unitX sInt
    have e : ((n * U1 : Nat) : Int) = (n : Int) * (U1 : Int) := by push_cast; rfl
    generalize n * U1 = y at *
    cases s with
    | false => simp only [Bool.false_eq_true, if_false]; all_goals omega
    | true => simp only [if_true]; rw [Int.neg_mul]; omega
  · rw [fc_at s n s l2]
    refine sgI_lt ?_
    unfold unitX sInt
    have e : ((n * U1 : Nat) : Int) = (n : Int) * (U1 : Int) := by push_cast; rfl
    generalize n * U1 = y at *
    cases s with
    | false => simp only [Bool.false_eq_true, if_false]; all_goals omega
    | true => simp only [if_true]; rw [Int.neg_mul]; omega
theorem near_law (s : Bool) {n : Nat} (h : n < 4294967296 ^ 30) (hs : s = true → n ≠ 0) : Near s n (ofW s n) := by
  have hlt := ofR_lt h
  have he := ofW_eq s h
  have hw := ofR_whole h
  have hm : ofW s n % 9223372036854775808 = ofR n := by rw [he]; exact mod_at s (by omega)
  have hg : fsg (ofW s n) = s := by rw [he]; exact fsg_at s (by omega)
  have hfin : Fin64 (ofW s n) := by unfold Fin64; rw [hm]; omega
  have hfm : fmg (ofW s n) = magn (ofR n) := by unfold fmg; rw [hm]
  have hwh : WholeF (ofW s n) := ⟨hfin, by rw [hfm]; exact hw⟩
  have hbk := near_back s h hs hwh hfm hg
  have hlt2 : ofW s n < 18446744073709551616 := by rw [he]; split <;> omega
  have hn0 : isNan (ofW s n) = false := by rw [he]; exact nan_at s (by omega)
  have hnx : nextDn (ofW s n) < 18446744073709551616 ∧ nextUp (ofW s n) < 18446744073709551616 ∧ isNan (nextDn (ofW s n)) = false ∧ isNan (nextUp (ofW s n)) = false ∧ fcP s n (nextDn (ofW s n)) = 1 ∧ fcP s n (nextUp (ofW s n)) = -1 := by
    by_cases h0 : n = 0
    · have hsf : s = false := by cases s with | false => rfl | true => exact absurd h0 (hs rfl)
      have hz : ofW s n = 0 := by rw [he, h0, ofR_zero, hsf]; rfl
      rw [hz, h0, hsf]
      exact ⟨nx_zero.1, nx_zero.2.1, nx_zero.2.2.1, nx_zero.2.2.2, fc_zero.1, fc_zero.2⟩
    · exact near_side s h0 hlt he hm hg
  exact ⟨hlt2, hnx.1, hnx.2.1, hfin, hwh, hn0, hnx.2.2.1, hnx.2.2.2.1, hnx.2.2.2.2.1, hnx.2.2.2.2.2, hbk⟩
end Go.Proofs.YtjdanblijcdllaaGreatDoor
/- No function that the laws over the floating numbers reach comes back to itself: by an order of those functions (printed by ring.py). -/
namespace Go.Proofs.YtjdanblijcdllaaGreatDoor
open Go.RowKit
/-- The functions that one names. -/
def leadsAt (P : Program) (g : FuncId) : List FuncId := (P.funcs[g]?).elim [] P.leadsTo
/-- Each leads only to later ones. -/
def topoB (P : Program) : List (FuncId × List FuncId) → Bool
  | [] => true
  | (g, l) :: r => (leadsAt P g == l) && l.all (fun h => r.any fun p => p.1 == h) && !(r.any fun p => p.1 == g) && topoB P r
theorem any_fst {r : List (FuncId × List FuncId)} {h : FuncId} : (r.any fun p => p.1 == h) = true ↔ h ∈ r.map Prod.fst := by
  simp [List.any_eq_true, List.mem_map]
theorem topo_parts {P : Program} {g : FuncId} {l : List FuncId} {r : List (FuncId × List FuncId)} (h : topoB P ((g, l) :: r) = true) :
    leadsAt P g = l ∧ (∀ x ∈ l, x ∈ r.map Prod.fst) ∧ g ∉ r.map Prod.fst ∧ topoB P r = true := by
  unfold topoB at h
  simp only [Bool.and_eq_true, beq_iff_eq, List.all_eq_true, Bool.not_eq_true'] at h
  obtain ⟨⟨⟨h1, h2⟩, h3⟩, h4⟩ := h
  refine ⟨h1, fun x hx => any_fst.1 (h2 x hx), fun hc => ?_, h4⟩
  rw [any_fst.2 hc] at h3
  cases h3
theorem topo_closed {P : Program} : ∀ {T : List (FuncId × List FuncId)}, topoB P T = true → ∀ x ∈ T.map Prod.fst, ∀ y ∈ leadsAt P x, y ∈ T.map Prod.fst
  | [], _, x, hx, _, _ => by cases hx
  | (g, l) :: r, h, x, hx, y, hy => by
    obtain ⟨h1, h2, _, h4⟩ := topo_parts h
    rw [List.map_cons] at hx ⊢
    rcases List.mem_cons.1 hx with rfl | hx
    · have hy' : y ∈ l := by rw [← h1]; exact hy
      exact List.mem_cons_of_mem _ (h2 y hy')
    · exact List.mem_cons_of_mem _ (topo_closed h4 x hx y hy)
theorem via_sub {P : Program} {Q : FuncId → Prop} (hQ : ∀ x, Q x → ∀ y ∈ leadsAt P x, Q y) : ∀ (n : Nat) (todo seen : List FuncId), (∀ x ∈ todo, Q x) → (∀ x ∈ seen, Q x) → ∀ x ∈ P.closureVia n todo seen, Q x
  | 0, todo, seen, _, hs, x, hx => hs x (by unfold Program.closureVia at hx; exact List.mem_reverse.1 hx)
  | n + 1, [], seen, _, hs, x, hx => hs x (by unfold Program.closureVia at hx; exact List.mem_reverse.1 hx)
  | n + 1, f :: todo, seen, ht, hs, x, hx => by
    unfold Program.closureVia at hx
    have hf := ht f List.mem_cons_self
    have ht2 : ∀ x ∈ todo, Q x := fun x h => ht x (List.mem_cons_of_mem _ h)
    split at hx
    · exact via_sub hQ n todo seen ht2 hs x hx
    · refine via_sub hQ n _ _ (fun y hy => ?_) (fun y hy => ?_) x hx
      · rcases List.mem_append.1 hy with hy | hy
        · exact hQ f hf y hy
        · exact ht2 y hy
      · rcases List.mem_cons.1 hy with rfl | hy
        · exact hf
        · exact hs y hy
theorem closure_sub {P : Program} {Q : FuncId → Prop} (hQ : ∀ x, Q x → ∀ y ∈ leadsAt P x, Q y) {f : FuncId} (hf : Q f) : ∀ x ∈ P.closure f, Q x :=
  via_sub hQ _ _ _ (fun x hx => by rw [List.mem_singleton.1 hx]; exact hf) (fun _ hx => by cases hx)
theorem topo_norec {P : Program} : ∀ {T : List (FuncId × List FuncId)}, topoB P T = true → ∀ x ∈ T.map Prod.fst, ∀ y ∈ leadsAt P x, x ∉ P.closure y
  | [], _, x, hx, _, _ => by cases hx
  | (g, l) :: r, h, x, hx, y, hy => by
    obtain ⟨h1, h2, h3, h4⟩ := topo_parts h
    rw [List.map_cons] at hx
    by_cases hr : x ∈ r.map Prod.fst
    · exact topo_norec h4 x hr y hy
    · rcases List.mem_cons.1 hx with rfl | hx
      · have hy' : y ∈ l := by rw [← h1]; exact hy
        intro hc
        exact hr (closure_sub (topo_closed h4) (h2 y hy') _ hc)
      · exact absurd hx hr
theorem norec_of {P : Program} {T : List (FuncId × List FuncId)} (hT : topoB P T = true) {f : FuncId} (hf : f ∈ T.map Prod.fst) (hu : P.unfollowed f = false) : P.recurses f = false := by
  unfold Program.recurses
  rw [hu, Bool.false_or, List.any_eq_false]
  intro g hg
  have hg' := closure_sub (topo_closed hT) hf g hg
  intro hc
  obtain ⟨h, hh, hc⟩ := List.any_eq_true.1 hc
  exact topo_norec hT g hg' h hh (by simpa using hc)
def flTable : List (FuncId × List FuncId) := [(10, [28, 29, 45, 46, 33]),
  (46, [91, 90, 100, 35]),
  (100, [149, 150]),
  (150, [90, 15, 15, 37, 77, 93, 93, 89]),
  (149, []),
  (45, [99]),
  (99, []),
  (9, [29, 39, 40, 38, 42, 41, 38, 42, 41, 41, 43, 44]),
  (44, [98, 97]),
  (97, [113, 111, 147, 148, 111, 148, 111]),
  (148, [153, 153, 84]),
  (147, [153, 153, 153, 153]),
  (113, [153, 153, 84]),
  (153, []),
  (98, [111]),
  (111, []),
  (41, [90, 90, 91, 43, 50, 91]),
  (50, [105, 105]),
  (105, [85, 85, 141]),
  (91, [134, 135]),
  (135, [15, 90, 170, 170]),
  (170, [92, 35]),
  (134, []),
  (42, [15, 15, 37, 28, 35, 49, 28, 49, 28]),
  (39, [84, 83]),
  (83, []),
  (8, [34, 35, 29, 37, 36, 38, 36, 36, 32, 37, 37, 32]),
  (37, [28]),
  (7, [28, 28, 29, 30, 31, 32, 33]),
  (33, [31, 31]),
  (32, [30, 30]),
  (31, [49]),
  (30, [49]),
  (29, [34, 43, 36, 36, 36, 73, 40]),
  (40, [85, 86, 87, 87, 88, 89]),
  (88, [87]),
  (87, []),
  (86, [131]),
  (73, [120, 120]),
  (120, [157, 84, 84]),
  (157, [84]),
  (84, []),
  (36, [76, 77, 79, 78, 79, 80, 81, 78, 82]),
  (81, [128, 124]),
  (128, [167]),
  (167, [205]),
  (205, [233, 233, 233, 233, 233, 233, 253]),
  (80, [127]),
  (127, [166]),
  (78, [125]),
  (125, [163]),
  (163, [166]),
  (166, [201, 202, 201, 203, 202, 204]),
  (204, [252]),
  (252, []),
  (203, []),
  (202, []),
  (201, [251]),
  (251, []),
  (79, [126]),
  (126, [164, 165]),
  (165, [186, 187, 188, 189, 190, 191, 200, 194, 193, 190, 195, 195, 191, 196, 194, 193, 190, 197, 198, 199, 199, 199, 190]),
  (200, [234, 195, 195, 236, 235, 237, 238, 239, 237, 238, 240, 237, 241]),
  (164, [186, 187, 188, 189, 190, 191, 192, 194, 193, 190, 195, 195, 191, 196, 194, 193, 190, 197, 198, 199, 199, 199, 190]),
  (199, [248, 249, 250]),
  (250, [245]),
  (249, []),
  (197, [245]),
  (196, [195, 236, 235, 237, 243, 244, 244, 241]),
  (244, [267]),
  (267, []),
  (193, [207]),
  (192, [234, 195, 195, 236, 235, 237, 238, 239, 237, 238, 240, 237, 241]),
  (240, []),
  (239, []),
  (238, []),
  (234, []),
  (190, []),
  (189, [233]),
  (188, [231, 232]),
  (232, [231]),
  (231, [206, 194, 207, 208]),
  (187, []),
  (186, []),
  (76, [90, 90]),
  (43, [92, 90, 77, 93, 89, 94, 95, 96]),
  (96, [85, 85, 140, 140, 145, 145, 144, 146]),
  (146, [85, 140]),
  (95, [85, 85, 140, 140, 141, 142, 85, 94, 143, 85, 85]),
  (143, [173, 174, 174, 175, 176, 177, 178]),
  (178, [145]),
  (145, []),
  (177, [144]),
  (144, []),
  (176, [179, 179]),
  (179, []),
  (175, []),
  (174, []),
  (173, [131]),
  (131, []),
  (142, []),
  (141, [171, 172]),
  (172, [210, 210]),
  (210, []),
  (171, [209, 209]),
  (209, []),
  (140, []),
  (94, [85]),
  (85, [130]),
  (130, []),
  (89, [132, 133]),
  (133, [90, 15, 169, 49, 35, 38, 38, 28]),
  (132, []),
  (93, [138, 139]),
  (139, [90, 15, 169, 49, 28]),
  (169, [77]),
  (15, []),
  (138, []),
  (90, [77]),
  (92, [136, 137]),
  (137, [77, 35, 49, 28]),
  (35, [49, 49, 28]),
  (77, [49, 28]),
  (49, []),
  (136, []),
  (34, [28, 38, 38, 74, 75]),
  (75, [123, 124]),
  (124, [159, 160, 161, 162]),
  (162, [184, 82, 185]),
  (161, [184, 82, 185]),
  (185, []),
  (82, [129]),
  (129, [168]),
  (168, [206, 194, 207, 208]),
  (208, [254, 255]),
  (255, [269, 270]),
  (270, []),
  (269, []),
  (254, []),
  (207, []),
  (194, [191, 195, 242]),
  (195, []),
  (206, []),
  (160, [184]),
  (159, [184]),
  (184, []),
  (123, [158]),
  (158, [182, 183]),
  (183, [218, 219, 220, 227, 228, 228, 228, 229, 230, 230, 225, 226, 228]),
  (230, [191, 236, 235, 228, 237, 243, 242, 241, 266]),
  (266, [228, 228, 228]),
  (229, []),
  (182, [218, 219, 220, 221, 222, 222, 222, 223, 224, 224, 225, 226, 222]),
  (226, [198, 198, 198, 198, 265]),
  (265, [248]),
  (248, []),
  (198, [246, 246, 247, 247]),
  (247, [245]),
  (246, [268, 245]),
  (245, []),
  (268, []),
  (225, [233]),
  (224, [191, 236, 235, 222, 237, 243, 242, 241, 264]),
  (264, [222, 222, 222]),
  (241, []),
  (242, []),
  (243, []),
  (237, [257, 257, 227, 227]),
  (227, []),
  (257, []),
  (235, []),
  (236, []),
  (191, []),
  (223, []),
  (221, []),
  (220, [222, 228]),
  (222, []),
  (219, [233, 233, 233, 233, 233, 253]),
  (253, [233, 233, 233, 233, 233, 233]),
  (233, []),
  (218, [261, 262, 261, 263]),
  (263, [228]),
  (262, [228]),
  (228, []),
  (261, []),
  (74, [121, 122, 122, 121, 122]),
  (122, []),
  (121, []),
  (38, [28]),
  (28, [])]
theorem flTopo : topoB Tryz.prog flTable = true := by kernel_rfl
theorem norec_FloBits : Tryz.prog.recurses 7 = false := norec_of flTopo (by decide) (by kernel_rfl)
theorem norec_FloNames : Tryz.prog.recurses 8 = false := norec_of flTopo (by decide) (by kernel_rfl)
theorem norec_FloNear : Tryz.prog.recurses 9 = false := norec_of flTopo (by decide) (by kernel_rfl)
theorem norec_FloRounds : Tryz.prog.recurses 10 = false := norec_of flTopo (by decide) (by kernel_rfl)
end Go.Proofs.YtjdanblijcdllaaGreatDoor
/- Walks: strconv's ParseFloat at a text, flo.Parse at two texts, floAlive. -/
namespace Go.Proofs.YtjdanblijcdllaaGreatDoor
open Go.ChangeShapes Go.WideShapes Go.RowKit Go.Shelf
set_option maxRecDepth 20000
variable {a : Option Addr} {cap k : Nat} {w w' : World} {x0 x1 : Value}
set_option maxHeartbeats 1000000
def s150 : Value := .string ⟨#[45, 49, 46, 53, 101, 50]⟩
theorem atof64_c (w : World) (HL : LdF w) : Calls Tryz.prog 183 #[.string ⟨#[45, 49, 46, 53, 101, 50]⟩] w fun e w' => e = .returned (.tuple #[.float .f64 13862853709232340992, .int .i64 6, .nilIface]) ∧ w = w' := by
  have ho := HL.opt
  have hx := Lib.hid HL
  go_enter Tryz.func183, Tryz.ntmps183
  go_wp2_with fail
  refine (special_no _).mono ?_
  rintro e w' ⟨rfl, rfl⟩
  go_wp2_with fail
  refine (readFloat_c _).mono ?_
  rintro e w' ⟨rfl, rfl⟩
  go_wp2_with fail
  refine (bool2_yes _).mono ?_
  rintro e w' ⟨rfl, rfl⟩
  go_wp2_with fail
  refine (exact64_c _ hx.out).mono ?_
  rintro e w' ⟨rfl, rfl⟩
  go_wp2_with fail
  go_ret3
  exact ⟨rfl, rfl⟩
theorem parsePrefix_c (w : World) (HL : LdF w) : Calls Tryz.prog 158 #[.string ⟨#[45, 49, 46, 53, 101, 50]⟩, .int .i64 64] w fun e w' => e = .returned (.tuple #[.float .f64 13862853709232340992, .int .i64 6, .nilIface]) ∧ w = w' := by
  have hx := Lib.hid HL
  go_enter Tryz.func158, Tryz.ntmps158
  go_wp2_with fail
  refine (atof64_c _ hx.out).mono ?_
  rintro e w' ⟨rfl, rfl⟩
  go_wp2_with fail
  go_ret3
  exact ⟨rfl, rfl⟩
theorem isParseFloat_c (w : World) (HL : LdF w) : Calls Tryz.prog 123 #[.string ⟨#[45, 49, 46, 53, 101, 50]⟩, .int .i64 64] w fun e w' => e = .returned (.tuple #[.float .f64 13862853709232340992, .nilIface]) ∧ w = w' := by
  have hx := Lib.hid HL
  go_enter Tryz.func123, Tryz.ntmps123
  go_wp2_with fail
  refine (parsePrefix_c _ hx.out).mono ?_
  rintro e w' ⟨rfl, rfl⟩
  go_wp2_with fail
  go_ret2
  exact ⟨rfl, rfl⟩
theorem scParseFloat_c (w : World) (HL : LdF w) : Calls Tryz.prog 75 #[.string ⟨#[45, 49, 46, 53, 101, 50]⟩, .int .i64 64] w fun e w' => e = .returned (.tuple #[.float .f64 13862853709232340992, .nilIface]) ∧ w = w' := by
  have hx := Lib.hid HL
  go_enter Tryz.func75, Tryz.ntmps75
  go_wp2_with fail
  refine (isParseFloat_c _ hx.out).mono ?_
  rintro e w' ⟨rfl, rfl⟩
  go_wp2_with fail
  go_ret2
  exact ⟨rfl, rfl⟩
theorem parse_150 (w : World) (HL : LdF w) : Calls Tryz.prog 34 #[.string ⟨#[45, 49, 46, 53, 101, 50]⟩] w fun e w' => e = .returned (.tuple #[.float .f64 13862853709232340992, .int .i64 0]) ∧ Fr [] w w' := by
  have hx := Lib.hid HL
  go_enter Tryz.func34, Tryz.ntmps34
  go_wp2_with fail
  refine (flright_yes _).mono ?_
  rintro e w' ⟨rfl, F1⟩
  have F1 := Lib.hid F1
  go_wp2_with fail
  refine (scParseFloat_c _ (hx.out.fr F1.out)).mono ?_
  rintro e w2 ⟨rfl, rfl⟩
  go_wp2_with fail
  go_ret2
  exact ⟨rfl, F1.out⟩
theorem parse_12 (w : World) : Calls Tryz.prog 34 #[.string ⟨#[49, 50]⟩] w fun e w' => e = .returned (.tuple #[.float .f64 0, .int .i64 31]) ∧ Fr [] w w' := by
  go_enter Tryz.func34, Tryz.ntmps34
  go_wp2_with fail
  refine (flright_no _).mono ?_
  rintro e w' ⟨rfl, F1⟩
  have F1 := Lib.hid F1
  go_wp2_with fail
  go_ret2
  exact ⟨rfl, F1.out⟩
theorem lims_150 : lims 150 = [150] := lims_of 150 [150] (by decide) rfl (by decide)
theorem whole_150 : WholeF 13862853709232340992 := ⟨by unfold Fin64; decide, by unfold fmg U1; rw [B1_eq]; decide +kernel⟩
theorem exN_150 : exN 13862853709232340992 = 150 := by unfold exN fmg U1; rw [B1_eq]; decide +kernel
theorem ex_150 (w : World) : Calls Tryz.prog 43 #[.float .f64 13862853709232340992] w fun e w' => ∃ a cap, e = .returned (.tuple #[.agg #[.bool true, .slice a 1 cap], .int .i64 0]) ∧ In w' a cap [150] ∧ Fr [] w w' := by
  have h := flexact_c w 13862853709232340992 (by decide) whole_150
  rw [exN_150, show sg (fsg 13862853709232340992) 150 = true by decide] at h
  refine h.mono ?_
  rintro e w' ⟨a, cap, h1, h2, h3⟩
  rw [lims_150] at h1 h2
  exact ⟨a, cap, h1, h2, h3⟩
theorem of_150 (w : World) (h : In w a cap [150]) : Calls Tryz.prog 40 #[.agg #[.bool true, .slice a 1 cap]] w fun e w' => e = .returned (.float .f64 13862853709232340992) ∧ Fr [] w w' := by
  have := flof_c (a := a) (cap := cap) w true 150 (by rw [lims_150]; exact h) (by rw [lims_150]; decide)
  rw [lims_150] at this
  have hv : (if (true : Bool) then Op.negFloat .f64 (ofR 150) else ofR 150) = 13862853709232340992 := by decide +kernel
  rw [hv] at this
  exact this
theorem text_150 (w : World) (h : In w a cap [150]) : Calls Tryz.prog 73 #[.agg #[.bool true, .slice a 1 cap]] w fun e w' => e = .returned (.string ⟨#[45, 49, 53, 48]⟩) ∧ Fr [] w w' := by
  have := r2text_c (a := a) (cap := cap) w true 150 (by rw [lims_150]; exact h) (by rw [lims_150]; decide)
  rw [lims_150] at this
  have hv : (textI true 150).toArray = #[45, 49, 53, 48] := by decide +kernel
  rw [hv] at this
  exact this
def BxX (w : World) (k : Nat) (x0 x1 : Value) : Prop := blk w k = some (.cells #[x0, x1] 25 (0, 0))
theorem BxX.c0 (h : BxX w k x0 x1) : w.cell? ⟨k, 0, none⟩ = some x0 := cell_of (i := 0) h rfl
theorem BxX.c1 (h : BxX w k x0 x1) : w.cell? ⟨k, 1, none⟩ = some x1 := cell_of (i := 1) h rfl
theorem BxX.f (h : BxX w k x0 x1) (i : Nat) : w.frozen? ⟨k, i, none⟩ = false := free_of h
theorem BxX.lt (h : BxX w k x0 x1) : k < w.heap.size := lt_size h
theorem BxX.fr (h : BxX w k x0 x1) (hF : Fr [] w w') : BxX w' k x0 x1 := hF.at h (by simp)
theorem BxX.new (w : World) (x0 x1 : Value) : BxX (w.alloc (.cells #[x0, x1] 25)) w.heap.size x0 x1 := by unfold BxX; rw [blk_alloc, if_pos rfl]
theorem eq_150 : (FloatKind.f64.format.order 13862853709232340992 13862853709232340992 == some .eq) = true := by decide
set_option maxRecDepth 100000 in
theorem floAlive_c (w : World) (HL : LdF w) : Calls Tryz.prog 29 #[] w fun e w' => e = .returned (.bool true) ∧ Fr [] w w' := by
  have HL := Lib.hid HL
  have he := eq_150
  go_enter Tryz.func29, Tryz.ntmps29
  go_wp2_with fail
  refine (parse_150 w HL.out).mono ?_
  rintro e w1 ⟨rfl, F1⟩
  have G1 := Lib.hid F1
  clear F1
  go_wp2_with fail
  refine (ex_150 w1).mono ?_
  rintro e w2 ⟨a, cap, rfl, I2, F2⟩
  have I2 := Lib.hid I2
  have G2 := Lib.hid (G1.out.same F2)
  clear G1 F2
  obtain ⟨W2, hW2⟩ : ∃ W2, W2 = w2.alloc (.cells #[.bool true, .slice a 1 cap] 25) := ⟨_, rfl⟩
  obtain ⟨ka, hka⟩ : ∃ ka, ka = w2.heap.size := ⟨_, rfl⟩
  have PA : Hid (BxX W2 ka (.bool true) (.slice a 1 cap)) := Lib.hid (by rw [hW2, hka]; exact BxX.new _ _ _)
  have N2 : Hid (Fr [] w2 W2) := Lib.hid (by rw [hW2]; exact (Fr.refl _ _).alloc _)
  have I2 := Lib.hid (I2.out.keep N2.out)
  have G2 := Lib.hid (G2.out.same N2.out)
  clear N2
  go_wp2_with fail
  rw [← hW2, ← hka]
  clear hW2 hka
  refine (txt_100 W2 (HL.out.fr G2.out).t).mono ?_
  rintro e w3 ⟨rfl, F3⟩
  have I3 := Lib.hid (I2.out.keep F3)
  have PA := Lib.hid (PA.out.fr F3)
  have G3 := Lib.hid (G2.out.same F3)
  clear G2 F3 I2
  go_wp2_with fail
  refine (txt_e21 w3 (HL.out.fr G3.out).t).mono ?_
  rintro e w4 ⟨rfl, F4⟩
  have I4 := Lib.hid (I3.out.keep F4)
  have PA := Lib.hid (PA.out.fr F4)
  have G4 := Lib.hid (G3.out.same F4)
  clear G3 F4 I3
  go_wp2_with fail
  refine (txt_m4 w4 (HL.out.fr G4.out).t).mono ?_
  rintro e w5 ⟨rfl, F5⟩
  have I5 := Lib.hid (I4.out.keep F5)
  have PA := Lib.hid (PA.out.fr F5)
  have G5 := Lib.hid (G4.out.same F5)
  clear G4 F5 I4
  have x0 := PA.out.c0
  have x1 := PA.out.c1
  have xl := PA.out.lt
  go_wp2_with fail
  refine (text_150 w5 I5.out).mono ?_
  rintro e w6 ⟨rfl, F6⟩
  have I6 := Lib.hid (I5.out.keep F6)
  have PA := Lib.hid (PA.out.fr F6)
  have G6 := Lib.hid (G5.out.same F6)
  clear G5 F6 I5 x0 x1 xl
  have x0 := PA.out.c0
  have x1 := PA.out.c1
  have xl := PA.out.lt
  go_wp2_with fail
  refine (of_150 w6 I6.out).mono ?_
  rintro e w7 ⟨rfl, F7⟩
  have G7 := Lib.hid (G6.out.same F7)
  go_wp2_with fail
  go_ret
  exact ⟨rfl, G7.out⟩
end Go.Proofs.YtjdanblijcdllaaGreatDoor
