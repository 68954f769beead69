/- The texts and numbers of numbers: a part of the walk. No condition. -/
import Derived.Test.YtcjkgnafpkkjmaaGreatDoorQk13
import Derived.Test.YtcjkgnafpkkjmaaGreatDoorQk17
set_option linter.all false
section
namespace Go.Proofs.YtcjkgnafpkkjmaaGreatDoor
open Ieee
end Go.Proofs.YtcjkgnafpkkjmaaGreatDoor
namespace Go.Proofs.YtcjkgnafpkkjmaaGreatDoor
open Go.RowKit
def leadsAt (P : Program) (g : FuncId) : List FuncId := (P.funcs[g]?).elim [] P.leadsTo
def topoB (P : Program) : List (FuncId × List FuncId) → Bool
  | [] => true
  | (g, l) :: r => (leadsAt P g == l) && l.all (fun h => r.any fun p => p.1 == h) && !(r.any fun p => p.1 == g) && topoB P r
theorem any_fst {r : List (FuncId × List FuncId)} {h : FuncId} : (r.any fun p => p.1 == h) = true ↔ h ∈ r.map Prod.fst := by
  simp [List.any_eq_true, List.mem_map]
theorem topo_parts {P : Program} {g : FuncId} {l : List FuncId} {r : List (FuncId × List FuncId)} (h : topoB P ((g, l) :: r) = true) :
    leadsAt P g = l ∧ (∀ x ∈ l, x ∈ r.map Prod.fst) ∧ g ∉ r.map Prod.fst ∧ topoB P r = true := by
  unfold topoB at h
  simp only [Bool.and_eq_true, beq_iff_eq, List.all_eq_true, Bool.not_eq_true'] at h
  obtain ⟨⟨⟨h1, h2⟩, h3⟩, h4⟩ := h
  refine ⟨h1, fun x hx => any_fst.1 (h2 x hx), fun hc => ?_, h4⟩
  rw [any_fst.2 hc] at h3
  cases h3
theorem topo_closed {P : Program} : ∀ {T : List (FuncId × List FuncId)}, topoB P T = true → ∀ x ∈ T.map Prod.fst, ∀ y ∈ leadsAt P x, y ∈ T.map Prod.fst
  | [], _, x, hx, _, _ => by cases hx
  | (g, l) :: r, h, x, hx, y, hy => by
    obtain ⟨h1, h2, _, h4⟩ := topo_parts h
    rw [List.map_cons] at hx ⊢
    rcases List.mem_cons.1 hx with rfl | hx
    · have hy' : y ∈ l := by rw [← h1]; exact hy
      exact List.mem_cons_of_mem _ (h2 y hy')
    · exact List.mem_cons_of_mem _ (topo_closed h4 x hx y hy)
theorem via_sub {P : Program} {Q : FuncId → Prop} (hQ : ∀ x, Q x → ∀ y ∈ leadsAt P x, Q y) : ∀ (n : Nat) (todo seen : List FuncId), (∀ x ∈ todo, Q x) → (∀ x ∈ seen, Q x) → ∀ x ∈ P.closureVia n todo seen, Q x
  | 0, todo, seen, _, hs, x, hx => hs x (by unfold Program.closureVia at hx; exact List.mem_reverse.1 hx)
  | n + 1, [], seen, _, hs, x, hx => hs x (by unfold Program.closureVia at hx; exact List.mem_reverse.1 hx)
  | n + 1, f :: todo, seen, ht, hs, x, hx => by
    unfold Program.closureVia at hx
    have hf := ht f List.mem_cons_self
    have ht2 : ∀ x ∈ todo, Q x := fun x h => ht x (List.mem_cons_of_mem _ h)
    split at hx
    · exact via_sub hQ n todo seen ht2 hs x hx
    · refine via_sub hQ n _ _ (fun y hy => ?_) (fun y hy => ?_) x hx
      · rcases List.mem_append.1 hy with hy | hy
        · exact hQ f hf y hy
        · exact ht2 y hy
      · rcases List.mem_cons.1 hy with rfl | hy
        · exact hf
        · exact hs y hy
theorem closure_sub {P : Program} {Q : FuncId → Prop} (hQ : ∀ x, Q x → ∀ y ∈ leadsAt P x, Q y) {f : FuncId} (hf : Q f) : ∀ x ∈ P.closure f, Q x :=
  via_sub hQ _ _ _ (fun x hx => by rw [List.mem_singleton.1 hx]; exact hf) (fun _ hx => by cases hx)
theorem topo_norec {P : Program} : ∀ {T : List (FuncId × List FuncId)}, topoB P T = true → ∀ x ∈ T.map Prod.fst, ∀ y ∈ leadsAt P x, x ∉ P.closure y
  | [], _, x, hx, _, _ => by cases hx
  | (g, l) :: r, h, x, hx, y, hy => by
    obtain ⟨h1, h2, h3, h4⟩ := topo_parts h
    rw [List.map_cons] at hx
    by_cases hr : x ∈ r.map Prod.fst
    · exact topo_norec h4 x hr y hy
    · rcases List.mem_cons.1 hx with rfl | hx
      · have hy' : y ∈ l := by rw [← h1]; exact hy
        intro hc
        exact hr (closure_sub (topo_closed h4) (h2 y hy') _ hc)
      · exact absurd hx hr
theorem norec_of {P : Program} {T : List (FuncId × List FuncId)} (hT : topoB P T = true) {f : FuncId} (hf : f ∈ T.map Prod.fst) (hu : P.unfollowed f = false) : P.recurses f = false := by
  unfold Program.recurses
  rw [hu, Bool.false_or, List.any_eq_false]
  intro g hg
  have hg' := closure_sub (topo_closed hT) hf g hg
  intro hc
  obtain ⟨h, hh, hc⟩ := List.any_eq_true.1 hc
  exact topo_norec hT g hg' h hh (by simpa using hc)
def flTable : List (FuncId × List FuncId) := [(3, [5, 6, 7, 8, 9, 10, 11]),
  (11, [33, 33]),
  (10, [33, 27, 29, 29]),
  (33, [39]),
  (7, [8, 8, 8, 25, 24]),
  (25, [64]),
  (64, []),
  (5, [6, 19, 9, 9, 9, 20, 21]),
  (21, [56, 57, 58, 58, 59, 52]),
  (59, [58]),
  (58, []),
  (57, [102]),
  (20, [55, 55]),
  (55, [100, 81, 81]),
  (100, [81]),
  (81, []),
  (9, [26, 27, 29, 28, 29, 30, 31, 28, 32]),
  (31, [68, 63]),
  (68, [112]),
  (112, [156]),
  (156, [188, 188, 188, 188, 188, 188, 208]),
  (30, [67]),
  (67, [111]),
  (28, [65]),
  (65, [108]),
  (108, [111]),
  (111, [152, 153, 152, 154, 153, 155]),
  (155, [207]),
  (207, []),
  (154, []),
  (153, []),
  (152, [206]),
  (206, []),
  (29, [66]),
  (66, [109, 110]),
  (110, [137, 138, 139, 140, 141, 142, 151, 145, 144, 141, 146, 146, 142, 147, 145, 144, 141, 148, 149, 150, 150, 150, 141]),
  (151, [189, 146, 146, 191, 190, 192, 193, 194, 192, 193, 195, 192, 196]),
  (109, [137, 138, 139, 140, 141, 142, 143, 145, 144, 141, 146, 146, 142, 147, 145, 144, 141, 148, 149, 150, 150, 150, 141]),
  (150, [203, 204, 205]),
  (205, [200]),
  (204, []),
  (148, [200]),
  (147, [146, 191, 190, 192, 198, 199, 199, 196]),
  (199, [223]),
  (223, []),
  (144, [158]),
  (143, [189, 146, 146, 191, 190, 192, 193, 194, 192, 193, 195, 192, 196]),
  (195, []),
  (194, []),
  (193, []),
  (189, []),
  (141, []),
  (140, [188]),
  (139, [186, 187]),
  (187, [186]),
  (186, [157, 145, 158, 159]),
  (138, []),
  (137, []),
  (26, [49, 49]),
  (19, [48, 49, 27, 50, 52, 51, 53, 54]),
  (54, [56, 56, 93, 93, 98, 98, 97, 99]),
  (99, [56, 93]),
  (53, [56, 56, 93, 93, 94, 95, 56, 51, 96, 56, 56]),
  (96, [127, 128, 128, 129, 130, 131, 132]),
  (132, [98]),
  (98, []),
  (131, [97]),
  (97, []),
  (130, [160, 160]),
  (160, []),
  (129, []),
  (128, []),
  (127, [102]),
  (102, []),
  (95, []),
  (94, [125, 126]),
  (126, [172, 172]),
  (172, []),
  (125, [171, 171]),
  (171, []),
  (93, []),
  (51, [56]),
  (56, [101]),
  (101, []),
  (52, [91, 92]),
  (92, [49, 123, 124, 39, 122, 22, 22, 8]),
  (91, []),
  (50, [89, 90]),
  (90, [49, 123, 124, 39, 8]),
  (124, [27]),
  (123, []),
  (89, []),
  (49, [27]),
  (48, [87, 88]),
  (88, [27, 122, 39, 8]),
  (122, [39, 39, 8]),
  (27, [39, 8]),
  (39, []),
  (87, []),
  (6, [8, 22, 22, 23, 24]),
  (24, [62, 63]),
  (63, [104, 105, 106, 107]),
  (107, [135, 32, 136]),
  (106, [135, 32, 136]),
  (136, []),
  (32, [69]),
  (69, [113]),
  (113, [157, 145, 158, 159]),
  (159, [209, 210]),
  (210, [225, 226]),
  (226, []),
  (225, []),
  (209, []),
  (158, []),
  (145, [142, 146, 197]),
  (146, []),
  (157, []),
  (105, [135]),
  (104, [135]),
  (135, []),
  (62, [103]),
  (103, [133, 134]),
  (134, [173, 174, 175, 182, 183, 183, 183, 184, 185, 185, 180, 181, 183]),
  (185, [142, 191, 190, 183, 192, 198, 197, 196, 222]),
  (222, [183, 183, 183]),
  (184, []),
  (133, [173, 174, 175, 176, 177, 177, 177, 178, 179, 179, 180, 181, 177]),
  (181, [149, 149, 149, 149, 221]),
  (221, [203]),
  (203, []),
  (149, [201, 201, 202, 202]),
  (202, [200]),
  (201, [224, 200]),
  (200, []),
  (224, []),
  (180, [188]),
  (179, [142, 191, 190, 177, 192, 198, 197, 196, 220]),
  (220, [177, 177, 177]),
  (196, []),
  (197, []),
  (198, []),
  (192, [213, 213, 182, 182]),
  (182, []),
  (213, []),
  (190, []),
  (191, []),
  (142, []),
  (178, []),
  (176, []),
  (175, [177, 183]),
  (177, []),
  (174, [188, 188, 188, 188, 188, 208]),
  (208, [188, 188, 188, 188, 188, 188]),
  (188, []),
  (173, [217, 218, 217, 219]),
  (219, [183]),
  (218, [183]),
  (183, []),
  (217, []),
  (23, [60, 61, 61, 60, 61]),
  (61, []),
  (60, []),
  (22, [8]),
  (8, [])]
theorem flTopo : topoB Tryz.prog flTable = true := by kernel_rfl
theorem norec_FloTexts : Tryz.prog.recurses 3 = false := norec_of flTopo (by decide) (by kernel_rfl)
end Go.Proofs.YtcjkgnafpkkjmaaGreatDoor
namespace Go.Proofs.YtcjkgnafpkkjmaaGreatDoor
open Go.ChangeShapes Go.WideShapes Go.RowKit Go.Shelf
set_option maxRecDepth 20000
variable {a : Option Addr} {cap k : Nat} {w w' : World} {x0 x1 : Value}
set_option maxHeartbeats 1000000
theorem atof64_s (w : World) (HL : LdF w) : Calls Tryz.prog 134 #[.string ⟨#[45, 49, 46, 53, 101, 50]⟩] w fun e w' => e = .returned (.tuple #[.float .f64 13862853709232340992, .int .i64 6, .nilIface]) ∧ w = w' := by
  have ho := HL.opt
  have hx := Lib.hid HL
  go_enter Tryz.func134, Tryz.ntmps134
  go_wp2_with fail
  refine (special_no _).mono ?_
  rintro e w' ⟨rfl, rfl⟩
  go_wp2_with fail
  refine (readFloat_c _).mono ?_
  rintro e w' ⟨rfl, rfl⟩
  go_wp2_with fail
  refine (bool2_yes _).mono ?_
  rintro e w' ⟨rfl, rfl⟩
  go_wp2_with fail
  refine (exact64_c _ hx.out).mono ?_
  rintro e w' ⟨rfl, rfl⟩
  go_wp2_with fail
  go_ret3
  exact ⟨rfl, rfl⟩
theorem parsePrefix_c (w : World) (HL : LdF w) : Calls Tryz.prog 103 #[.string ⟨#[45, 49, 46, 53, 101, 50]⟩, .int .i64 64] w fun e w' => e = .returned (.tuple #[.float .f64 13862853709232340992, .int .i64 6, .nilIface]) ∧ w = w' := by
  have hx := Lib.hid HL
  go_enter Tryz.func103, Tryz.ntmps103
  go_wp2_with fail
  refine (atof64_s _ hx.out).mono ?_
  rintro e w' ⟨rfl, rfl⟩
  go_wp2_with fail
  go_ret3
  exact ⟨rfl, rfl⟩
theorem isParseFloat_c (w : World) (HL : LdF w) : Calls Tryz.prog 62 #[.string ⟨#[45, 49, 46, 53, 101, 50]⟩, .int .i64 64] w fun e w' => e = .returned (.tuple #[.float .f64 13862853709232340992, .nilIface]) ∧ w = w' := by
  have hx := Lib.hid HL
  go_enter Tryz.func62, Tryz.ntmps62
  go_wp2_with fail
  refine (parsePrefix_c _ hx.out).mono ?_
  rintro e w' ⟨rfl, rfl⟩
  go_wp2_with fail
  go_ret2
  exact ⟨rfl, rfl⟩
theorem scParseFloat_c (w : World) (HL : LdF w) : Calls Tryz.prog 24 #[.string ⟨#[45, 49, 46, 53, 101, 50]⟩, .int .i64 64] w fun e w' => e = .returned (.tuple #[.float .f64 13862853709232340992, .nilIface]) ∧ w = w' := by
  have hx := Lib.hid HL
  go_enter Tryz.func24, Tryz.ntmps24
  go_wp2_with fail
  refine (isParseFloat_c _ hx.out).mono ?_
  rintro e w' ⟨rfl, rfl⟩
  go_wp2_with fail
  go_ret2
  exact ⟨rfl, rfl⟩
theorem parse_150 (w : World) (HL : LdF w) : Calls Tryz.prog 6 #[.string ⟨#[45, 49, 46, 53, 101, 50]⟩] w fun e w' => e = .returned (.tuple #[.float .f64 13862853709232340992, .int .i64 0]) ∧ Fr [] w w' := by
  have hx := Lib.hid HL
  go_enter Tryz.func6, Tryz.ntmps6
  go_wp2_with fail
  refine (flright_yes _).mono ?_
  rintro e w' ⟨rfl, F1⟩
  have F1 := Lib.hid F1
  go_wp2_with fail
  refine (scParseFloat_c _ (hx.out.fr F1.out)).mono ?_
  rintro e w2 ⟨rfl, rfl⟩
  go_wp2_with fail
  go_ret2
  exact ⟨rfl, F1.out⟩
theorem lims_150 : lims 150 = [150] := lims_of 150 [150] (by decide) rfl (by decide)
theorem whole_150 : WholeF 13862853709232340992 := ⟨by unfold Fin64; decide, by unfold fmg U1; rw [B1_eq]; decide +kernel⟩
theorem exN_150 : exN 13862853709232340992 = 150 := by unfold exN fmg U1; rw [B1_eq]; decide +kernel
theorem ex_150 (w : World) : Calls Tryz.prog 19 #[.float .f64 13862853709232340992] w fun e w' => ∃ a cap, e = .returned (.tuple #[.agg #[.bool true, .slice a 1 cap], .int .i64 0]) ∧ In w' a cap [150] ∧ Fr [] w w' := by
  have h := flexact_c w 13862853709232340992 (by decide) whole_150
  rw [exN_150, show sg (fsg 13862853709232340992) 150 = true by decide] at h
  refine h.mono ?_
  rintro e w' ⟨a, cap, h1, h2, h3⟩
  rw [lims_150] at h1 h2
  exact ⟨a, cap, h1, h2, h3⟩
theorem of_150 (w : World) (h : In w a cap [150]) : Calls Tryz.prog 21 #[.agg #[.bool true, .slice a 1 cap]] w fun e w' => e = .returned (.float .f64 13862853709232340992) ∧ Fr [] w w' := by
  have := flof_c (a := a) (cap := cap) w true 150 (by rw [lims_150]; exact h) (by rw [lims_150]; decide)
  rw [lims_150] at this
  have hv : (if (true : Bool) then Op.negFloat .f64 (ofR 150) else ofR 150) = 13862853709232340992 := by decide +kernel
  rw [hv] at this
  exact this
theorem text_150 (w : World) (h : In w a cap [150]) : Calls Tryz.prog 20 #[.agg #[.bool true, .slice a 1 cap]] w fun e w' => e = .returned (.string ⟨#[45, 49, 53, 48]⟩) ∧ Fr [] w w' := by
  have := r2text_c (a := a) (cap := cap) w true 150 (by rw [lims_150]; exact h) (by rw [lims_150]; decide)
  rw [lims_150] at this
  have hv : (textI true 150).toArray = #[45, 49, 53, 48] := by decide +kernel
  rw [hv] at this
  exact this
def BxX (w : World) (k : Nat) (x0 x1 : Value) : Prop := blk w k = some (.cells #[x0, x1] 36 (0, 0))
theorem BxX.c0 (h : BxX w k x0 x1) : w.cell? ⟨k, 0, none⟩ = some x0 := cell_of (i := 0) h rfl
theorem BxX.c1 (h : BxX w k x0 x1) : w.cell? ⟨k, 1, none⟩ = some x1 := cell_of (i := 1) h rfl
theorem BxX.lt (h : BxX w k x0 x1) : k < w.heap.size := lt_size h
theorem BxX.fr (h : BxX w k x0 x1) (hF : Fr [] w w') : BxX w' k x0 x1 := hF.at h (by simp)
theorem BxX.new (w : World) (x0 x1 : Value) : BxX (w.alloc (.cells #[x0, x1] 36)) w.heap.size x0 x1 := by unfold BxX; rw [blk_alloc, if_pos rfl]
theorem eq_150 : (FloatKind.f64.format.order 13862853709232340992 13862853709232340992 == some .eq) = true := by decide
set_option maxRecDepth 100000 in
theorem floAlive_c (w : World) (HL : LdF w) : Calls Tryz.prog 5 #[] w fun e w' => e = .returned (.bool true) ∧ Fr [] w w' := by
  have HL := Lib.hid HL
  have he := eq_150
  go_enter Tryz.func5, Tryz.ntmps5
  go_wp2_with fail
  refine (parse_150 w HL.out).mono ?_
  rintro e w1 ⟨rfl, F1⟩
  have G1 := Lib.hid F1
  clear F1
  go_wp2_with fail
  refine (ex_150 w1).mono ?_
  rintro e w2 ⟨a, cap, rfl, I2, F2⟩
  have I2 := Lib.hid I2
  have G2 := Lib.hid (G1.out.same F2)
  clear G1 F2
  obtain ⟨W2, hW2⟩ : ∃ W2, W2 = w2.alloc (.cells #[.bool true, .slice a 1 cap] 36) := ⟨_, rfl⟩
  obtain ⟨ka, hka⟩ : ∃ ka, ka = w2.heap.size := ⟨_, rfl⟩
  have PA : Hid (BxX W2 ka (.bool true) (.slice a 1 cap)) := Lib.hid (by rw [hW2, hka]; exact BxX.new _ _ _)
  have N2 : Hid (Fr [] w2 W2) := Lib.hid (by rw [hW2]; exact (Fr.refl _ _).alloc _)
  have I2 := Lib.hid (I2.out.keep N2.out)
  have G2 := Lib.hid (G2.out.same N2.out)
  clear N2
  go_wp2_with fail
  rw [← hW2, ← hka]
  clear hW2 hka
  refine (txt_100 W2 (HL.out.fr G2.out).t).mono ?_
  rintro e w3 ⟨rfl, F3⟩
  have I3 := Lib.hid (I2.out.keep F3)
  have PA := Lib.hid (PA.out.fr F3)
  have G3 := Lib.hid (G2.out.same F3)
  clear G2 F3 I2
  go_wp2_with fail
  refine (txt_e21 w3 (HL.out.fr G3.out).t).mono ?_
  rintro e w4 ⟨rfl, F4⟩
  have I4 := Lib.hid (I3.out.keep F4)
  have PA := Lib.hid (PA.out.fr F4)
  have G4 := Lib.hid (G3.out.same F4)
  clear G3 F4 I3
  go_wp2_with fail
  refine (txt_m4 w4 (HL.out.fr G4.out).t).mono ?_
  rintro e w5 ⟨rfl, F5⟩
  have I5 := Lib.hid (I4.out.keep F5)
  have PA := Lib.hid (PA.out.fr F5)
  have G5 := Lib.hid (G4.out.same F5)
  clear G4 F5 I4
  have x0 := PA.out.c0
  have x1 := PA.out.c1
  have xl := PA.out.lt
  go_wp2_with fail
  refine (text_150 w5 I5.out).mono ?_
  rintro e w6 ⟨rfl, F6⟩
  have I6 := Lib.hid (I5.out.keep F6)
  have PA := Lib.hid (PA.out.fr F6)
  have G6 := Lib.hid (G5.out.same F6)
  clear G5 F6 I5 x0 x1 xl
  have x0 := PA.out.c0
  have x1 := PA.out.c1
  have xl := PA.out.lt
  go_wp2_with fail
  refine (of_150 w6 I6.out).mono ?_
  rintro e w7 ⟨rfl, F7⟩
  have G7 := Lib.hid (G6.out.same F7)
  go_wp2_with fail
  go_ret
  exact ⟨rfl, G7.out⟩
end Go.Proofs.YtcjkgnafpkkjmaaGreatDoor
end
