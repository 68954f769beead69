/-
  DERIVED. GIVEN WITH THE SEED: THE CARDS: each row of YtcjkgnafpkkjmaaGreatDoorRows.lean that lists a variable, with what it lists TIED to the program's text (the seventh form; the later family's looks); each row that meets fmt, with fmt's text TOLD by the authors' own Lean function (tested against real Go, not proved from fmt's source: count such statements apart). THE CARD IS WHAT COUNTS. Prove the row's statement (the work); the ties are given (YtcjkgnafpkkjmaaGreatDoorTie.lean); close each card by the builder's one call (the guide's Derived/Test/ToyasCard.lean, 'card_holds'). Laid BY PROGRAM, IN A SANDBOX (cutbox-door.mjs). By AI agents, Wed Nov 11 2026. No macro, syntax, notation, axiom, sorry.
-/
import Derived.Test.YtcjkgnafpkkjmaaGreatDoorRows
import GoSem.ClaimSeven
namespace Go.Proofs.YtcjkgnafpkkjmaaGreatDoor
namespace Rows

/-- THE TIED CARD OF 'distafflaw03.FloTexts'. -/
def floTextsCard : Claim7 := { stood := { row := floTextsRow, standIns := [], harness := (true, "b2a25aa7b2753fbd9f8f4bfa460f7f9573cc111c2bf74c6d20d0db6f816fe055"), looks := true }, kinds := [], alts := [], laidByText := true, laidKinds := [.data, .data, .widerDeep, .widerDeep, .data, .data, .data, .data, .data, .sentinel, .sentinel, .pinned, .pinned], laidTests := true, laidLooks := .later }
def FloTextsCardSaid : Prop := Claim7.holds Tryz.pinned (.plain (OpenSpec.ofChange floTextsSpec)) floTextsCard

/-- THE TIED CARD OF 'distafflaw04.TowerTexts'. -/
def towerTextsCard : Claim7 := { stood := { row := towerTextsRow, standIns := [], harness := (true, "b2a25aa7b2753fbd9f8f4bfa460f7f9573cc111c2bf74c6d20d0db6f816fe055"), looks := true }, kinds := [], alts := [], laidByText := true, laidKinds := [.data, .data, .widerDeep, .widerDeep, .data, .data, .data, .data, .data, .sentinel, .sentinel, .pinned, .pinned], laidTests := true, laidLooks := .later }
def TowerTextsCardSaid : Prop := Claim7.holds Tryz.pinned (.plain (OpenSpec.ofChange towerTextsSpec)) towerTextsCard

/-- THE SECOND FORM's CARD OF 'distafflaw03.FloTexts'. -/
def floTextsUptoCard : Claim7 := { stood := { row := floTextsUptoRow, standIns := [], harness := (true, "b2a25aa7b2753fbd9f8f4bfa460f7f9573cc111c2bf74c6d20d0db6f816fe055"), looks := true }, kinds := [], alts := [], laidByText := true, laidKinds := [.data, .data, .widerDeep, .widerDeep, .data, .data, .data, .data, .data, .sentinel, .sentinel, .pinned, .pinned], laidTests := true, laidLooks := .later }
def FloTextsUptoCardSaid : Prop := Claim7.holds Tryz.pinned (.plain (OpenSpec.upto floTextsSpec)) floTextsUptoCard

/-- THE SECOND FORM's CARD OF 'distafflaw04.TowerTexts'. -/
def towerTextsUptoCard : Claim7 := { stood := { row := towerTextsUptoRow, standIns := [], harness := (true, "b2a25aa7b2753fbd9f8f4bfa460f7f9573cc111c2bf74c6d20d0db6f816fe055"), looks := true }, kinds := [], alts := [], laidByText := true, laidKinds := [.data, .data, .widerDeep, .widerDeep, .data, .data, .data, .data, .data, .sentinel, .sentinel, .pinned, .pinned], laidTests := true, laidLooks := .later }
def TowerTextsUptoCardSaid : Prop := Claim7.holds Tryz.pinned (.plain (OpenSpec.upto towerTextsSpec)) towerTextsUptoCard
end Rows
end Go.Proofs.YtcjkgnafpkkjmaaGreatDoor
