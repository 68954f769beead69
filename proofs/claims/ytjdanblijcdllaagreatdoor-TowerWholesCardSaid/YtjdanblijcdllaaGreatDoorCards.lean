/-
  DERIVED. GIVEN WITH THE SEED: THE CARDS: each row of YtjdanblijcdllaaGreatDoorRows.lean that lists a variable, with what it lists TIED to the program's text (the seventh form; the later family's looks); each row that meets fmt, with fmt's text TOLD by the authors' own Lean function (tested against real Go, not proved from fmt's source: count such statements apart). THE CARD IS WHAT COUNTS. Prove the row's statement (the work); the ties are given (YtjdanblijcdllaaGreatDoorTie.lean); close each card by the builder's one call (the guide's Derived/Test/ToyasCard.lean, 'card_holds'). Laid BY PROGRAM, IN A SANDBOX (cutbox-door.mjs). By AI agents, Wed Nov 11 2026. No macro, syntax, notation, axiom, sorry.
-/
import Derived.Test.YtjdanblijcdllaaGreatDoorRows
import GoSem.ClaimSeven
namespace Go.Proofs.YtjdanblijcdllaaGreatDoor
namespace Rows

/-- THE TIED CARD OF 'distafflaw04.TowerChain'. -/
def towerChainCard : Claim7 := { stood := { row := towerChainRow, standIns := [], harness := (true, "1d6fd9ead80604889e6942dfba794aba432fb978ea210d34680d91fbcb61fb16"), looks := true }, kinds := [], alts := [], laidByText := true, laidKinds := [.data, .data, .data, .data, .sentinel, .sentinel, .pinned, .pinned], laidTests := true, laidLooks := .later }
def TowerChainCardSaid : Prop := Claim7.holds Tryz.pinned (.plain (OpenSpec.ofChange towerChainSpec)) towerChainCard

/-- THE TIED CARD OF 'distafflaw04.TowerOrders'. -/
def towerOrdersCard : Claim7 := { stood := { row := towerOrdersRow, standIns := [], harness := (true, "1d6fd9ead80604889e6942dfba794aba432fb978ea210d34680d91fbcb61fb16"), looks := true }, kinds := [], alts := [], laidByText := true, laidKinds := [.data, .data, .data, .data, .sentinel, .sentinel, .pinned, .pinned], laidTests := true, laidLooks := .later }
def TowerOrdersCardSaid : Prop := Claim7.holds Tryz.pinned (.plain (OpenSpec.ofChange towerOrdersSpec)) towerOrdersCard

/-- THE TIED CARD OF 'distafflaw04.TowerWholes'. -/
def towerWholesCard : Claim7 := { stood := { row := towerWholesRow, standIns := [], harness := (true, "1d6fd9ead80604889e6942dfba794aba432fb978ea210d34680d91fbcb61fb16"), looks := true }, kinds := [], alts := [], laidByText := true, laidKinds := [.data, .data, .data, .data, .sentinel, .sentinel, .pinned, .pinned], laidTests := true, laidLooks := .later }
def TowerWholesCardSaid : Prop := Claim7.holds Tryz.pinned (.plain (OpenSpec.ofChange towerWholesSpec)) towerWholesCard

/-- THE TIED CARD OF 'distafflaw04.TowerNames'. -/
def towerNamesCard : Claim7 := { stood := { row := towerNamesRow, standIns := [], harness := (true, "1d6fd9ead80604889e6942dfba794aba432fb978ea210d34680d91fbcb61fb16"), looks := true }, kinds := [], alts := [], laidByText := true, laidKinds := [.data, .data, .data, .data, .sentinel, .sentinel, .pinned, .pinned], laidTests := true, laidLooks := .later }
def TowerNamesCardSaid : Prop := Claim7.holds Tryz.pinned (.plain (OpenSpec.ofChange towerNamesSpec)) towerNamesCard

/-- THE TIED CARD OF 'distafflaw03.FloBits'. -/
def floBitsCard : Claim7 := { stood := { row := floBitsRow, standIns := [], harness := (true, "1d6fd9ead80604889e6942dfba794aba432fb978ea210d34680d91fbcb61fb16"), looks := true }, kinds := [], alts := [], laidByText := true, laidKinds := [.data, .data, .widerDeep, .widerDeep, .data, .data, .data, .data, .data, .sentinel, .sentinel, .pinned, .pinned], laidTests := true, laidLooks := .later }
def FloBitsCardSaid : Prop := Claim7.holds Tryz.pinned (.plain (OpenSpec.ofChange floBitsSpec)) floBitsCard

/-- THE TIED CARD OF 'distafflaw03.FloNames'. -/
def floNamesCard : Claim7 := { stood := { row := floNamesRow, standIns := [], harness := (true, "1d6fd9ead80604889e6942dfba794aba432fb978ea210d34680d91fbcb61fb16"), looks := true }, kinds := [], alts := [], laidByText := true, laidKinds := [.data, .data, .widerDeep, .widerDeep, .data, .data, .data, .data, .data, .sentinel, .sentinel, .pinned, .pinned], laidTests := true, laidLooks := .later }
def FloNamesCardSaid : Prop := Claim7.holds Tryz.pinned (.plain (OpenSpec.ofChange floNamesSpec)) floNamesCard

/-- THE TIED CARD OF 'distafflaw03.FloNear'. -/
def floNearCard : Claim7 := { stood := { row := floNearRow, standIns := [], harness := (true, "1d6fd9ead80604889e6942dfba794aba432fb978ea210d34680d91fbcb61fb16"), looks := true }, kinds := [], alts := [], laidByText := true, laidKinds := [.data, .data, .widerDeep, .widerDeep, .data, .data, .data, .data, .data, .sentinel, .sentinel, .pinned, .pinned], laidTests := true, laidLooks := .later }
def FloNearCardSaid : Prop := Claim7.holds Tryz.pinned (.plain (OpenSpec.ofChange floNearSpec)) floNearCard

/-- THE TIED CARD OF 'distafflaw03.FloRounds'. -/
def floRoundsCard : Claim7 := { stood := { row := floRoundsRow, standIns := [], harness := (true, "1d6fd9ead80604889e6942dfba794aba432fb978ea210d34680d91fbcb61fb16"), looks := true }, kinds := [], alts := [], laidByText := true, laidKinds := [.data, .data, .widerDeep, .widerDeep, .data, .data, .data, .data, .data, .sentinel, .sentinel, .pinned, .pinned], laidTests := true, laidLooks := .later }
def FloRoundsCardSaid : Prop := Claim7.holds Tryz.pinned (.plain (OpenSpec.ofChange floRoundsSpec)) floRoundsCard

/-- THE SECOND FORM's CARD OF 'distafflaw04.TowerChain'. -/
def towerChainUptoCard : Claim7 := { stood := { row := towerChainUptoRow, standIns := [], harness := (true, "1d6fd9ead80604889e6942dfba794aba432fb978ea210d34680d91fbcb61fb16"), looks := true }, kinds := [], alts := [], laidByText := true, laidKinds := [.data, .data, .data, .data, .sentinel, .sentinel, .pinned, .pinned], laidTests := true, laidLooks := .later }
def TowerChainUptoCardSaid : Prop := Claim7.holds Tryz.pinned (.plain (OpenSpec.upto towerChainSpec)) towerChainUptoCard

/-- THE SECOND FORM's CARD OF 'distafflaw04.TowerOrders'. -/
def towerOrdersUptoCard : Claim7 := { stood := { row := towerOrdersUptoRow, standIns := [], harness := (true, "1d6fd9ead80604889e6942dfba794aba432fb978ea210d34680d91fbcb61fb16"), looks := true }, kinds := [], alts := [], laidByText := true, laidKinds := [.data, .data, .data, .data, .sentinel, .sentinel, .pinned, .pinned], laidTests := true, laidLooks := .later }
def TowerOrdersUptoCardSaid : Prop := Claim7.holds Tryz.pinned (.plain (OpenSpec.upto towerOrdersSpec)) towerOrdersUptoCard

/-- THE SECOND FORM's CARD OF 'distafflaw04.TowerWholes'. -/
def towerWholesUptoCard : Claim7 := { stood := { row := towerWholesUptoRow, standIns := [], harness := (true, "1d6fd9ead80604889e6942dfba794aba432fb978ea210d34680d91fbcb61fb16"), looks := true }, kinds := [], alts := [], laidByText := true, laidKinds := [.data, .data, .data, .data, .sentinel, .sentinel, .pinned, .pinned], laidTests := true, laidLooks := .later }
def TowerWholesUptoCardSaid : Prop := Claim7.holds Tryz.pinned (.plain (OpenSpec.upto towerWholesSpec)) towerWholesUptoCard

/-- THE SECOND FORM's CARD OF 'distafflaw04.TowerNames'. -/
def towerNamesUptoCard : Claim7 := { stood := { row := towerNamesUptoRow, standIns := [], harness := (true, "1d6fd9ead80604889e6942dfba794aba432fb978ea210d34680d91fbcb61fb16"), looks := true }, kinds := [], alts := [], laidByText := true, laidKinds := [.data, .data, .data, .data, .sentinel, .sentinel, .pinned, .pinned], laidTests := true, laidLooks := .later }
def TowerNamesUptoCardSaid : Prop := Claim7.holds Tryz.pinned (.plain (OpenSpec.upto towerNamesSpec)) towerNamesUptoCard

/-- THE SECOND FORM's CARD OF 'distafflaw03.FloBits'. -/
def floBitsUptoCard : Claim7 := { stood := { row := floBitsUptoRow, standIns := [], harness := (true, "1d6fd9ead80604889e6942dfba794aba432fb978ea210d34680d91fbcb61fb16"), looks := true }, kinds := [], alts := [], laidByText := true, laidKinds := [.data, .data, .widerDeep, .widerDeep, .data, .data, .data, .data, .data, .sentinel, .sentinel, .pinned, .pinned], laidTests := true, laidLooks := .later }
def FloBitsUptoCardSaid : Prop := Claim7.holds Tryz.pinned (.plain (OpenSpec.upto floBitsSpec)) floBitsUptoCard

/-- THE SECOND FORM's CARD OF 'distafflaw03.FloNames'. -/
def floNamesUptoCard : Claim7 := { stood := { row := floNamesUptoRow, standIns := [], harness := (true, "1d6fd9ead80604889e6942dfba794aba432fb978ea210d34680d91fbcb61fb16"), looks := true }, kinds := [], alts := [], laidByText := true, laidKinds := [.data, .data, .widerDeep, .widerDeep, .data, .data, .data, .data, .data, .sentinel, .sentinel, .pinned, .pinned], laidTests := true, laidLooks := .later }
def FloNamesUptoCardSaid : Prop := Claim7.holds Tryz.pinned (.plain (OpenSpec.upto floNamesSpec)) floNamesUptoCard

/-- THE SECOND FORM's CARD OF 'distafflaw03.FloNear'. -/
def floNearUptoCard : Claim7 := { stood := { row := floNearUptoRow, standIns := [], harness := (true, "1d6fd9ead80604889e6942dfba794aba432fb978ea210d34680d91fbcb61fb16"), looks := true }, kinds := [], alts := [], laidByText := true, laidKinds := [.data, .data, .widerDeep, .widerDeep, .data, .data, .data, .data, .data, .sentinel, .sentinel, .pinned, .pinned], laidTests := true, laidLooks := .later }
def FloNearUptoCardSaid : Prop := Claim7.holds Tryz.pinned (.plain (OpenSpec.upto floNearSpec)) floNearUptoCard

/-- THE SECOND FORM's CARD OF 'distafflaw03.FloRounds'. -/
def floRoundsUptoCard : Claim7 := { stood := { row := floRoundsUptoRow, standIns := [], harness := (true, "1d6fd9ead80604889e6942dfba794aba432fb978ea210d34680d91fbcb61fb16"), looks := true }, kinds := [], alts := [], laidByText := true, laidKinds := [.data, .data, .widerDeep, .widerDeep, .data, .data, .data, .data, .data, .sentinel, .sentinel, .pinned, .pinned], laidTests := true, laidLooks := .later }
def FloRoundsUptoCardSaid : Prop := Claim7.holds Tryz.pinned (.plain (OpenSpec.upto floRoundsSpec)) floRoundsUptoCard
end Rows
end Go.Proofs.YtjdanblijcdllaaGreatDoor
