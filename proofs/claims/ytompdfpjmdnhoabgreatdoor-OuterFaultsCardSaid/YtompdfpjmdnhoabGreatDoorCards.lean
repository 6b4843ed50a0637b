/-
  DERIVED. GIVEN WITH THE SEED: THE CARDS: each row of YtompdfpjmdnhoabGreatDoorRows.lean that lists a variable, with what it lists TIED to the program's text (the seventh form; the later family's looks); each row that meets fmt, with fmt's text TOLD by the authors' own Lean function (tested against real Go, not proved from fmt's source: count such statements apart). THE CARD IS WHAT COUNTS. Prove the row's statement (the work); the ties are given (YtompdfpjmdnhoabGreatDoorTie.lean); close each card by the builder's one call (the guide's Derived/Test/ToyasCard.lean, 'card_holds'). Laid BY PROGRAM, IN A SANDBOX (cutbox-door.mjs). By AI agents, Wed Nov 11 2026. No macro, syntax, notation, axiom, sorry.
-/
import Derived.Test.YtompdfpjmdnhoabGreatDoorRows
import GoSem.ClaimSeven
namespace Go.Proofs.YtompdfpjmdnhoabGreatDoor
namespace Rows

/-- THE TIED CARD OF 'hollowaylaw11.OuterImmediate'. -/
def outerImmediateCard : Claim7 := { stood := { row := outerImmediateRow, standIns := [], harness := (true, "68aa32344437db109554faccf50c3b1d33e2609ad2a6b227d6cd775a8aae525f"), looks := true }, kinds := [], alts := [], laidByText := true, laidKinds := [.data, .handle, .pinned, .pinned], laidTests := true, laidLooks := .later }
def OuterImmediateCardSaid : Prop := Claim7.holds Tryz.pinned (.plain (OpenSpec.ofChange outerImmediateSpec)) outerImmediateCard

/-- THE TIED CARD OF 'hollowaylaw11.OuterStores'. -/
def outerStoresCard : Claim7 := { stood := { row := outerStoresRow, standIns := [], harness := (true, "68aa32344437db109554faccf50c3b1d33e2609ad2a6b227d6cd775a8aae525f"), looks := true }, kinds := [], alts := [], laidByText := true, laidKinds := [.data, .handle, .pinned, .pinned], laidTests := true, laidLooks := .later }
def OuterStoresCardSaid : Prop := Claim7.holds Tryz.pinned (.plain (OpenSpec.ofChange outerStoresSpec)) outerStoresCard

/-- THE TIED CARD OF 'hollowaylaw11.OuterKeys'. -/
def outerKeysCard : Claim7 := { stood := { row := outerKeysRow, standIns := [], harness := (true, "68aa32344437db109554faccf50c3b1d33e2609ad2a6b227d6cd775a8aae525f"), looks := true }, kinds := [], alts := [], laidByText := true, laidKinds := [.data, .handle, .pinned, .pinned], laidTests := true, laidLooks := .later }
def OuterKeysCardSaid : Prop := Claim7.holds Tryz.pinned (.plain (OpenSpec.ofChange outerKeysSpec)) outerKeysCard

/-- THE TIED CARD OF 'hollowaylaw11.OuterFaults'. -/
def outerFaultsCard : Claim7 := { stood := { row := outerFaultsRow, standIns := [], harness := (true, "68aa32344437db109554faccf50c3b1d33e2609ad2a6b227d6cd775a8aae525f"), looks := true }, kinds := [], alts := [], laidByText := true, laidKinds := [.data, .handle, .pinned, .pinned], laidTests := true, laidLooks := .later }
def OuterFaultsCardSaid : Prop := Claim7.holds Tryz.pinned (.plain (OpenSpec.ofChange outerFaultsSpec)) outerFaultsCard

/-- THE SECOND FORM's CARD OF 'hollowaylaw11.OuterImmediate'. -/
def outerImmediateUptoCard : Claim7 := { stood := { row := outerImmediateUptoRow, standIns := [], harness := (true, "68aa32344437db109554faccf50c3b1d33e2609ad2a6b227d6cd775a8aae525f"), looks := true }, kinds := [], alts := [], laidByText := true, laidKinds := [.data, .handle, .pinned, .pinned], laidTests := true, laidLooks := .later }
def OuterImmediateUptoCardSaid : Prop := Claim7.holds Tryz.pinned (.plain (OpenSpec.upto outerImmediateSpec)) outerImmediateUptoCard

/-- THE SECOND FORM's CARD OF 'hollowaylaw11.OuterStores'. -/
def outerStoresUptoCard : Claim7 := { stood := { row := outerStoresUptoRow, standIns := [], harness := (true, "68aa32344437db109554faccf50c3b1d33e2609ad2a6b227d6cd775a8aae525f"), looks := true }, kinds := [], alts := [], laidByText := true, laidKinds := [.data, .handle, .pinned, .pinned], laidTests := true, laidLooks := .later }
def OuterStoresUptoCardSaid : Prop := Claim7.holds Tryz.pinned (.plain (OpenSpec.upto outerStoresSpec)) outerStoresUptoCard

/-- THE SECOND FORM's CARD OF 'hollowaylaw11.OuterKeys'. -/
def outerKeysUptoCard : Claim7 := { stood := { row := outerKeysUptoRow, standIns := [], harness := (true, "68aa32344437db109554faccf50c3b1d33e2609ad2a6b227d6cd775a8aae525f"), looks := true }, kinds := [], alts := [], laidByText := true, laidKinds := [.data, .handle, .pinned, .pinned], laidTests := true, laidLooks := .later }
def OuterKeysUptoCardSaid : Prop := Claim7.holds Tryz.pinned (.plain (OpenSpec.upto outerKeysSpec)) outerKeysUptoCard

/-- THE SECOND FORM's CARD OF 'hollowaylaw11.OuterFaults'. -/
def outerFaultsUptoCard : Claim7 := { stood := { row := outerFaultsUptoRow, standIns := [], harness := (true, "68aa32344437db109554faccf50c3b1d33e2609ad2a6b227d6cd775a8aae525f"), looks := true }, kinds := [], alts := [], laidByText := true, laidKinds := [.data, .handle, .pinned, .pinned], laidTests := true, laidLooks := .later }
def OuterFaultsUptoCardSaid : Prop := Claim7.holds Tryz.pinned (.plain (OpenSpec.upto outerFaultsSpec)) outerFaultsUptoCard
end Rows
end Go.Proofs.YtompdfpjmdnhoabGreatDoor
