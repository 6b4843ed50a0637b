/-
  DERIVED. GIVEN WITH THE SEED: THE CARDS: each row of YtompdfpjmdnhoaaGreatDoorRows.lean that lists a variable, with what it lists TIED to the program's text (the seventh form; the later family's looks); each row that meets fmt, with fmt's text TOLD by the authors' own Lean function (tested against real Go, not proved from fmt's source: count such statements apart). THE CARD IS WHAT COUNTS. Prove the row's statement (the work); the ties are given (YtompdfpjmdnhoaaGreatDoorTie.lean); close each card by the builder's one call (the guide's Derived/Test/ToyasCard.lean, 'card_holds'). Laid BY PROGRAM, IN A SANDBOX (cutbox-door.mjs). By AI agents, Wed Nov 11 2026. No macro, syntax, notation, axiom, sorry.
-/
import Derived.Test.YtompdfpjmdnhoaaGreatDoorRows
import GoSem.ClaimSeven
namespace Go.Proofs.YtompdfpjmdnhoaaGreatDoor
namespace Rows

/-- THE TIED CARD OF 'hollowaylaw11.OuterNumbers'. -/
def outerNumbersCard : Claim7 := { stood := { row := outerNumbersRow, standIns := [], harness := (true, "683f7450d7e232afef916f67215cc51e2a6730392e0c0c613bf61cf2b407b293"), looks := true }, kinds := [], alts := [], laidByText := true, laidKinds := [.data, .handle, .pinned, .pinned], laidTests := true, laidLooks := .later }
def OuterNumbersCardSaid : Prop := Claim7.holds Tryz.pinned (.plain (OpenSpec.ofChange outerNumbersSpec)) outerNumbersCard

/-- THE TIED CARD OF 'hollowaylaw11.OuterWords'. -/
def outerWordsCard : Claim7 := { stood := { row := outerWordsRow, standIns := [], harness := (true, "683f7450d7e232afef916f67215cc51e2a6730392e0c0c613bf61cf2b407b293"), looks := true }, kinds := [], alts := [], laidByText := true, laidKinds := [.data, .handle, .pinned, .pinned], laidTests := true, laidLooks := .later }
def OuterWordsCardSaid : Prop := Claim7.holds Tryz.pinned (.plain (OpenSpec.ofChange outerWordsSpec)) outerWordsCard

/-- THE TIED CARD OF 'hollowaylaw11.OuterConstants'. -/
def outerConstantsCard : Claim7 := { stood := { row := outerConstantsRow, standIns := [], harness := (true, "683f7450d7e232afef916f67215cc51e2a6730392e0c0c613bf61cf2b407b293"), looks := true }, kinds := [], alts := [], laidByText := true, laidKinds := [.data, .handle, .pinned, .pinned], laidTests := true, laidLooks := .later }
def OuterConstantsCardSaid : Prop := Claim7.holds Tryz.pinned (.plain (OpenSpec.ofChange outerConstantsSpec)) outerConstantsCard

/-- THE TIED CARD OF 'hollowaylaw11.OuterIfs'. -/
def outerIfsCard : Claim7 := { stood := { row := outerIfsRow, standIns := [], harness := (true, "683f7450d7e232afef916f67215cc51e2a6730392e0c0c613bf61cf2b407b293"), looks := true }, kinds := [], alts := [], laidByText := true, laidKinds := [.data, .handle, .pinned, .pinned], laidTests := true, laidLooks := .later }
def OuterIfsCardSaid : Prop := Claim7.holds Tryz.pinned (.plain (OpenSpec.ofChange outerIfsSpec)) outerIfsCard

/-- THE TIED CARD OF 'hollowaylaw11.OuterLoops'. -/
def outerLoopsCard : Claim7 := { stood := { row := outerLoopsRow, standIns := [], harness := (true, "683f7450d7e232afef916f67215cc51e2a6730392e0c0c613bf61cf2b407b293"), looks := true }, kinds := [], alts := [], laidByText := true, laidKinds := [.data, .handle, .pinned, .pinned], laidTests := true, laidLooks := .later }
def OuterLoopsCardSaid : Prop := Claim7.holds Tryz.pinned (.plain (OpenSpec.ofChange outerLoopsSpec)) outerLoopsCard

/-- THE TIED CARD OF 'hollowaylaw11.OuterExits'. -/
def outerExitsCard : Claim7 := { stood := { row := outerExitsRow, standIns := [], harness := (true, "683f7450d7e232afef916f67215cc51e2a6730392e0c0c613bf61cf2b407b293"), looks := true }, kinds := [], alts := [], laidByText := true, laidKinds := [.data, .handle, .pinned, .pinned], laidTests := true, laidLooks := .later }
def OuterExitsCardSaid : Prop := Claim7.holds Tryz.pinned (.plain (OpenSpec.ofChange outerExitsSpec)) outerExitsCard

/-- THE TIED CARD OF 'hollowaylaw11.OuterRecurses'. -/
def outerRecursesCard : Claim7 := { stood := { row := outerRecursesRow, standIns := [], harness := (true, "683f7450d7e232afef916f67215cc51e2a6730392e0c0c613bf61cf2b407b293"), looks := true }, kinds := [], alts := [], laidByText := true, laidKinds := [.data, .handle, .pinned, .pinned], laidTests := true, laidLooks := .later }
def OuterRecursesCardSaid : Prop := Claim7.holds Tryz.pinned (.plain (OpenSpec.ofChange outerRecursesSpec)) outerRecursesCard

/-- THE TIED CARD OF 'hollowaylaw11.OuterTicks'. -/
def outerTicksCard : Claim7 := { stood := { row := outerTicksRow, standIns := [], harness := (true, "683f7450d7e232afef916f67215cc51e2a6730392e0c0c613bf61cf2b407b293"), looks := true }, kinds := [], alts := [], laidByText := true, laidKinds := [.data, .handle, .pinned, .pinned], laidTests := true, laidLooks := .later }
def OuterTicksCardSaid : Prop := Claim7.holds Tryz.pinned (.plain (OpenSpec.ofChange outerTicksSpec)) outerTicksCard

/-- THE TIED CARD OF 'hollowaylaw11.OuterCatches'. -/
def outerCatchesCard : Claim7 := { stood := { row := outerCatchesRow, standIns := [], harness := (true, "683f7450d7e232afef916f67215cc51e2a6730392e0c0c613bf61cf2b407b293"), looks := true }, kinds := [], alts := [], laidByText := true, laidKinds := [.data, .handle, .pinned, .pinned], laidTests := true, laidLooks := .later }
def OuterCatchesCardSaid : Prop := Claim7.holds Tryz.pinned (.plain (OpenSpec.ofChange outerCatchesSpec)) outerCatchesCard

/-- THE TIED CARD OF 'hollowaylaw11.OuterForgets'. -/
def outerForgetsCard : Claim7 := { stood := { row := outerForgetsRow, standIns := [], harness := (true, "683f7450d7e232afef916f67215cc51e2a6730392e0c0c613bf61cf2b407b293"), looks := true }, kinds := [], alts := [], laidByText := true, laidKinds := [.data, .handle, .pinned, .pinned], laidTests := true, laidLooks := .later }
def OuterForgetsCardSaid : Prop := Claim7.holds Tryz.pinned (.plain (OpenSpec.ofChange outerForgetsSpec)) outerForgetsCard

/-- THE TIED CARD OF 'hollowaylaw11.OuterAllots'. -/
def outerAllotsCard : Claim7 := { stood := { row := outerAllotsRow, standIns := [], harness := (true, "683f7450d7e232afef916f67215cc51e2a6730392e0c0c613bf61cf2b407b293"), looks := true }, kinds := [], alts := [], laidByText := true, laidKinds := [.data, .handle, .pinned, .pinned], laidTests := true, laidLooks := .later }
def OuterAllotsCardSaid : Prop := Claim7.holds Tryz.pinned (.plain (OpenSpec.ofChange outerAllotsSpec)) outerAllotsCard

/-- THE TIED CARD OF 'hollowaylaw11.OuterOnly'. -/
def outerOnlyCard : Claim7 := { stood := { row := outerOnlyRow, standIns := [], harness := (true, "683f7450d7e232afef916f67215cc51e2a6730392e0c0c613bf61cf2b407b293"), looks := true }, kinds := [], alts := [], laidByText := true, laidKinds := [.data, .handle, .pinned, .pinned], laidTests := true, laidLooks := .later }
def OuterOnlyCardSaid : Prop := Claim7.holds Tryz.pinned (.plain (OpenSpec.ofChange outerOnlySpec)) outerOnlyCard

/-- THE SECOND FORM's CARD OF 'hollowaylaw11.OuterNumbers'. -/
def outerNumbersUptoCard : Claim7 := { stood := { row := outerNumbersUptoRow, standIns := [], harness := (true, "683f7450d7e232afef916f67215cc51e2a6730392e0c0c613bf61cf2b407b293"), looks := true }, kinds := [], alts := [], laidByText := true, laidKinds := [.data, .handle, .pinned, .pinned], laidTests := true, laidLooks := .later }
def OuterNumbersUptoCardSaid : Prop := Claim7.holds Tryz.pinned (.plain (OpenSpec.upto outerNumbersSpec)) outerNumbersUptoCard

/-- THE SECOND FORM's CARD OF 'hollowaylaw11.OuterWords'. -/
def outerWordsUptoCard : Claim7 := { stood := { row := outerWordsUptoRow, standIns := [], harness := (true, "683f7450d7e232afef916f67215cc51e2a6730392e0c0c613bf61cf2b407b293"), looks := true }, kinds := [], alts := [], laidByText := true, laidKinds := [.data, .handle, .pinned, .pinned], laidTests := true, laidLooks := .later }
def OuterWordsUptoCardSaid : Prop := Claim7.holds Tryz.pinned (.plain (OpenSpec.upto outerWordsSpec)) outerWordsUptoCard

/-- THE SECOND FORM's CARD OF 'hollowaylaw11.OuterConstants'. -/
def outerConstantsUptoCard : Claim7 := { stood := { row := outerConstantsUptoRow, standIns := [], harness := (true, "683f7450d7e232afef916f67215cc51e2a6730392e0c0c613bf61cf2b407b293"), looks := true }, kinds := [], alts := [], laidByText := true, laidKinds := [.data, .handle, .pinned, .pinned], laidTests := true, laidLooks := .later }
def OuterConstantsUptoCardSaid : Prop := Claim7.holds Tryz.pinned (.plain (OpenSpec.upto outerConstantsSpec)) outerConstantsUptoCard

/-- THE SECOND FORM's CARD OF 'hollowaylaw11.OuterIfs'. -/
def outerIfsUptoCard : Claim7 := { stood := { row := outerIfsUptoRow, standIns := [], harness := (true, "683f7450d7e232afef916f67215cc51e2a6730392e0c0c613bf61cf2b407b293"), looks := true }, kinds := [], alts := [], laidByText := true, laidKinds := [.data, .handle, .pinned, .pinned], laidTests := true, laidLooks := .later }
def OuterIfsUptoCardSaid : Prop := Claim7.holds Tryz.pinned (.plain (OpenSpec.upto outerIfsSpec)) outerIfsUptoCard

/-- THE SECOND FORM's CARD OF 'hollowaylaw11.OuterLoops'. -/
def outerLoopsUptoCard : Claim7 := { stood := { row := outerLoopsUptoRow, standIns := [], harness := (true, "683f7450d7e232afef916f67215cc51e2a6730392e0c0c613bf61cf2b407b293"), looks := true }, kinds := [], alts := [], laidByText := true, laidKinds := [.data, .handle, .pinned, .pinned], laidTests := true, laidLooks := .later }
def OuterLoopsUptoCardSaid : Prop := Claim7.holds Tryz.pinned (.plain (OpenSpec.upto outerLoopsSpec)) outerLoopsUptoCard

/-- THE SECOND FORM's CARD OF 'hollowaylaw11.OuterExits'. -/
def outerExitsUptoCard : Claim7 := { stood := { row := outerExitsUptoRow, standIns := [], harness := (true, "683f7450d7e232afef916f67215cc51e2a6730392e0c0c613bf61cf2b407b293"), looks := true }, kinds := [], alts := [], laidByText := true, laidKinds := [.data, .handle, .pinned, .pinned], laidTests := true, laidLooks := .later }
def OuterExitsUptoCardSaid : Prop := Claim7.holds Tryz.pinned (.plain (OpenSpec.upto outerExitsSpec)) outerExitsUptoCard

/-- THE SECOND FORM's CARD OF 'hollowaylaw11.OuterRecurses'. -/
def outerRecursesUptoCard : Claim7 := { stood := { row := outerRecursesUptoRow, standIns := [], harness := (true, "683f7450d7e232afef916f67215cc51e2a6730392e0c0c613bf61cf2b407b293"), looks := true }, kinds := [], alts := [], laidByText := true, laidKinds := [.data, .handle, .pinned, .pinned], laidTests := true, laidLooks := .later }
def OuterRecursesUptoCardSaid : Prop := Claim7.holds Tryz.pinned (.plain (OpenSpec.upto outerRecursesSpec)) outerRecursesUptoCard

/-- THE SECOND FORM's CARD OF 'hollowaylaw11.OuterTicks'. -/
def outerTicksUptoCard : Claim7 := { stood := { row := outerTicksUptoRow, standIns := [], harness := (true, "683f7450d7e232afef916f67215cc51e2a6730392e0c0c613bf61cf2b407b293"), looks := true }, kinds := [], alts := [], laidByText := true, laidKinds := [.data, .handle, .pinned, .pinned], laidTests := true, laidLooks := .later }
def OuterTicksUptoCardSaid : Prop := Claim7.holds Tryz.pinned (.plain (OpenSpec.upto outerTicksSpec)) outerTicksUptoCard

/-- THE SECOND FORM's CARD OF 'hollowaylaw11.OuterCatches'. -/
def outerCatchesUptoCard : Claim7 := { stood := { row := outerCatchesUptoRow, standIns := [], harness := (true, "683f7450d7e232afef916f67215cc51e2a6730392e0c0c613bf61cf2b407b293"), looks := true }, kinds := [], alts := [], laidByText := true, laidKinds := [.data, .handle, .pinned, .pinned], laidTests := true, laidLooks := .later }
def OuterCatchesUptoCardSaid : Prop := Claim7.holds Tryz.pinned (.plain (OpenSpec.upto outerCatchesSpec)) outerCatchesUptoCard

/-- THE SECOND FORM's CARD OF 'hollowaylaw11.OuterForgets'. -/
def outerForgetsUptoCard : Claim7 := { stood := { row := outerForgetsUptoRow, standIns := [], harness := (true, "683f7450d7e232afef916f67215cc51e2a6730392e0c0c613bf61cf2b407b293"), looks := true }, kinds := [], alts := [], laidByText := true, laidKinds := [.data, .handle, .pinned, .pinned], laidTests := true, laidLooks := .later }
def OuterForgetsUptoCardSaid : Prop := Claim7.holds Tryz.pinned (.plain (OpenSpec.upto outerForgetsSpec)) outerForgetsUptoCard

/-- THE SECOND FORM's CARD OF 'hollowaylaw11.OuterAllots'. -/
def outerAllotsUptoCard : Claim7 := { stood := { row := outerAllotsUptoRow, standIns := [], harness := (true, "683f7450d7e232afef916f67215cc51e2a6730392e0c0c613bf61cf2b407b293"), looks := true }, kinds := [], alts := [], laidByText := true, laidKinds := [.data, .handle, .pinned, .pinned], laidTests := true, laidLooks := .later }
def OuterAllotsUptoCardSaid : Prop := Claim7.holds Tryz.pinned (.plain (OpenSpec.upto outerAllotsSpec)) outerAllotsUptoCard

/-- THE SECOND FORM's CARD OF 'hollowaylaw11.OuterOnly'. -/
def outerOnlyUptoCard : Claim7 := { stood := { row := outerOnlyUptoRow, standIns := [], harness := (true, "683f7450d7e232afef916f67215cc51e2a6730392e0c0c613bf61cf2b407b293"), looks := true }, kinds := [], alts := [], laidByText := true, laidKinds := [.data, .handle, .pinned, .pinned], laidTests := true, laidLooks := .later }
def OuterOnlyUptoCardSaid : Prop := Claim7.holds Tryz.pinned (.plain (OpenSpec.upto outerOnlySpec)) outerOnlyUptoCard
end Rows
end Go.Proofs.YtompdfpjmdnhoaaGreatDoor
