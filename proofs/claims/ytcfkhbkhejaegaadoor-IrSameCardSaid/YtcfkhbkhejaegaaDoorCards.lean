/-
  DERIVED. GIVEN WITH THE SEED: THE CARDS: each row of YtcfkhbkhejaegaaDoorRows.lean that lists a variable, with what it lists TIED to the program's text (the seventh form; the later family's looks); each row that meets fmt, with fmt's text TOLD by the authors' own Lean function (tested against real Go, not proved from fmt's source: count such statements apart). THE CARD IS WHAT COUNTS. Prove the row's statement (the work); the ties are given (YtcfkhbkhejaegaaDoorTie.lean); close each card by the builder's one call (the guide's Derived/Test/ToyasCard.lean, 'card_holds'). Laid BY PROGRAM, IN A SANDBOX (cutbox-door.mjs). By AI agents, Wed Nov 11 2026. No macro, syntax, notation, axiom, sorry.
-/
import Derived.Test.YtcfkhbkhejaegaaDoorRows
import GoSem.ClaimSeven
namespace Go.Proofs.YtcfkhbkhejaegaaDoor
namespace Rows

/-- THE TIED CARD OF 'hollowaylaw3.DigitsTell'. -/
def digitsTellCard : Claim7 := { stood := { row := digitsTellRow, standIns := [], harness := (true, "08c3ce7c324d1295dde185c573c2adbc7a02ab25ea8949d36a667dc19fbc7de6"), looks := true }, kinds := [], alts := [], laidByText := true, laidKinds := [.data, .pinned, .pinned], laidTests := true, laidLooks := .later }
def DigitsTellCardSaid : Prop := Claim7.holds Tryd.pinned (.plain (OpenSpec.ofChange digitsTellSpec)) digitsTellCard

/-- THE TIED CARD OF 'hollowaylaw3.DigitsBack'. -/
def digitsBackCard : Claim7 := { stood := { row := digitsBackRow, standIns := [], harness := (true, "08c3ce7c324d1295dde185c573c2adbc7a02ab25ea8949d36a667dc19fbc7de6"), looks := true }, kinds := [], alts := [], laidByText := true, laidKinds := [.data, .pinned, .pinned], laidTests := true, laidLooks := .later }
def DigitsBackCardSaid : Prop := Claim7.holds Tryd.pinned (.plain (OpenSpec.ofChange digitsBackSpec)) digitsBackCard

/-- THE TIED CARD OF 'hollowaylaw3.DigitsCase'. -/
def digitsCaseCard : Claim7 := { stood := { row := digitsCaseRow, standIns := [], harness := (true, "08c3ce7c324d1295dde185c573c2adbc7a02ab25ea8949d36a667dc19fbc7de6"), looks := true }, kinds := [], alts := [], laidByText := true, laidKinds := [.data, .pinned, .pinned], laidTests := true, laidLooks := .later }
def DigitsCaseCardSaid : Prop := Claim7.holds Tryd.pinned (.plain (OpenSpec.ofChange digitsCaseSpec)) digitsCaseCard

/-- THE TIED CARD OF 'hollowaylaw3.DigitsOther'. -/
def digitsOtherCard : Claim7 := { stood := { row := digitsOtherRow, standIns := [], harness := (true, "08c3ce7c324d1295dde185c573c2adbc7a02ab25ea8949d36a667dc19fbc7de6"), looks := true }, kinds := [], alts := [], laidByText := true, laidKinds := [.data, .pinned, .pinned], laidTests := true, laidLooks := .later }
def DigitsOtherCardSaid : Prop := Claim7.holds Tryd.pinned (.plain (OpenSpec.ofChange digitsOtherSpec)) digitsOtherCard

/-- THE TIED CARD OF 'hollowaylaw2.FaultTexts'. -/
def faultTextsCard : Claim7 := { stood := { row := faultTextsRow, standIns := [], harness := (true, "08c3ce7c324d1295dde185c573c2adbc7a02ab25ea8949d36a667dc19fbc7de6"), looks := true }, kinds := [], alts := [], laidByText := true, laidKinds := [.data, .data, .data, .handle], laidTests := true, laidLooks := .later }
def FaultTextsCardSaid : Prop := Claim7.holds Tryd.pinned (.plain (OpenSpec.ofChange faultTextsSpec)) faultTextsCard

/-- THE TIED CARD OF 'hollowaylaw2.FaultTells'. -/
def faultTellsCard : Claim7 := { stood := { row := faultTellsRow, standIns := [], harness := (true, "08c3ce7c324d1295dde185c573c2adbc7a02ab25ea8949d36a667dc19fbc7de6"), looks := true }, kinds := [], alts := [], laidByText := true, laidKinds := [.data, .data, .data, .handle], laidTests := true, laidLooks := .later }
def FaultTellsCardSaid : Prop := Claim7.holds Tryd.pinned (.plain (OpenSpec.ofChange faultTellsSpec)) faultTellsCard

/-- THE TIED CARD OF 'hollowaylaw2.FaultWraps'. -/
def faultWrapsCard : Claim7 := { stood := { row := faultWrapsRow, standIns := [], harness := (true, "08c3ce7c324d1295dde185c573c2adbc7a02ab25ea8949d36a667dc19fbc7de6"), looks := true }, kinds := [], alts := [], laidByText := true, laidKinds := [.handle], laidTests := true, laidLooks := .later }
def FaultWrapsCardSaid : Prop := Claim7.holds Tryd.pinned (.plain (OpenSpec.ofChange faultWrapsSpec)) faultWrapsCard

/-- THE TIED CARD OF 'hollowaylaw14.IrSpoilt'. -/
def irSpoiltCard : Claim7 := { stood := { row := irSpoiltRow, standIns := [], harness := (true, "08c3ce7c324d1295dde185c573c2adbc7a02ab25ea8949d36a667dc19fbc7de6"), looks := true }, kinds := [], alts := [], laidByText := true, laidKinds := [.data, .data, .data], laidTests := true, laidLooks := .later }
def IrSpoiltCardSaid : Prop := Claim7.holds Tryd.pinned (.plain (OpenSpec.ofChange irSpoiltSpec)) irSpoiltCard

/-- THE TIED CARD OF 'hollowaylaw14.IrSame'. -/
def irSameCard : Claim7 := { stood := { row := irSameRow, standIns := [], harness := (true, "08c3ce7c324d1295dde185c573c2adbc7a02ab25ea8949d36a667dc19fbc7de6"), looks := true }, kinds := [], alts := [], laidByText := true, laidKinds := [.data, .data, .data], laidTests := true, laidLooks := .later }
def IrSameCardSaid : Prop := Claim7.holds Tryd.pinned (.plain (OpenSpec.ofChange irSameSpec)) irSameCard

/-- THE SECOND FORM's CARD OF 'hollowaylaw3.DigitsTell'. -/
def digitsTellUptoCard : Claim7 := { stood := { row := digitsTellUptoRow, standIns := [], harness := (true, "08c3ce7c324d1295dde185c573c2adbc7a02ab25ea8949d36a667dc19fbc7de6"), looks := true }, kinds := [], alts := [], laidByText := true, laidKinds := [.data, .pinned, .pinned], laidTests := true, laidLooks := .later }
def DigitsTellUptoCardSaid : Prop := Claim7.holds Tryd.pinned (.plain (OpenSpec.upto digitsTellSpec)) digitsTellUptoCard

/-- THE SECOND FORM's CARD OF 'hollowaylaw3.DigitsBack'. -/
def digitsBackUptoCard : Claim7 := { stood := { row := digitsBackUptoRow, standIns := [], harness := (true, "08c3ce7c324d1295dde185c573c2adbc7a02ab25ea8949d36a667dc19fbc7de6"), looks := true }, kinds := [], alts := [], laidByText := true, laidKinds := [.data, .pinned, .pinned], laidTests := true, laidLooks := .later }
def DigitsBackUptoCardSaid : Prop := Claim7.holds Tryd.pinned (.plain (OpenSpec.upto digitsBackSpec)) digitsBackUptoCard

/-- THE SECOND FORM's CARD OF 'hollowaylaw3.DigitsCase'. -/
def digitsCaseUptoCard : Claim7 := { stood := { row := digitsCaseUptoRow, standIns := [], harness := (true, "08c3ce7c324d1295dde185c573c2adbc7a02ab25ea8949d36a667dc19fbc7de6"), looks := true }, kinds := [], alts := [], laidByText := true, laidKinds := [.data, .pinned, .pinned], laidTests := true, laidLooks := .later }
def DigitsCaseUptoCardSaid : Prop := Claim7.holds Tryd.pinned (.plain (OpenSpec.upto digitsCaseSpec)) digitsCaseUptoCard

/-- THE SECOND FORM's CARD OF 'hollowaylaw3.DigitsOther'. -/
def digitsOtherUptoCard : Claim7 := { stood := { row := digitsOtherUptoRow, standIns := [], harness := (true, "08c3ce7c324d1295dde185c573c2adbc7a02ab25ea8949d36a667dc19fbc7de6"), looks := true }, kinds := [], alts := [], laidByText := true, laidKinds := [.data, .pinned, .pinned], laidTests := true, laidLooks := .later }
def DigitsOtherUptoCardSaid : Prop := Claim7.holds Tryd.pinned (.plain (OpenSpec.upto digitsOtherSpec)) digitsOtherUptoCard

/-- THE SECOND FORM's CARD OF 'hollowaylaw2.FaultTexts'. -/
def faultTextsUptoCard : Claim7 := { stood := { row := faultTextsUptoRow, standIns := [], harness := (true, "08c3ce7c324d1295dde185c573c2adbc7a02ab25ea8949d36a667dc19fbc7de6"), looks := true }, kinds := [], alts := [], laidByText := true, laidKinds := [.data, .data, .data, .handle], laidTests := true, laidLooks := .later }
def FaultTextsUptoCardSaid : Prop := Claim7.holds Tryd.pinned (.plain (OpenSpec.upto faultTextsSpec)) faultTextsUptoCard

/-- THE SECOND FORM's CARD OF 'hollowaylaw2.FaultTells'. -/
def faultTellsUptoCard : Claim7 := { stood := { row := faultTellsUptoRow, standIns := [], harness := (true, "08c3ce7c324d1295dde185c573c2adbc7a02ab25ea8949d36a667dc19fbc7de6"), looks := true }, kinds := [], alts := [], laidByText := true, laidKinds := [.data, .data, .data, .handle], laidTests := true, laidLooks := .later }
def FaultTellsUptoCardSaid : Prop := Claim7.holds Tryd.pinned (.plain (OpenSpec.upto faultTellsSpec)) faultTellsUptoCard

/-- THE SECOND FORM's CARD OF 'hollowaylaw2.FaultWraps'. -/
def faultWrapsUptoCard : Claim7 := { stood := { row := faultWrapsUptoRow, standIns := [], harness := (true, "08c3ce7c324d1295dde185c573c2adbc7a02ab25ea8949d36a667dc19fbc7de6"), looks := true }, kinds := [], alts := [], laidByText := true, laidKinds := [.handle], laidTests := true, laidLooks := .later }
def FaultWrapsUptoCardSaid : Prop := Claim7.holds Tryd.pinned (.plain (OpenSpec.upto faultWrapsSpec)) faultWrapsUptoCard

/-- THE SECOND FORM's CARD OF 'hollowaylaw14.IrSpoilt'. -/
def irSpoiltUptoCard : Claim7 := { stood := { row := irSpoiltUptoRow, standIns := [], harness := (true, "08c3ce7c324d1295dde185c573c2adbc7a02ab25ea8949d36a667dc19fbc7de6"), looks := true }, kinds := [], alts := [], laidByText := true, laidKinds := [.data, .data, .data], laidTests := true, laidLooks := .later }
def IrSpoiltUptoCardSaid : Prop := Claim7.holds Tryd.pinned (.plain (OpenSpec.upto irSpoiltSpec)) irSpoiltUptoCard

/-- THE SECOND FORM's CARD OF 'hollowaylaw14.IrSame'. -/
def irSameUptoCard : Claim7 := { stood := { row := irSameUptoRow, standIns := [], harness := (true, "08c3ce7c324d1295dde185c573c2adbc7a02ab25ea8949d36a667dc19fbc7de6"), looks := true }, kinds := [], alts := [], laidByText := true, laidKinds := [.data, .data, .data], laidTests := true, laidLooks := .later }
def IrSameUptoCardSaid : Prop := Claim7.holds Tryd.pinned (.plain (OpenSpec.upto irSameSpec)) irSameUptoCard
end Rows
end Go.Proofs.YtcfkhbkhejaegaaDoor
