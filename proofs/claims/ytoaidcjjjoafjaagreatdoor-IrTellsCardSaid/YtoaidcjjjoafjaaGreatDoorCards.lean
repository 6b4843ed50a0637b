/-
  DERIVED. GIVEN WITH THE SEED: THE CARDS: each row of YtoaidcjjjoafjaaGreatDoorRows.lean that lists a variable, with what it lists TIED to the program's text (the seventh form; the later family's looks); each row that meets fmt, with fmt's text TOLD by the authors' own Lean function (tested against real Go, not proved from fmt's source: count such statements apart). THE CARD IS WHAT COUNTS. Prove the row's statement (the work); the ties are given (YtoaidcjjjoafjaaGreatDoorTie.lean); close each card by the builder's one call (the guide's Derived/Test/ToyasCard.lean, 'card_holds'). Laid BY PROGRAM, IN A SANDBOX (cutbox-door.mjs). By AI agents, Wed Nov 11 2026. No macro, syntax, notation, axiom, sorry.
-/
import Derived.Test.YtoaidcjjjoafjaaGreatDoorRows
import GoSem.ClaimSeven
namespace Go.Proofs.YtoaidcjjjoafjaaGreatDoor
namespace Rows

/-- THE TIED CARD OF 'hollowaylaw14.IrTells'. -/
def irTellsCard : Claim7 := { stood := { row := irTellsRow, standIns := [], harness := (true, "6725e6c20d3e9fa6c560f89d0353a46bdef53178673c21bea007dd2756cf5123"), looks := false }, kinds := [], alts := [], laidByText := true, laidKinds := [.data, .data, .data], laidTests := true, laidLooks := .later }
def IrTellsCardSaid : Prop := Claim7.holds Tryz.pinned (.plain (OpenSpec.ofChange irTellsSpec)) irTellsCard

/-- THE SECOND FORM's CARD OF 'hollowaylaw14.IrTells'. -/
def irTellsUptoCard : Claim7 := { stood := { row := irTellsUptoRow, standIns := [], harness := (true, "6725e6c20d3e9fa6c560f89d0353a46bdef53178673c21bea007dd2756cf5123"), looks := false }, kinds := [], alts := [], laidByText := true, laidKinds := [.data, .data, .data], laidTests := true, laidLooks := .later }
def IrTellsUptoCardSaid : Prop := Claim7.holds Tryz.pinned (.plain (OpenSpec.upto irTellsSpec)) irTellsUptoCard
end Rows
end Go.Proofs.YtoaidcjjjoafjaaGreatDoor
