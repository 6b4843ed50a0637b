/-
  No cell of these rows narrows 'for every input' (looked for: loops, veiled, ifaces, maps, wideKeys, modest, calm, conditions, laid).
  DERIVED. THE GIVEN ROWS OF THIS SEAT. 11 by the template 'for every input the law returns true; each argument reads behind the call as it read before'; 0 by the template 'total and deterministic' (their statements: YtfoogcdpllkeoaaTotals.lean).
  GIVEN WITH THE SEED: the statements are not yours to turn. If you find one false, say at which input.
  Laid BY PROGRAM, IN A SANDBOX (cutbox-rows.mjs): the forced cells as the released guide's own fill.sh prints them over the translation 63add602de1f0943… (all of the seat's roots in one cut). By AI agents, Wed Nov 11 2026. No macro, syntax, notation, axiom, sorry.
-/
import Derived.Test.YtfoogcdpllkeoaaChecked
import GoSem.Claim
import GoSem.ClaimJoined
import GoSem.ClaimMapViews
import Derived.JoinedTies
import Derived.KernelRfl
namespace Go.Proofs.Ytfoogcdpllkeoaa
/- THE CELL 'sum', in the pinned program and in every row, IS THE sha256 OF THE DUMP (.gsa) THAT YtfoogcdpllkeoaaProg.lean LOADS. Nothing in Lean hashes anything: it is a label: what it is worth is what the hold of that sum in a sandbox is worth. -/
noncomputable def Try.pinned : Pinned := { name := "ytfoogcdpllkeoaa", sum := "63add602de1f0943dbadfa2f6a640c632bf775080f7df4d09c9299fe3800a19c", checked := Try.checked }
namespace Rows
def none {H : Type} : Left H := { results := [], args := [] }

/-- 'hollowaylaw12.HotRounds': WHATEVER THE INPUT: true; the input reads as it did. -/
def hotRoundsSpec : ChangeSpec := { name := "hotRounds", fn := fun _ => fun
  | [d1, d2, d3] => { results := [.lit (.bool true)], args := [d1, d2, d3] }
  | _ => none }
def hotRoundsRow : OpenClaim := { program := "ytfoogcdpllkeoaa", sum := "63add602de1f0943dbadfa2f6a640c632bf775080f7df4d09c9299fe3800a19c", func := "holloway/hollowaylaw12.HotRounds", spec := "hotRounds", apart := false }
def HotRoundsSaid : Prop := hotRoundsRow.holds Try.pinned (OpenSpec.ofChange hotRoundsSpec)

/-- ITS FALSE NEIGHBOUR: 'it returns false'. Refute it at one input. -/
def hotRoundsWrong : ChangeSpec := { name := "hotRounds", fn := fun _ => fun
  | [d1, d2, d3] => { results := [.lit (.bool false)], args := [d1, d2, d3] }
  | _ => none }
def HotRoundsWrongFalsely : Prop := hotRoundsRow.holds Try.pinned (OpenSpec.ofChange hotRoundsWrong)

/-- 'hollowaylaw12.HotFull': WHATEVER THE INPUT: true; the input reads as it did. -/
def hotFullSpec : ChangeSpec := { name := "hotFull", fn := fun _ => fun
  | [d1, d2, d3] => { results := [.lit (.bool true)], args := [d1, d2, d3] }
  | _ => none }
def hotFullRow : OpenClaim := { program := "ytfoogcdpllkeoaa", sum := "63add602de1f0943dbadfa2f6a640c632bf775080f7df4d09c9299fe3800a19c", func := "holloway/hollowaylaw12.HotFull", spec := "hotFull", apart := false }
def HotFullSaid : Prop := hotFullRow.holds Try.pinned (OpenSpec.ofChange hotFullSpec)

/-- ITS FALSE NEIGHBOUR: 'it returns false'. Refute it at one input. -/
def hotFullWrong : ChangeSpec := { name := "hotFull", fn := fun _ => fun
  | [d1, d2, d3] => { results := [.lit (.bool false)], args := [d1, d2, d3] }
  | _ => none }
def HotFullWrongFalsely : Prop := hotFullRow.holds Try.pinned (OpenSpec.ofChange hotFullWrong)

/-- 'hollowaylaw12.HotPlays': WHATEVER THE INPUT: true; the input reads as it did. -/
def hotPlaysSpec : ChangeSpec := { name := "hotPlays", fn := fun _ => fun
  | [d1, d2, d3] => { results := [.lit (.bool true)], args := [d1, d2, d3] }
  | _ => none }
def hotPlaysRow : OpenClaim := { program := "ytfoogcdpllkeoaa", sum := "63add602de1f0943dbadfa2f6a640c632bf775080f7df4d09c9299fe3800a19c", func := "holloway/hollowaylaw12.HotPlays", spec := "hotPlays", apart := false }
def HotPlaysSaid : Prop := hotPlaysRow.holds Try.pinned (OpenSpec.ofChange hotPlaysSpec)

/-- ITS FALSE NEIGHBOUR: 'it returns false'. Refute it at one input. -/
def hotPlaysWrong : ChangeSpec := { name := "hotPlays", fn := fun _ => fun
  | [d1, d2, d3] => { results := [.lit (.bool false)], args := [d1, d2, d3] }
  | _ => none }
def HotPlaysWrongFalsely : Prop := hotPlaysRow.holds Try.pinned (OpenSpec.ofChange hotPlaysWrong)

/-- 'hollowaylaw12.HotForgets': WHATEVER THE INPUT: true; the input reads as it did. -/
def hotForgetsSpec : ChangeSpec := { name := "hotForgets", fn := fun _ => fun
  | [d1, d2, d3, d4] => { results := [.lit (.bool true)], args := [d1, d2, d3, d4] }
  | _ => none }
def hotForgetsRow : OpenClaim := { program := "ytfoogcdpllkeoaa", sum := "63add602de1f0943dbadfa2f6a640c632bf775080f7df4d09c9299fe3800a19c", func := "holloway/hollowaylaw12.HotForgets", spec := "hotForgets", apart := false }
def HotForgetsSaid : Prop := hotForgetsRow.holds Try.pinned (OpenSpec.ofChange hotForgetsSpec)

/-- ITS FALSE NEIGHBOUR: 'it returns false'. Refute it at one input. -/
def hotForgetsWrong : ChangeSpec := { name := "hotForgets", fn := fun _ => fun
  | [d1, d2, d3, d4] => { results := [.lit (.bool false)], args := [d1, d2, d3, d4] }
  | _ => none }
def HotForgetsWrongFalsely : Prop := hotForgetsRow.holds Try.pinned (OpenSpec.ofChange hotForgetsWrong)

/-- 'hollowaylaw8.SourceWords': WHATEVER THE INPUT: true; the input reads as it did. -/
def sourceWordsSpec : ChangeSpec := { name := "sourceWords", fn := fun _ => fun
  | [d] => { results := [.lit (.bool true)], args := [d] }
  | _ => none }
def sourceWordsRow : OpenClaim := { program := "ytfoogcdpllkeoaa", sum := "63add602de1f0943dbadfa2f6a640c632bf775080f7df4d09c9299fe3800a19c", func := "holloway/hollowaylaw8.SourceWords", spec := "sourceWords", inPlace := ["internal/bytealg.IndexByteString"], apart := false }
def SourceWordsSaid : Prop := sourceWordsRow.holds Try.pinned (OpenSpec.ofChange sourceWordsSpec)

/-- ITS FALSE NEIGHBOUR: 'it returns false'. Refute it at one input. -/
def sourceWordsWrong : ChangeSpec := { name := "sourceWords", fn := fun _ => fun
  | [d] => { results := [.lit (.bool false)], args := [d] }
  | _ => none }
def SourceWordsWrongFalsely : Prop := sourceWordsRow.holds Try.pinned (OpenSpec.ofChange sourceWordsWrong)

/-- 'hollowaylaw8.SourcePlays': WHATEVER THE INPUT: true; the input reads as it did. -/
def sourcePlaysSpec : ChangeSpec := { name := "sourcePlays", fn := fun _ => fun
  | [d1, d2] => { results := [.lit (.bool true)], args := [d1, d2] }
  | _ => none }
def sourcePlaysRow : OpenClaim := { program := "ytfoogcdpllkeoaa", sum := "63add602de1f0943dbadfa2f6a640c632bf775080f7df4d09c9299fe3800a19c", func := "holloway/hollowaylaw8.SourcePlays", spec := "sourcePlays", inPlace := ["internal/bytealg.IndexByteString"], apart := false }
def SourcePlaysSaid : Prop := sourcePlaysRow.holds Try.pinned (OpenSpec.ofChange sourcePlaysSpec)

/-- ITS FALSE NEIGHBOUR: 'it returns false'. Refute it at one input. -/
def sourcePlaysWrong : ChangeSpec := { name := "sourcePlays", fn := fun _ => fun
  | [d1, d2] => { results := [.lit (.bool false)], args := [d1, d2] }
  | _ => none }
def SourcePlaysWrongFalsely : Prop := sourcePlaysRow.holds Try.pinned (OpenSpec.ofChange sourcePlaysWrong)

/-- 'hollowaylaw8.SourceCuts': WHATEVER THE INPUT: true; the input reads as it did. -/
def sourceCutsSpec : ChangeSpec := { name := "sourceCuts", fn := fun _ => fun
  | [d1, d2] => { results := [.lit (.bool true)], args := [d1, d2] }
  | _ => none }
def sourceCutsRow : OpenClaim := { program := "ytfoogcdpllkeoaa", sum := "63add602de1f0943dbadfa2f6a640c632bf775080f7df4d09c9299fe3800a19c", func := "holloway/hollowaylaw8.SourceCuts", spec := "sourceCuts", inPlace := ["internal/bytealg.IndexByteString"], apart := false }
def SourceCutsSaid : Prop := sourceCutsRow.holds Try.pinned (OpenSpec.ofChange sourceCutsSpec)

/-- ITS FALSE NEIGHBOUR: 'it returns false'. Refute it at one input. -/
def sourceCutsWrong : ChangeSpec := { name := "sourceCuts", fn := fun _ => fun
  | [d1, d2] => { results := [.lit (.bool false)], args := [d1, d2] }
  | _ => none }
def SourceCutsWrongFalsely : Prop := sourceCutsRow.holds Try.pinned (OpenSpec.ofChange sourceCutsWrong)

/-- 'hollowaylaw8.SourceUntils': WHATEVER THE INPUT: true; the input reads as it did. -/
def sourceUntilsSpec : ChangeSpec := { name := "sourceUntils", fn := fun _ => fun
  | [d1, d2] => { results := [.lit (.bool true)], args := [d1, d2] }
  | _ => none }
def sourceUntilsRow : OpenClaim := { program := "ytfoogcdpllkeoaa", sum := "63add602de1f0943dbadfa2f6a640c632bf775080f7df4d09c9299fe3800a19c", func := "holloway/hollowaylaw8.SourceUntils", spec := "sourceUntils", inPlace := ["internal/bytealg.IndexByteString"], apart := false }
def SourceUntilsSaid : Prop := sourceUntilsRow.holds Try.pinned (OpenSpec.ofChange sourceUntilsSpec)

/-- ITS FALSE NEIGHBOUR: 'it returns false'. Refute it at one input. -/
def sourceUntilsWrong : ChangeSpec := { name := "sourceUntils", fn := fun _ => fun
  | [d1, d2] => { results := [.lit (.bool false)], args := [d1, d2] }
  | _ => none }
def SourceUntilsWrongFalsely : Prop := sourceUntilsRow.holds Try.pinned (OpenSpec.ofChange sourceUntilsWrong)

/-- 'hollowaylaw10.WeaveClosed': WHATEVER THE INPUT: true; the input reads as it did. -/
def weaveClosedSpec : ChangeSpec := { name := "weaveClosed", fn := fun _ => fun
  | [d1, d2] => { results := [.lit (.bool true)], args := [d1, d2] }
  | _ => none }
def weaveClosedRow : OpenClaim := { program := "ytfoogcdpllkeoaa", sum := "63add602de1f0943dbadfa2f6a640c632bf775080f7df4d09c9299fe3800a19c", func := "holloway/hollowaylaw10.WeaveClosed", spec := "weaveClosed", inPlace := ["internal/abi.NoEscape"], apart := false }
def WeaveClosedSaid : Prop := weaveClosedRow.holds Try.pinned (OpenSpec.ofChange weaveClosedSpec)

/-- ITS FALSE NEIGHBOUR: 'it returns false'. Refute it at one input. -/
def weaveClosedWrong : ChangeSpec := { name := "weaveClosed", fn := fun _ => fun
  | [d1, d2] => { results := [.lit (.bool false)], args := [d1, d2] }
  | _ => none }
def WeaveClosedWrongFalsely : Prop := weaveClosedRow.holds Try.pinned (OpenSpec.ofChange weaveClosedWrong)

/-- 'hollowaylaw10.WeavePlays': WHATEVER THE INPUT: true; the input reads as it did. -/
def weavePlaysSpec : ChangeSpec := { name := "weavePlays", fn := fun _ => fun
  | [d1, d2, d3] => { results := [.lit (.bool true)], args := [d1, d2, d3] }
  | _ => none }
def weavePlaysRow : OpenClaim := { program := "ytfoogcdpllkeoaa", sum := "63add602de1f0943dbadfa2f6a640c632bf775080f7df4d09c9299fe3800a19c", func := "holloway/hollowaylaw10.WeavePlays", spec := "weavePlays", inPlace := ["internal/abi.NoEscape"], apart := false }
def WeavePlaysSaid : Prop := weavePlaysRow.holds Try.pinned (OpenSpec.ofChange weavePlaysSpec)

/-- ITS FALSE NEIGHBOUR: 'it returns false'. Refute it at one input. -/
def weavePlaysWrong : ChangeSpec := { name := "weavePlays", fn := fun _ => fun
  | [d1, d2, d3] => { results := [.lit (.bool false)], args := [d1, d2, d3] }
  | _ => none }
def WeavePlaysWrongFalsely : Prop := weavePlaysRow.holds Try.pinned (OpenSpec.ofChange weavePlaysWrong)

/-- 'hollowaylaw10.WeaveRoom': WHATEVER THE INPUT: true; the input reads as it did. -/
def weaveRoomSpec : ChangeSpec := { name := "weaveRoom", fn := fun _ => fun
  | [d1, d2, d3] => { results := [.lit (.bool true)], args := [d1, d2, d3] }
  | _ => none }
def weaveRoomRow : OpenClaim := { program := "ytfoogcdpllkeoaa", sum := "63add602de1f0943dbadfa2f6a640c632bf775080f7df4d09c9299fe3800a19c", func := "holloway/hollowaylaw10.WeaveRoom", spec := "weaveRoom", inPlace := ["internal/abi.NoEscape"], apart := false }
def WeaveRoomSaid : Prop := weaveRoomRow.holds Try.pinned (OpenSpec.ofChange weaveRoomSpec)

/-- ITS FALSE NEIGHBOUR: 'it returns false'. Refute it at one input. -/
def weaveRoomWrong : ChangeSpec := { name := "weaveRoom", fn := fun _ => fun
  | [d1, d2, d3] => { results := [.lit (.bool false)], args := [d1, d2, d3] }
  | _ => none }
def WeaveRoomWrongFalsely : Prop := weaveRoomRow.holds Try.pinned (OpenSpec.ofChange weaveRoomWrong)

/- THE SECOND FORM. 'bulk': how many values and letters a reading holds, each counted each time it is reached (what is shared counts as often as it is met; a slice's spare places count too). A statement '..UptoSaid' is the law's where the arguments, and the package variables that the reading takes, are together of bulk at most 1048576: NARROWER than '..Said'. Prove '..Said' where nothing that the law and all that it calls make is longer than what came in: it says more and counts as full. Else prove '..UptoSaid'. A law counts once. -/
mutual
def uptoBulk {H : Type} : DataW H → Nat
  | .lit (.string bytes) => bytes.length + 1
  | .lit _ => 1
  | .nil => 1
  | .ptr d => uptoBulk d + 1
  | .slice elems spare => uptoBulkAll elems + uptoBulkAll spare + 1
  | .agg parts => uptoBulkAll parts + 1
  | .iface _ d => uptoBulk d + 1
  | .map entries => uptoBulkEntries entries + 1
  | .held _ => 1
def uptoBulkAll {H : Type} : List (DataW H) → Nat
  | [] => 0
  | d :: r => uptoBulk d + uptoBulkAll r
def uptoBulkEntries {H : Type} : List (Lit × DataW H) → Nat
  | [] => 0
  | x :: r => uptoBulkEntry x + uptoBulkEntries r
def uptoBulkEntry {H : Type} : Lit × DataW H → Nat
  | (.string bytes, d) => bytes.length + uptoBulk d + 1
  | (_, d) => uptoBulk d + 1
 end
def uptoSmall : (H : Type) → List (DataW H) → Bool := fun _ ds => decide (uptoBulkAll ds ≤ 1048576)
def OpenSpec.upto (s : _root_.Go.ChangeSpec) : _root_.Go.OpenSpec := { _root_.Go.OpenSpec.ofChange s with cond := some uptoSmall }

/-- 'hollowaylaw12.HotRounds', WHERE WHAT IT READS IS OF BULK AT MOST 1048576: true; the input reads as it did. -/
def hotRoundsUptoRow : OpenClaim := { program := "ytfoogcdpllkeoaa", sum := "63add602de1f0943dbadfa2f6a640c632bf775080f7df4d09c9299fe3800a19c", func := "holloway/hollowaylaw12.HotRounds", spec := "hotRounds", apart := false, narrowed := true }
def HotRoundsUptoSaid : Prop := hotRoundsUptoRow.holds Try.pinned (OpenSpec.upto hotRoundsSpec)

/-- 'hollowaylaw12.HotFull', WHERE WHAT IT READS IS OF BULK AT MOST 1048576: true; the input reads as it did. -/
def hotFullUptoRow : OpenClaim := { program := "ytfoogcdpllkeoaa", sum := "63add602de1f0943dbadfa2f6a640c632bf775080f7df4d09c9299fe3800a19c", func := "holloway/hollowaylaw12.HotFull", spec := "hotFull", apart := false, narrowed := true }
def HotFullUptoSaid : Prop := hotFullUptoRow.holds Try.pinned (OpenSpec.upto hotFullSpec)

/-- 'hollowaylaw12.HotPlays', WHERE WHAT IT READS IS OF BULK AT MOST 1048576: true; the input reads as it did. -/
def hotPlaysUptoRow : OpenClaim := { program := "ytfoogcdpllkeoaa", sum := "63add602de1f0943dbadfa2f6a640c632bf775080f7df4d09c9299fe3800a19c", func := "holloway/hollowaylaw12.HotPlays", spec := "hotPlays", apart := false, narrowed := true }
def HotPlaysUptoSaid : Prop := hotPlaysUptoRow.holds Try.pinned (OpenSpec.upto hotPlaysSpec)

/-- 'hollowaylaw12.HotForgets', WHERE WHAT IT READS IS OF BULK AT MOST 1048576: true; the input reads as it did. -/
def hotForgetsUptoRow : OpenClaim := { program := "ytfoogcdpllkeoaa", sum := "63add602de1f0943dbadfa2f6a640c632bf775080f7df4d09c9299fe3800a19c", func := "holloway/hollowaylaw12.HotForgets", spec := "hotForgets", apart := false, narrowed := true }
def HotForgetsUptoSaid : Prop := hotForgetsUptoRow.holds Try.pinned (OpenSpec.upto hotForgetsSpec)

/-- 'hollowaylaw8.SourceWords', WHERE WHAT IT READS IS OF BULK AT MOST 1048576: true; the input reads as it did. -/
def sourceWordsUptoRow : OpenClaim := { program := "ytfoogcdpllkeoaa", sum := "63add602de1f0943dbadfa2f6a640c632bf775080f7df4d09c9299fe3800a19c", func := "holloway/hollowaylaw8.SourceWords", spec := "sourceWords", inPlace := ["internal/bytealg.IndexByteString"], apart := false, narrowed := true }
def SourceWordsUptoSaid : Prop := sourceWordsUptoRow.holds Try.pinned (OpenSpec.upto sourceWordsSpec)

/-- 'hollowaylaw8.SourcePlays', WHERE WHAT IT READS IS OF BULK AT MOST 1048576: true; the input reads as it did. -/
def sourcePlaysUptoRow : OpenClaim := { program := "ytfoogcdpllkeoaa", sum := "63add602de1f0943dbadfa2f6a640c632bf775080f7df4d09c9299fe3800a19c", func := "holloway/hollowaylaw8.SourcePlays", spec := "sourcePlays", inPlace := ["internal/bytealg.IndexByteString"], apart := false, narrowed := true }
def SourcePlaysUptoSaid : Prop := sourcePlaysUptoRow.holds Try.pinned (OpenSpec.upto sourcePlaysSpec)

/-- 'hollowaylaw8.SourceCuts', WHERE WHAT IT READS IS OF BULK AT MOST 1048576: true; the input reads as it did. -/
def sourceCutsUptoRow : OpenClaim := { program := "ytfoogcdpllkeoaa", sum := "63add602de1f0943dbadfa2f6a640c632bf775080f7df4d09c9299fe3800a19c", func := "holloway/hollowaylaw8.SourceCuts", spec := "sourceCuts", inPlace := ["internal/bytealg.IndexByteString"], apart := false, narrowed := true }
def SourceCutsUptoSaid : Prop := sourceCutsUptoRow.holds Try.pinned (OpenSpec.upto sourceCutsSpec)

/-- 'hollowaylaw8.SourceUntils', WHERE WHAT IT READS IS OF BULK AT MOST 1048576: true; the input reads as it did. -/
def sourceUntilsUptoRow : OpenClaim := { program := "ytfoogcdpllkeoaa", sum := "63add602de1f0943dbadfa2f6a640c632bf775080f7df4d09c9299fe3800a19c", func := "holloway/hollowaylaw8.SourceUntils", spec := "sourceUntils", inPlace := ["internal/bytealg.IndexByteString"], apart := false, narrowed := true }
def SourceUntilsUptoSaid : Prop := sourceUntilsUptoRow.holds Try.pinned (OpenSpec.upto sourceUntilsSpec)

/-- 'hollowaylaw10.WeaveClosed', WHERE WHAT IT READS IS OF BULK AT MOST 1048576: true; the input reads as it did. -/
def weaveClosedUptoRow : OpenClaim := { program := "ytfoogcdpllkeoaa", sum := "63add602de1f0943dbadfa2f6a640c632bf775080f7df4d09c9299fe3800a19c", func := "holloway/hollowaylaw10.WeaveClosed", spec := "weaveClosed", inPlace := ["internal/abi.NoEscape"], apart := false, narrowed := true }
def WeaveClosedUptoSaid : Prop := weaveClosedUptoRow.holds Try.pinned (OpenSpec.upto weaveClosedSpec)

/-- 'hollowaylaw10.WeavePlays', WHERE WHAT IT READS IS OF BULK AT MOST 1048576: true; the input reads as it did. -/
def weavePlaysUptoRow : OpenClaim := { program := "ytfoogcdpllkeoaa", sum := "63add602de1f0943dbadfa2f6a640c632bf775080f7df4d09c9299fe3800a19c", func := "holloway/hollowaylaw10.WeavePlays", spec := "weavePlays", inPlace := ["internal/abi.NoEscape"], apart := false, narrowed := true }
def WeavePlaysUptoSaid : Prop := weavePlaysUptoRow.holds Try.pinned (OpenSpec.upto weavePlaysSpec)

/-- 'hollowaylaw10.WeaveRoom', WHERE WHAT IT READS IS OF BULK AT MOST 1048576: true; the input reads as it did. -/
def weaveRoomUptoRow : OpenClaim := { program := "ytfoogcdpllkeoaa", sum := "63add602de1f0943dbadfa2f6a640c632bf775080f7df4d09c9299fe3800a19c", func := "holloway/hollowaylaw10.WeaveRoom", spec := "weaveRoom", inPlace := ["internal/abi.NoEscape"], apart := false, narrowed := true }
def WeaveRoomUptoSaid : Prop := weaveRoomUptoRow.holds Try.pinned (OpenSpec.upto weaveRoomSpec)

end Rows
end Go.Proofs.Ytfoogcdpllkeoaa
