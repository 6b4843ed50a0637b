/-
  NARROWER THAN 'FOR EVERY INPUT', by the rows' own cells (each row's printed sentence says how): OuterNumbers: laid · OuterWords: laid · OuterConstants: laid · OuterIfs: laid · OuterLoops: laid · OuterExits: laid · OuterRecurses: laid · OuterTicks: laid · OuterCatches: laid · OuterForgets: laid · OuterAllots: laid · OuterOnly: laid.
  DERIVED. THE GIVEN ROWS OF THIS SEAT. 12 by the template 'for every input the law returns true; each argument reads behind the call as it read before'; 0 by the template 'total and deterministic' (their statements: YtompdfpjmdnhoaaGreatDoorTotals.lean).
  GIVEN WITH THE SEED: the statements are not yours to turn. If you find one false, say at which input.
  Laid BY PROGRAM, IN A SANDBOX (cutbox-rows.mjs): the forced cells as the released guide's own fill.sh prints them over the translation 24a8b1f1e4c32538… (all of the seat's roots in one cut). By AI agents, Wed Nov 11 2026. No macro, syntax, notation, axiom, sorry.
-/
import Derived.Test.YtompdfpjmdnhoaaGreatDoorChecked
import GoSem.PinnedTables
import GoSem.Claim
import GoSem.ClaimJoined
import GoSem.ClaimMapViews
import Derived.JoinedTies
import Derived.KernelRfl
namespace Go.Proofs.YtompdfpjmdnhoaaGreatDoor
/- THE CELL 'sum', in the pinned program and in every row, IS THE sha256 OF THE DUMP (.gsa) THAT YtompdfpjmdnhoaaGreatDoorProg.lean LOADS. Nothing in Lean hashes anything: it is a label: what it is worth is what the hold of that sum in a sandbox is worth. -/
noncomputable def Tryz.pinned : Pinned := { name := "ytompdfpjmdnhoaagreatdoor", sum := "24a8b1f1e4c32538fb58225f494470bc4e8ed2ae907c76929a096a506b3b3013", checked := Tryz.checked }
namespace Rows
def none {H : Type} : Left H := { results := [], args := [] }

/- WHAT THE LISTED PACKAGE-LEVEL VARIABLES READ AS WHEN THE CALL BEGINS. Each datum BY PROGRAM (the guide's laid-datum.mjs) off the statement by which the dump's own 'gosem.cut.vars' lays the variable. In a bare row this is a premise. The card (YtompdfpjmdnhoaaGreatDoorCards.lean) ties it to the program's text. -/
def laid_unicode_utf8_acceptRanges {H : Type} : DataW H := .agg [.agg [.lit (.int .u8 128), .lit (.int .u8 191)], .agg [.lit (.int .u8 160), .lit (.int .u8 191)], .agg [.lit (.int .u8 128), .lit (.int .u8 159)], .agg [.lit (.int .u8 144), .lit (.int .u8 191)], .agg [.lit (.int .u8 128), .lit (.int .u8 143)], .agg [.lit (.int .u8 0), .lit (.int .u8 0)], .agg [.lit (.int .u8 0), .lit (.int .u8 0)], .agg [.lit (.int .u8 0), .lit (.int .u8 0)], .agg [.lit (.int .u8 0), .lit (.int .u8 0)], .agg [.lit (.int .u8 0), .lit (.int .u8 0)], .agg [.lit (.int .u8 0), .lit (.int .u8 0)], .agg [.lit (.int .u8 0), .lit (.int .u8 0)], .agg [.lit (.int .u8 0), .lit (.int .u8 0)], .agg [.lit (.int .u8 0), .lit (.int .u8 0)], .agg [.lit (.int .u8 0), .lit (.int .u8 0)], .agg [.lit (.int .u8 0), .lit (.int .u8 0)]]
def laid_errors_errorType {H : Type} : DataW H := .iface "internal/reflectlite.rtype" (.agg [.ptr (.lit (.string [101, 114, 114, 111, 114]))])
/-- One of Go's own tables, pinned by name: the form's constant. -/
def laid_unicode_CaseRanges : DataW Unit := Go.Pinned.caseRanges
/-- One of Go's own tables, pinned by name: the form's constant. -/
def laid_unicode_utf8_first : DataW Unit := Go.Pinned.utf8First

/-- 'hollowaylaw11.OuterNumbers': WHATEVER THE INPUT: true; the input reads as it did. -/
def outerNumbersSpec : ChangeSpec := { name := "outerNumbers", fn := fun _ => fun
  | [d] => { results := [.lit (.bool true)], args := [d] }
  | _ => none }
def outerNumbersRow : OpenClaim := { program := "ytompdfpjmdnhoaagreatdoor", sum := "24a8b1f1e4c32538fb58225f494470bc4e8ed2ae907c76929a096a506b3b3013", func := "holloway/hollowaylaw11.OuterNumbers", spec := "outerNumbers", inPlace := ["internal/abi.NoEscape", "internal/bytealg.IndexByteString", "internal/bytealg.MakeNoZero", "internal/reflectlite.ValueOf", "(internal/reflectlite.Value).Type", "(internal/reflectlite.Value).IsNil", "internal/reflectlite.TypeOf", "(internal/reflectlite.Value).Elem", "(internal/reflectlite.Value).Set"], unfollowed := true, recurses := true, named := ["unicode/utf8.first", "unicode/utf8.acceptRanges", "unicode.CaseRanges", "errors.errorType"], apart := false, laid := [("unicode/utf8.acceptRanges", laid_unicode_utf8_acceptRanges), ("errors.errorType", laid_errors_errorType), ("unicode.CaseRanges", laid_unicode_CaseRanges), ("unicode/utf8.first", laid_unicode_utf8_first)] }
def OuterNumbersSaid : Prop := outerNumbersRow.holds Tryz.pinned (OpenSpec.ofChange outerNumbersSpec)

/-- ITS FALSE NEIGHBOUR: 'it returns false'. Refute it at one input. -/
def outerNumbersWrong : ChangeSpec := { name := "outerNumbers", fn := fun _ => fun
  | [d] => { results := [.lit (.bool false)], args := [d] }
  | _ => none }
def OuterNumbersWrongFalsely : Prop := outerNumbersRow.holds Tryz.pinned (OpenSpec.ofChange outerNumbersWrong)

/-- 'hollowaylaw11.OuterWords': WHATEVER THE INPUT: true; the input reads as it did. -/
def outerWordsSpec : ChangeSpec := { name := "outerWords", fn := fun _ => fun
  | [d1, d2] => { results := [.lit (.bool true)], args := [d1, d2] }
  | _ => none }
def outerWordsRow : OpenClaim := { program := "ytompdfpjmdnhoaagreatdoor", sum := "24a8b1f1e4c32538fb58225f494470bc4e8ed2ae907c76929a096a506b3b3013", func := "holloway/hollowaylaw11.OuterWords", spec := "outerWords", inPlace := ["internal/abi.NoEscape", "internal/bytealg.IndexByteString", "internal/bytealg.MakeNoZero", "internal/reflectlite.ValueOf", "(internal/reflectlite.Value).Type", "(internal/reflectlite.Value).IsNil", "internal/reflectlite.TypeOf", "(internal/reflectlite.Value).Elem", "(internal/reflectlite.Value).Set"], unfollowed := true, recurses := true, named := ["unicode/utf8.first", "unicode/utf8.acceptRanges", "unicode.CaseRanges", "errors.errorType"], apart := false, laid := [("unicode/utf8.acceptRanges", laid_unicode_utf8_acceptRanges), ("errors.errorType", laid_errors_errorType), ("unicode.CaseRanges", laid_unicode_CaseRanges), ("unicode/utf8.first", laid_unicode_utf8_first)] }
def OuterWordsSaid : Prop := outerWordsRow.holds Tryz.pinned (OpenSpec.ofChange outerWordsSpec)

/-- ITS FALSE NEIGHBOUR: 'it returns false'. Refute it at one input. -/
def outerWordsWrong : ChangeSpec := { name := "outerWords", fn := fun _ => fun
  | [d1, d2] => { results := [.lit (.bool false)], args := [d1, d2] }
  | _ => none }
def OuterWordsWrongFalsely : Prop := outerWordsRow.holds Tryz.pinned (OpenSpec.ofChange outerWordsWrong)

/-- 'hollowaylaw11.OuterConstants': WHATEVER THE INPUT: true; the input reads as it did. -/
def outerConstantsSpec : ChangeSpec := { name := "outerConstants", fn := fun _ => fun
  | [d1, d2, d3] => { results := [.lit (.bool true)], args := [d1, d2, d3] }
  | _ => none }
def outerConstantsRow : OpenClaim := { program := "ytompdfpjmdnhoaagreatdoor", sum := "24a8b1f1e4c32538fb58225f494470bc4e8ed2ae907c76929a096a506b3b3013", func := "holloway/hollowaylaw11.OuterConstants", spec := "outerConstants", inPlace := ["internal/abi.NoEscape", "internal/bytealg.IndexByteString", "internal/bytealg.MakeNoZero", "internal/reflectlite.ValueOf", "(internal/reflectlite.Value).Type", "(internal/reflectlite.Value).IsNil", "internal/reflectlite.TypeOf", "(internal/reflectlite.Value).Elem", "(internal/reflectlite.Value).Set"], unfollowed := true, recurses := true, named := ["unicode/utf8.first", "unicode/utf8.acceptRanges", "unicode.CaseRanges", "errors.errorType"], apart := false, laid := [("unicode/utf8.acceptRanges", laid_unicode_utf8_acceptRanges), ("errors.errorType", laid_errors_errorType), ("unicode.CaseRanges", laid_unicode_CaseRanges), ("unicode/utf8.first", laid_unicode_utf8_first)] }
def OuterConstantsSaid : Prop := outerConstantsRow.holds Tryz.pinned (OpenSpec.ofChange outerConstantsSpec)

/-- ITS FALSE NEIGHBOUR: 'it returns false'. Refute it at one input. -/
def outerConstantsWrong : ChangeSpec := { name := "outerConstants", fn := fun _ => fun
  | [d1, d2, d3] => { results := [.lit (.bool false)], args := [d1, d2, d3] }
  | _ => none }
def OuterConstantsWrongFalsely : Prop := outerConstantsRow.holds Tryz.pinned (OpenSpec.ofChange outerConstantsWrong)

/-- 'hollowaylaw11.OuterIfs': WHATEVER THE INPUT: true; the input reads as it did. -/
def outerIfsSpec : ChangeSpec := { name := "outerIfs", fn := fun _ => fun
  | [d1, d2] => { results := [.lit (.bool true)], args := [d1, d2] }
  | _ => none }
def outerIfsRow : OpenClaim := { program := "ytompdfpjmdnhoaagreatdoor", sum := "24a8b1f1e4c32538fb58225f494470bc4e8ed2ae907c76929a096a506b3b3013", func := "holloway/hollowaylaw11.OuterIfs", spec := "outerIfs", inPlace := ["internal/abi.NoEscape", "internal/bytealg.IndexByteString", "internal/bytealg.MakeNoZero", "internal/reflectlite.ValueOf", "(internal/reflectlite.Value).Type", "(internal/reflectlite.Value).IsNil", "internal/reflectlite.TypeOf", "(internal/reflectlite.Value).Elem", "(internal/reflectlite.Value).Set"], unfollowed := true, recurses := true, named := ["unicode/utf8.first", "unicode/utf8.acceptRanges", "unicode.CaseRanges", "errors.errorType"], apart := false, laid := [("unicode/utf8.acceptRanges", laid_unicode_utf8_acceptRanges), ("errors.errorType", laid_errors_errorType), ("unicode.CaseRanges", laid_unicode_CaseRanges), ("unicode/utf8.first", laid_unicode_utf8_first)] }
def OuterIfsSaid : Prop := outerIfsRow.holds Tryz.pinned (OpenSpec.ofChange outerIfsSpec)

/-- ITS FALSE NEIGHBOUR: 'it returns false'. Refute it at one input. -/
def outerIfsWrong : ChangeSpec := { name := "outerIfs", fn := fun _ => fun
  | [d1, d2] => { results := [.lit (.bool false)], args := [d1, d2] }
  | _ => none }
def OuterIfsWrongFalsely : Prop := outerIfsRow.holds Tryz.pinned (OpenSpec.ofChange outerIfsWrong)

/-- 'hollowaylaw11.OuterLoops': WHATEVER THE INPUT: true; the input reads as it did. -/
def outerLoopsSpec : ChangeSpec := { name := "outerLoops", fn := fun _ => fun
  | [d] => { results := [.lit (.bool true)], args := [d] }
  | _ => none }
def outerLoopsRow : OpenClaim := { program := "ytompdfpjmdnhoaagreatdoor", sum := "24a8b1f1e4c32538fb58225f494470bc4e8ed2ae907c76929a096a506b3b3013", func := "holloway/hollowaylaw11.OuterLoops", spec := "outerLoops", inPlace := ["internal/abi.NoEscape", "internal/bytealg.IndexByteString", "internal/bytealg.MakeNoZero", "internal/reflectlite.ValueOf", "(internal/reflectlite.Value).Type", "(internal/reflectlite.Value).IsNil", "internal/reflectlite.TypeOf", "(internal/reflectlite.Value).Elem", "(internal/reflectlite.Value).Set"], unfollowed := true, recurses := true, named := ["unicode/utf8.first", "unicode/utf8.acceptRanges", "unicode.CaseRanges", "errors.errorType"], apart := false, laid := [("unicode/utf8.acceptRanges", laid_unicode_utf8_acceptRanges), ("errors.errorType", laid_errors_errorType), ("unicode.CaseRanges", laid_unicode_CaseRanges), ("unicode/utf8.first", laid_unicode_utf8_first)] }
def OuterLoopsSaid : Prop := outerLoopsRow.holds Tryz.pinned (OpenSpec.ofChange outerLoopsSpec)

/-- ITS FALSE NEIGHBOUR: 'it returns false'. Refute it at one input. -/
def outerLoopsWrong : ChangeSpec := { name := "outerLoops", fn := fun _ => fun
  | [d] => { results := [.lit (.bool false)], args := [d] }
  | _ => none }
def OuterLoopsWrongFalsely : Prop := outerLoopsRow.holds Tryz.pinned (OpenSpec.ofChange outerLoopsWrong)

/-- 'hollowaylaw11.OuterExits': WHATEVER THE INPUT: true; the input reads as it did. -/
def outerExitsSpec : ChangeSpec := { name := "outerExits", fn := fun _ => fun
  | [d1, d2] => { results := [.lit (.bool true)], args := [d1, d2] }
  | _ => none }
def outerExitsRow : OpenClaim := { program := "ytompdfpjmdnhoaagreatdoor", sum := "24a8b1f1e4c32538fb58225f494470bc4e8ed2ae907c76929a096a506b3b3013", func := "holloway/hollowaylaw11.OuterExits", spec := "outerExits", inPlace := ["internal/abi.NoEscape", "internal/bytealg.IndexByteString", "internal/bytealg.MakeNoZero", "internal/reflectlite.ValueOf", "(internal/reflectlite.Value).Type", "(internal/reflectlite.Value).IsNil", "internal/reflectlite.TypeOf", "(internal/reflectlite.Value).Elem", "(internal/reflectlite.Value).Set"], unfollowed := true, recurses := true, named := ["unicode/utf8.first", "unicode/utf8.acceptRanges", "unicode.CaseRanges", "errors.errorType"], apart := false, laid := [("unicode/utf8.acceptRanges", laid_unicode_utf8_acceptRanges), ("errors.errorType", laid_errors_errorType), ("unicode.CaseRanges", laid_unicode_CaseRanges), ("unicode/utf8.first", laid_unicode_utf8_first)] }
def OuterExitsSaid : Prop := outerExitsRow.holds Tryz.pinned (OpenSpec.ofChange outerExitsSpec)

/-- ITS FALSE NEIGHBOUR: 'it returns false'. Refute it at one input. -/
def outerExitsWrong : ChangeSpec := { name := "outerExits", fn := fun _ => fun
  | [d1, d2] => { results := [.lit (.bool false)], args := [d1, d2] }
  | _ => none }
def OuterExitsWrongFalsely : Prop := outerExitsRow.holds Tryz.pinned (OpenSpec.ofChange outerExitsWrong)

/-- 'hollowaylaw11.OuterRecurses': WHATEVER THE INPUT: true; the input reads as it did. -/
def outerRecursesSpec : ChangeSpec := { name := "outerRecurses", fn := fun _ => fun
  | [d] => { results := [.lit (.bool true)], args := [d] }
  | _ => none }
def outerRecursesRow : OpenClaim := { program := "ytompdfpjmdnhoaagreatdoor", sum := "24a8b1f1e4c32538fb58225f494470bc4e8ed2ae907c76929a096a506b3b3013", func := "holloway/hollowaylaw11.OuterRecurses", spec := "outerRecurses", inPlace := ["internal/abi.NoEscape", "internal/bytealg.IndexByteString", "internal/bytealg.MakeNoZero", "internal/reflectlite.ValueOf", "(internal/reflectlite.Value).Type", "(internal/reflectlite.Value).IsNil", "internal/reflectlite.TypeOf", "(internal/reflectlite.Value).Elem", "(internal/reflectlite.Value).Set"], unfollowed := true, recurses := true, named := ["unicode/utf8.first", "unicode/utf8.acceptRanges", "unicode.CaseRanges", "errors.errorType"], apart := false, laid := [("unicode/utf8.acceptRanges", laid_unicode_utf8_acceptRanges), ("errors.errorType", laid_errors_errorType), ("unicode.CaseRanges", laid_unicode_CaseRanges), ("unicode/utf8.first", laid_unicode_utf8_first)] }
def OuterRecursesSaid : Prop := outerRecursesRow.holds Tryz.pinned (OpenSpec.ofChange outerRecursesSpec)

/-- ITS FALSE NEIGHBOUR: 'it returns false'. Refute it at one input. -/
def outerRecursesWrong : ChangeSpec := { name := "outerRecurses", fn := fun _ => fun
  | [d] => { results := [.lit (.bool false)], args := [d] }
  | _ => none }
def OuterRecursesWrongFalsely : Prop := outerRecursesRow.holds Tryz.pinned (OpenSpec.ofChange outerRecursesWrong)

/-- 'hollowaylaw11.OuterTicks': WHATEVER THE INPUT: true; the input reads as it did. -/
def outerTicksSpec : ChangeSpec := { name := "outerTicks", fn := fun _ => fun
  | [d1, d2] => { results := [.lit (.bool true)], args := [d1, d2] }
  | _ => none }
def outerTicksRow : OpenClaim := { program := "ytompdfpjmdnhoaagreatdoor", sum := "24a8b1f1e4c32538fb58225f494470bc4e8ed2ae907c76929a096a506b3b3013", func := "holloway/hollowaylaw11.OuterTicks", spec := "outerTicks", inPlace := ["internal/abi.NoEscape", "internal/bytealg.IndexByteString", "internal/bytealg.MakeNoZero", "internal/reflectlite.ValueOf", "(internal/reflectlite.Value).Type", "(internal/reflectlite.Value).IsNil", "internal/reflectlite.TypeOf", "(internal/reflectlite.Value).Elem", "(internal/reflectlite.Value).Set"], unfollowed := true, recurses := true, named := ["unicode/utf8.first", "unicode/utf8.acceptRanges", "unicode.CaseRanges", "errors.errorType"], apart := false, laid := [("unicode/utf8.acceptRanges", laid_unicode_utf8_acceptRanges), ("errors.errorType", laid_errors_errorType), ("unicode.CaseRanges", laid_unicode_CaseRanges), ("unicode/utf8.first", laid_unicode_utf8_first)] }
def OuterTicksSaid : Prop := outerTicksRow.holds Tryz.pinned (OpenSpec.ofChange outerTicksSpec)

/-- ITS FALSE NEIGHBOUR: 'it returns false'. Refute it at one input. -/
def outerTicksWrong : ChangeSpec := { name := "outerTicks", fn := fun _ => fun
  | [d1, d2] => { results := [.lit (.bool false)], args := [d1, d2] }
  | _ => none }
def OuterTicksWrongFalsely : Prop := outerTicksRow.holds Tryz.pinned (OpenSpec.ofChange outerTicksWrong)

/-- 'hollowaylaw11.OuterCatches': WHATEVER THE INPUT: true; the input reads as it did. -/
def outerCatchesSpec : ChangeSpec := { name := "outerCatches", fn := fun _ => fun
  | [d1, d2] => { results := [.lit (.bool true)], args := [d1, d2] }
  | _ => none }
def outerCatchesRow : OpenClaim := { program := "ytompdfpjmdnhoaagreatdoor", sum := "24a8b1f1e4c32538fb58225f494470bc4e8ed2ae907c76929a096a506b3b3013", func := "holloway/hollowaylaw11.OuterCatches", spec := "outerCatches", inPlace := ["internal/abi.NoEscape", "internal/bytealg.IndexByteString", "internal/bytealg.MakeNoZero", "internal/reflectlite.ValueOf", "(internal/reflectlite.Value).Type", "(internal/reflectlite.Value).IsNil", "internal/reflectlite.TypeOf", "(internal/reflectlite.Value).Elem", "(internal/reflectlite.Value).Set"], unfollowed := true, recurses := true, named := ["unicode/utf8.first", "unicode/utf8.acceptRanges", "unicode.CaseRanges", "errors.errorType"], apart := false, laid := [("unicode/utf8.acceptRanges", laid_unicode_utf8_acceptRanges), ("errors.errorType", laid_errors_errorType), ("unicode.CaseRanges", laid_unicode_CaseRanges), ("unicode/utf8.first", laid_unicode_utf8_first)] }
def OuterCatchesSaid : Prop := outerCatchesRow.holds Tryz.pinned (OpenSpec.ofChange outerCatchesSpec)

/-- ITS FALSE NEIGHBOUR: 'it returns false'. Refute it at one input. -/
def outerCatchesWrong : ChangeSpec := { name := "outerCatches", fn := fun _ => fun
  | [d1, d2] => { results := [.lit (.bool false)], args := [d1, d2] }
  | _ => none }
def OuterCatchesWrongFalsely : Prop := outerCatchesRow.holds Tryz.pinned (OpenSpec.ofChange outerCatchesWrong)

/-- 'hollowaylaw11.OuterForgets': WHATEVER THE INPUT: true; the input reads as it did. -/
def outerForgetsSpec : ChangeSpec := { name := "outerForgets", fn := fun _ => fun
  | [d1, d2] => { results := [.lit (.bool true)], args := [d1, d2] }
  | _ => none }
def outerForgetsRow : OpenClaim := { program := "ytompdfpjmdnhoaagreatdoor", sum := "24a8b1f1e4c32538fb58225f494470bc4e8ed2ae907c76929a096a506b3b3013", func := "holloway/hollowaylaw11.OuterForgets", spec := "outerForgets", inPlace := ["internal/abi.NoEscape", "internal/bytealg.IndexByteString", "internal/bytealg.MakeNoZero", "internal/reflectlite.ValueOf", "(internal/reflectlite.Value).Type", "(internal/reflectlite.Value).IsNil", "internal/reflectlite.TypeOf", "(internal/reflectlite.Value).Elem", "(internal/reflectlite.Value).Set"], unfollowed := true, recurses := true, named := ["unicode/utf8.first", "unicode/utf8.acceptRanges", "unicode.CaseRanges", "errors.errorType"], apart := false, laid := [("unicode/utf8.acceptRanges", laid_unicode_utf8_acceptRanges), ("errors.errorType", laid_errors_errorType), ("unicode.CaseRanges", laid_unicode_CaseRanges), ("unicode/utf8.first", laid_unicode_utf8_first)] }
def OuterForgetsSaid : Prop := outerForgetsRow.holds Tryz.pinned (OpenSpec.ofChange outerForgetsSpec)

/-- ITS FALSE NEIGHBOUR: 'it returns false'. Refute it at one input. -/
def outerForgetsWrong : ChangeSpec := { name := "outerForgets", fn := fun _ => fun
  | [d1, d2] => { results := [.lit (.bool false)], args := [d1, d2] }
  | _ => none }
def OuterForgetsWrongFalsely : Prop := outerForgetsRow.holds Tryz.pinned (OpenSpec.ofChange outerForgetsWrong)

/-- 'hollowaylaw11.OuterAllots': WHATEVER THE INPUT: true; the input reads as it did. -/
def outerAllotsSpec : ChangeSpec := { name := "outerAllots", fn := fun _ => fun
  | [d] => { results := [.lit (.bool true)], args := [d] }
  | _ => none }
def outerAllotsRow : OpenClaim := { program := "ytompdfpjmdnhoaagreatdoor", sum := "24a8b1f1e4c32538fb58225f494470bc4e8ed2ae907c76929a096a506b3b3013", func := "holloway/hollowaylaw11.OuterAllots", spec := "outerAllots", inPlace := ["internal/abi.NoEscape", "internal/bytealg.IndexByteString", "internal/bytealg.MakeNoZero", "internal/reflectlite.ValueOf", "(internal/reflectlite.Value).Type", "(internal/reflectlite.Value).IsNil", "internal/reflectlite.TypeOf", "(internal/reflectlite.Value).Elem", "(internal/reflectlite.Value).Set"], unfollowed := true, recurses := true, named := ["unicode/utf8.first", "unicode/utf8.acceptRanges", "unicode.CaseRanges", "errors.errorType"], apart := false, laid := [("unicode/utf8.acceptRanges", laid_unicode_utf8_acceptRanges), ("errors.errorType", laid_errors_errorType), ("unicode.CaseRanges", laid_unicode_CaseRanges), ("unicode/utf8.first", laid_unicode_utf8_first)] }
def OuterAllotsSaid : Prop := outerAllotsRow.holds Tryz.pinned (OpenSpec.ofChange outerAllotsSpec)

/-- ITS FALSE NEIGHBOUR: 'it returns false'. Refute it at one input. -/
def outerAllotsWrong : ChangeSpec := { name := "outerAllots", fn := fun _ => fun
  | [d] => { results := [.lit (.bool false)], args := [d] }
  | _ => none }
def OuterAllotsWrongFalsely : Prop := outerAllotsRow.holds Tryz.pinned (OpenSpec.ofChange outerAllotsWrong)

/-- 'hollowaylaw11.OuterOnly': WHATEVER THE INPUT: true; the input reads as it did. -/
def outerOnlySpec : ChangeSpec := { name := "outerOnly", fn := fun _ => fun
  | [d] => { results := [.lit (.bool true)], args := [d] }
  | _ => none }
def outerOnlyRow : OpenClaim := { program := "ytompdfpjmdnhoaagreatdoor", sum := "24a8b1f1e4c32538fb58225f494470bc4e8ed2ae907c76929a096a506b3b3013", func := "holloway/hollowaylaw11.OuterOnly", spec := "outerOnly", inPlace := ["internal/abi.NoEscape", "internal/bytealg.IndexByteString", "internal/bytealg.MakeNoZero", "internal/reflectlite.ValueOf", "(internal/reflectlite.Value).Type", "(internal/reflectlite.Value).IsNil", "internal/reflectlite.TypeOf", "(internal/reflectlite.Value).Elem", "(internal/reflectlite.Value).Set"], unfollowed := true, recurses := true, named := ["unicode/utf8.first", "unicode/utf8.acceptRanges", "unicode.CaseRanges", "errors.errorType"], apart := false, laid := [("unicode/utf8.acceptRanges", laid_unicode_utf8_acceptRanges), ("errors.errorType", laid_errors_errorType), ("unicode.CaseRanges", laid_unicode_CaseRanges), ("unicode/utf8.first", laid_unicode_utf8_first)] }
def OuterOnlySaid : Prop := outerOnlyRow.holds Tryz.pinned (OpenSpec.ofChange outerOnlySpec)

/-- ITS FALSE NEIGHBOUR: 'it returns false'. Refute it at one input. -/
def outerOnlyWrong : ChangeSpec := { name := "outerOnly", fn := fun _ => fun
  | [d] => { results := [.lit (.bool false)], args := [d] }
  | _ => none }
def OuterOnlyWrongFalsely : Prop := outerOnlyRow.holds Tryz.pinned (OpenSpec.ofChange outerOnlyWrong)

/- THE SECOND FORM. 'bulk': how many values and letters a reading holds, each counted each time it is reached (what is shared counts as often as it is met; a slice's spare places count too). A statement '..UptoSaid' is the law's where the arguments, and the package variables that the reading takes, are together of bulk at most 1048576: NARROWER than '..Said'. Prove '..Said' where nothing that the law and all that it calls make is longer than what came in: it says more and counts as full. Else prove '..UptoSaid'. A law counts once. -/
mutual
def uptoBulk {H : Type} : DataW H → Nat
  | .lit (.string bytes) => bytes.length + 1
  | .lit _ => 1
  | .nil => 1
  | .ptr d => uptoBulk d + 1
  | .slice elems spare => uptoBulkAll elems + uptoBulkAll spare + 1
  | .agg parts => uptoBulkAll parts + 1
  | .iface _ d => uptoBulk d + 1
  | .map entries => uptoBulkEntries entries + 1
  | .held _ => 1
def uptoBulkAll {H : Type} : List (DataW H) → Nat
  | [] => 0
  | d :: r => uptoBulk d + uptoBulkAll r
def uptoBulkEntries {H : Type} : List (Lit × DataW H) → Nat
  | [] => 0
  | x :: r => uptoBulkEntry x + uptoBulkEntries r
def uptoBulkEntry {H : Type} : Lit × DataW H → Nat
  | (.string bytes, d) => bytes.length + uptoBulk d + 1
  | (_, d) => uptoBulk d + 1
 end
def uptoSmall : (H : Type) → List (DataW H) → Bool := fun _ ds => decide (uptoBulkAll ds ≤ 1048576)
def OpenSpec.upto (s : _root_.Go.ChangeSpec) : _root_.Go.OpenSpec := { _root_.Go.OpenSpec.ofChange s with cond := some uptoSmall }

/-- 'hollowaylaw11.OuterNumbers', WHERE WHAT IT READS IS OF BULK AT MOST 1048576: true; the input reads as it did. -/
def outerNumbersUptoRow : OpenClaim := { program := "ytompdfpjmdnhoaagreatdoor", sum := "24a8b1f1e4c32538fb58225f494470bc4e8ed2ae907c76929a096a506b3b3013", func := "holloway/hollowaylaw11.OuterNumbers", spec := "outerNumbers", inPlace := ["internal/abi.NoEscape", "internal/bytealg.IndexByteString", "internal/bytealg.MakeNoZero", "internal/reflectlite.ValueOf", "(internal/reflectlite.Value).Type", "(internal/reflectlite.Value).IsNil", "internal/reflectlite.TypeOf", "(internal/reflectlite.Value).Elem", "(internal/reflectlite.Value).Set"], unfollowed := true, recurses := true, named := ["unicode/utf8.first", "unicode/utf8.acceptRanges", "unicode.CaseRanges", "errors.errorType"], apart := false, laid := [("unicode/utf8.acceptRanges", laid_unicode_utf8_acceptRanges), ("errors.errorType", laid_errors_errorType), ("unicode.CaseRanges", laid_unicode_CaseRanges), ("unicode/utf8.first", laid_unicode_utf8_first)], narrowed := true }
def OuterNumbersUptoSaid : Prop := outerNumbersUptoRow.holds Tryz.pinned (OpenSpec.upto outerNumbersSpec)

/-- 'hollowaylaw11.OuterWords', WHERE WHAT IT READS IS OF BULK AT MOST 1048576: true; the input reads as it did. -/
def outerWordsUptoRow : OpenClaim := { program := "ytompdfpjmdnhoaagreatdoor", sum := "24a8b1f1e4c32538fb58225f494470bc4e8ed2ae907c76929a096a506b3b3013", func := "holloway/hollowaylaw11.OuterWords", spec := "outerWords", inPlace := ["internal/abi.NoEscape", "internal/bytealg.IndexByteString", "internal/bytealg.MakeNoZero", "internal/reflectlite.ValueOf", "(internal/reflectlite.Value).Type", "(internal/reflectlite.Value).IsNil", "internal/reflectlite.TypeOf", "(internal/reflectlite.Value).Elem", "(internal/reflectlite.Value).Set"], unfollowed := true, recurses := true, named := ["unicode/utf8.first", "unicode/utf8.acceptRanges", "unicode.CaseRanges", "errors.errorType"], apart := false, laid := [("unicode/utf8.acceptRanges", laid_unicode_utf8_acceptRanges), ("errors.errorType", laid_errors_errorType), ("unicode.CaseRanges", laid_unicode_CaseRanges), ("unicode/utf8.first", laid_unicode_utf8_first)], narrowed := true }
def OuterWordsUptoSaid : Prop := outerWordsUptoRow.holds Tryz.pinned (OpenSpec.upto outerWordsSpec)

/-- 'hollowaylaw11.OuterConstants', WHERE WHAT IT READS IS OF BULK AT MOST 1048576: true; the input reads as it did. -/
def outerConstantsUptoRow : OpenClaim := { program := "ytompdfpjmdnhoaagreatdoor", sum := "24a8b1f1e4c32538fb58225f494470bc4e8ed2ae907c76929a096a506b3b3013", func := "holloway/hollowaylaw11.OuterConstants", spec := "outerConstants", inPlace := ["internal/abi.NoEscape", "internal/bytealg.IndexByteString", "internal/bytealg.MakeNoZero", "internal/reflectlite.ValueOf", "(internal/reflectlite.Value).Type", "(internal/reflectlite.Value).IsNil", "internal/reflectlite.TypeOf", "(internal/reflectlite.Value).Elem", "(internal/reflectlite.Value).Set"], unfollowed := true, recurses := true, named := ["unicode/utf8.first", "unicode/utf8.acceptRanges", "unicode.CaseRanges", "errors.errorType"], apart := false, laid := [("unicode/utf8.acceptRanges", laid_unicode_utf8_acceptRanges), ("errors.errorType", laid_errors_errorType), ("unicode.CaseRanges", laid_unicode_CaseRanges), ("unicode/utf8.first", laid_unicode_utf8_first)], narrowed := true }
def OuterConstantsUptoSaid : Prop := outerConstantsUptoRow.holds Tryz.pinned (OpenSpec.upto outerConstantsSpec)

/-- 'hollowaylaw11.OuterIfs', WHERE WHAT IT READS IS OF BULK AT MOST 1048576: true; the input reads as it did. -/
def outerIfsUptoRow : OpenClaim := { program := "ytompdfpjmdnhoaagreatdoor", sum := "24a8b1f1e4c32538fb58225f494470bc4e8ed2ae907c76929a096a506b3b3013", func := "holloway/hollowaylaw11.OuterIfs", spec := "outerIfs", inPlace := ["internal/abi.NoEscape", "internal/bytealg.IndexByteString", "internal/bytealg.MakeNoZero", "internal/reflectlite.ValueOf", "(internal/reflectlite.Value).Type", "(internal/reflectlite.Value).IsNil", "internal/reflectlite.TypeOf", "(internal/reflectlite.Value).Elem", "(internal/reflectlite.Value).Set"], unfollowed := true, recurses := true, named := ["unicode/utf8.first", "unicode/utf8.acceptRanges", "unicode.CaseRanges", "errors.errorType"], apart := false, laid := [("unicode/utf8.acceptRanges", laid_unicode_utf8_acceptRanges), ("errors.errorType", laid_errors_errorType), ("unicode.CaseRanges", laid_unicode_CaseRanges), ("unicode/utf8.first", laid_unicode_utf8_first)], narrowed := true }
def OuterIfsUptoSaid : Prop := outerIfsUptoRow.holds Tryz.pinned (OpenSpec.upto outerIfsSpec)

/-- 'hollowaylaw11.OuterLoops', WHERE WHAT IT READS IS OF BULK AT MOST 1048576: true; the input reads as it did. -/
def outerLoopsUptoRow : OpenClaim := { program := "ytompdfpjmdnhoaagreatdoor", sum := "24a8b1f1e4c32538fb58225f494470bc4e8ed2ae907c76929a096a506b3b3013", func := "holloway/hollowaylaw11.OuterLoops", spec := "outerLoops", inPlace := ["internal/abi.NoEscape", "internal/bytealg.IndexByteString", "internal/bytealg.MakeNoZero", "internal/reflectlite.ValueOf", "(internal/reflectlite.Value).Type", "(internal/reflectlite.Value).IsNil", "internal/reflectlite.TypeOf", "(internal/reflectlite.Value).Elem", "(internal/reflectlite.Value).Set"], unfollowed := true, recurses := true, named := ["unicode/utf8.first", "unicode/utf8.acceptRanges", "unicode.CaseRanges", "errors.errorType"], apart := false, laid := [("unicode/utf8.acceptRanges", laid_unicode_utf8_acceptRanges), ("errors.errorType", laid_errors_errorType), ("unicode.CaseRanges", laid_unicode_CaseRanges), ("unicode/utf8.first", laid_unicode_utf8_first)], narrowed := true }
def OuterLoopsUptoSaid : Prop := outerLoopsUptoRow.holds Tryz.pinned (OpenSpec.upto outerLoopsSpec)

/-- 'hollowaylaw11.OuterExits', WHERE WHAT IT READS IS OF BULK AT MOST 1048576: true; the input reads as it did. -/
def outerExitsUptoRow : OpenClaim := { program := "ytompdfpjmdnhoaagreatdoor", sum := "24a8b1f1e4c32538fb58225f494470bc4e8ed2ae907c76929a096a506b3b3013", func := "holloway/hollowaylaw11.OuterExits", spec := "outerExits", inPlace := ["internal/abi.NoEscape", "internal/bytealg.IndexByteString", "internal/bytealg.MakeNoZero", "internal/reflectlite.ValueOf", "(internal/reflectlite.Value).Type", "(internal/reflectlite.Value).IsNil", "internal/reflectlite.TypeOf", "(internal/reflectlite.Value).Elem", "(internal/reflectlite.Value).Set"], unfollowed := true, recurses := true, named := ["unicode/utf8.first", "unicode/utf8.acceptRanges", "unicode.CaseRanges", "errors.errorType"], apart := false, laid := [("unicode/utf8.acceptRanges", laid_unicode_utf8_acceptRanges), ("errors.errorType", laid_errors_errorType), ("unicode.CaseRanges", laid_unicode_CaseRanges), ("unicode/utf8.first", laid_unicode_utf8_first)], narrowed := true }
def OuterExitsUptoSaid : Prop := outerExitsUptoRow.holds Tryz.pinned (OpenSpec.upto outerExitsSpec)

/-- 'hollowaylaw11.OuterRecurses', WHERE WHAT IT READS IS OF BULK AT MOST 1048576: true; the input reads as it did. -/
def outerRecursesUptoRow : OpenClaim := { program := "ytompdfpjmdnhoaagreatdoor", sum := "24a8b1f1e4c32538fb58225f494470bc4e8ed2ae907c76929a096a506b3b3013", func := "holloway/hollowaylaw11.OuterRecurses", spec := "outerRecurses", inPlace := ["internal/abi.NoEscape", "internal/bytealg.IndexByteString", "internal/bytealg.MakeNoZero", "internal/reflectlite.ValueOf", "(internal/reflectlite.Value).Type", "(internal/reflectlite.Value).IsNil", "internal/reflectlite.TypeOf", "(internal/reflectlite.Value).Elem", "(internal/reflectlite.Value).Set"], unfollowed := true, recurses := true, named := ["unicode/utf8.first", "unicode/utf8.acceptRanges", "unicode.CaseRanges", "errors.errorType"], apart := false, laid := [("unicode/utf8.acceptRanges", laid_unicode_utf8_acceptRanges), ("errors.errorType", laid_errors_errorType), ("unicode.CaseRanges", laid_unicode_CaseRanges), ("unicode/utf8.first", laid_unicode_utf8_first)], narrowed := true }
def OuterRecursesUptoSaid : Prop := outerRecursesUptoRow.holds Tryz.pinned (OpenSpec.upto outerRecursesSpec)

/-- 'hollowaylaw11.OuterTicks', WHERE WHAT IT READS IS OF BULK AT MOST 1048576: true; the input reads as it did. -/
def outerTicksUptoRow : OpenClaim := { program := "ytompdfpjmdnhoaagreatdoor", sum := "24a8b1f1e4c32538fb58225f494470bc4e8ed2ae907c76929a096a506b3b3013", func := "holloway/hollowaylaw11.OuterTicks", spec := "outerTicks", inPlace := ["internal/abi.NoEscape", "internal/bytealg.IndexByteString", "internal/bytealg.MakeNoZero", "internal/reflectlite.ValueOf", "(internal/reflectlite.Value).Type", "(internal/reflectlite.Value).IsNil", "internal/reflectlite.TypeOf", "(internal/reflectlite.Value).Elem", "(internal/reflectlite.Value).Set"], unfollowed := true, recurses := true, named := ["unicode/utf8.first", "unicode/utf8.acceptRanges", "unicode.CaseRanges", "errors.errorType"], apart := false, laid := [("unicode/utf8.acceptRanges", laid_unicode_utf8_acceptRanges), ("errors.errorType", laid_errors_errorType), ("unicode.CaseRanges", laid_unicode_CaseRanges), ("unicode/utf8.first", laid_unicode_utf8_first)], narrowed := true }
def OuterTicksUptoSaid : Prop := outerTicksUptoRow.holds Tryz.pinned (OpenSpec.upto outerTicksSpec)

/-- 'hollowaylaw11.OuterCatches', WHERE WHAT IT READS IS OF BULK AT MOST 1048576: true; the input reads as it did. -/
def outerCatchesUptoRow : OpenClaim := { program := "ytompdfpjmdnhoaagreatdoor", sum := "24a8b1f1e4c32538fb58225f494470bc4e8ed2ae907c76929a096a506b3b3013", func := "holloway/hollowaylaw11.OuterCatches", spec := "outerCatches", inPlace := ["internal/abi.NoEscape", "internal/bytealg.IndexByteString", "internal/bytealg.MakeNoZero", "internal/reflectlite.ValueOf", "(internal/reflectlite.Value).Type", "(internal/reflectlite.Value).IsNil", "internal/reflectlite.TypeOf", "(internal/reflectlite.Value).Elem", "(internal/reflectlite.Value).Set"], unfollowed := true, recurses := true, named := ["unicode/utf8.first", "unicode/utf8.acceptRanges", "unicode.CaseRanges", "errors.errorType"], apart := false, laid := [("unicode/utf8.acceptRanges", laid_unicode_utf8_acceptRanges), ("errors.errorType", laid_errors_errorType), ("unicode.CaseRanges", laid_unicode_CaseRanges), ("unicode/utf8.first", laid_unicode_utf8_first)], narrowed := true }
def OuterCatchesUptoSaid : Prop := outerCatchesUptoRow.holds Tryz.pinned (OpenSpec.upto outerCatchesSpec)

/-- 'hollowaylaw11.OuterForgets', WHERE WHAT IT READS IS OF BULK AT MOST 1048576: true; the input reads as it did. -/
def outerForgetsUptoRow : OpenClaim := { program := "ytompdfpjmdnhoaagreatdoor", sum := "24a8b1f1e4c32538fb58225f494470bc4e8ed2ae907c76929a096a506b3b3013", func := "holloway/hollowaylaw11.OuterForgets", spec := "outerForgets", inPlace := ["internal/abi.NoEscape", "internal/bytealg.IndexByteString", "internal/bytealg.MakeNoZero", "internal/reflectlite.ValueOf", "(internal/reflectlite.Value).Type", "(internal/reflectlite.Value).IsNil", "internal/reflectlite.TypeOf", "(internal/reflectlite.Value).Elem", "(internal/reflectlite.Value).Set"], unfollowed := true, recurses := true, named := ["unicode/utf8.first", "unicode/utf8.acceptRanges", "unicode.CaseRanges", "errors.errorType"], apart := false, laid := [("unicode/utf8.acceptRanges", laid_unicode_utf8_acceptRanges), ("errors.errorType", laid_errors_errorType), ("unicode.CaseRanges", laid_unicode_CaseRanges), ("unicode/utf8.first", laid_unicode_utf8_first)], narrowed := true }
def OuterForgetsUptoSaid : Prop := outerForgetsUptoRow.holds Tryz.pinned (OpenSpec.upto outerForgetsSpec)

/-- 'hollowaylaw11.OuterAllots', WHERE WHAT IT READS IS OF BULK AT MOST 1048576: true; the input reads as it did. -/
def outerAllotsUptoRow : OpenClaim := { program := "ytompdfpjmdnhoaagreatdoor", sum := "24a8b1f1e4c32538fb58225f494470bc4e8ed2ae907c76929a096a506b3b3013", func := "holloway/hollowaylaw11.OuterAllots", spec := "outerAllots", inPlace := ["internal/abi.NoEscape", "internal/bytealg.IndexByteString", "internal/bytealg.MakeNoZero", "internal/reflectlite.ValueOf", "(internal/reflectlite.Value).Type", "(internal/reflectlite.Value).IsNil", "internal/reflectlite.TypeOf", "(internal/reflectlite.Value).Elem", "(internal/reflectlite.Value).Set"], unfollowed := true, recurses := true, named := ["unicode/utf8.first", "unicode/utf8.acceptRanges", "unicode.CaseRanges", "errors.errorType"], apart := false, laid := [("unicode/utf8.acceptRanges", laid_unicode_utf8_acceptRanges), ("errors.errorType", laid_errors_errorType), ("unicode.CaseRanges", laid_unicode_CaseRanges), ("unicode/utf8.first", laid_unicode_utf8_first)], narrowed := true }
def OuterAllotsUptoSaid : Prop := outerAllotsUptoRow.holds Tryz.pinned (OpenSpec.upto outerAllotsSpec)

/-- 'hollowaylaw11.OuterOnly', WHERE WHAT IT READS IS OF BULK AT MOST 1048576: true; the input reads as it did. -/
def outerOnlyUptoRow : OpenClaim := { program := "ytompdfpjmdnhoaagreatdoor", sum := "24a8b1f1e4c32538fb58225f494470bc4e8ed2ae907c76929a096a506b3b3013", func := "holloway/hollowaylaw11.OuterOnly", spec := "outerOnly", inPlace := ["internal/abi.NoEscape", "internal/bytealg.IndexByteString", "internal/bytealg.MakeNoZero", "internal/reflectlite.ValueOf", "(internal/reflectlite.Value).Type", "(internal/reflectlite.Value).IsNil", "internal/reflectlite.TypeOf", "(internal/reflectlite.Value).Elem", "(internal/reflectlite.Value).Set"], unfollowed := true, recurses := true, named := ["unicode/utf8.first", "unicode/utf8.acceptRanges", "unicode.CaseRanges", "errors.errorType"], apart := false, laid := [("unicode/utf8.acceptRanges", laid_unicode_utf8_acceptRanges), ("errors.errorType", laid_errors_errorType), ("unicode.CaseRanges", laid_unicode_CaseRanges), ("unicode/utf8.first", laid_unicode_utf8_first)], narrowed := true }
def OuterOnlyUptoSaid : Prop := outerOnlyUptoRow.holds Tryz.pinned (OpenSpec.upto outerOnlySpec)

end Rows
end Go.Proofs.YtompdfpjmdnhoaaGreatDoor
