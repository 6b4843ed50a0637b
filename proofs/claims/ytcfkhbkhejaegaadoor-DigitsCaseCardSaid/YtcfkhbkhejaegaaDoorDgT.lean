/-
  Chapter 3 (digits): from what the rows list to the library's tables as the walks ask them.
-/
import Derived.Test.YtcfkhbkhejaegaaDoorDgE
import Derived.PinnedBridge
import Derived.Lib.LaidCase
import Derived.Lib.LaidU8
import Derived.LaidMore
import Derived.Lay
namespace Go.Proofs.YtcfkhbkhejaegaaDoor.Dg
open Go.RowKit Go.Lib

theorem accept_eq : (Rows.laid_unicode_utf8_acceptRanges : DataW Unit) = acceptData := by kernel_rfl
theorem tabs_of {W : World} (h : laidMetH Tryd.prog Rows.digitsTellRow.laid W) : Tabs W := by
  rw [MakeChecks.laidMetH_plain _ _ _ (by kernel_rfl)] at h
  have r1 := Lib.laidMet.reads h (.head _)
  have r2 := Lib.laidMet.reads h (.tail _ (.head _))
  have r3 := Lib.laidMet.reads h (.tail _ (.tail _ (.head _)))
  rw [accept_eq] at r1
  have e2 : Rows.laid_unicode_CaseRanges = caseData := Pinned.caseRanges_eq
  have e3 : Rows.laid_unicode_utf8_first = firstData := Pinned.utf8First_eq
  rw [e2] at r2
  rw [e3] at r3
  exact ⟨caseVar_of_reads (ρ := Tryd.lays158_ren) { Tryd.lays158 with } Tryd.lays158.t206 ⟨by kernel_rfl, by kernel_rfl, by kernel_rfl, by kernel_rfl, by kernel_rfl, by kernel_rfl⟩ r2,
    utf8Tabs_of_reads (ρ := Tryd.lays158_ren) { Tryd.lays158 with } ⟨by kernel_rfl, by kernel_rfl, by kernel_rfl, by kernel_rfl, by kernel_rfl, by kernel_rfl, by kernel_rfl⟩ r3 r1⟩
end Go.Proofs.YtcfkhbkhejaegaaDoor.Dg
