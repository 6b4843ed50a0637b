/-
  Lemmas on the way, for every input that they name: OqT.
-/
import Derived.Test.YtompdfpjmdnhoabGreatDoorRows
import Derived.PinnedBridge
import Derived.Lib.LaidCase
import Derived.LaidLaws
import Derived.LaidHandle
import Derived.Lib.LaidU8
import Derived.LaidMore
import Derived.Lay
import Derived.Stop.Joined
import Derived.Test.YtompdfpjmdnhoabGreatDoorQ34
import Derived.Test.YtompdfpjmdnhoabGreatDoorQ37
set_option linter.unusedVariables false
set_option linter.unusedSimpArgs false
set_option linter.deprecated false
namespace Go.Proofs.YtompdfpjmdnhoabGreatDoor.Ou
open Go.RowKit Go.Lib Go.Proofs.YtompdfpjmdnhoabGreatDoor.Ft Go.Proofs.YtompdfpjmdnhoabGreatDoor.Dg
theorem accept_eq : (Rows.laid_unicode_utf8_acceptRanges : DataW Unit) = acceptData := by kernel_rfl
theorem gErr : Tryz.prog.globalNamed "errors.errorType" = some 0 := by kernel_rfl
theorem rtIs : (Tryz.prog.cutTypes.find? (·.1 == "internal/reflectlite.rtype")).map (·.2) = some 176 := by kernel_rfl
theorem oneRow : ((List.range 234).filter fun t => Tryz.prog.rowNamed t [101, 114, 114, 111, 114]) = [86] := by kernel_rfl
theorem tSize : Tryz.prog.types.size = 234 := by kernel_rfl
theorem handle_of {W : World} (h : handlesMet Tryz.prog [("errors.errorType", Rows.laid_errors_errorType)] W) : HandleIs W := by
  obtain ⟨name, u, ty, e1, e2, e3, e4, e5⟩ := h _ (List.mem_singleton.2 rfl)
  have en : name = [101, 114, 114, 111, 114] := (Option.some.inj e1).symm
  subst en
  obtain rfl := Option.some.inj (rtIs.symm.trans e2)
  have hm : ty ∈ (List.range 234).filter fun t => Tryz.prog.rowNamed t [101, 114, 114, 111, 114] := List.mem_filter.2 ⟨List.mem_range.2 (by rw [← tSize]; exact e3), e4⟩
  rw [oneRow] at hm
  obtain rfl := List.mem_singleton.1 hm
  have hh : typeHandle Tryz.prog 86 = .pointer (some ⟨5, 86, none⟩) := by kernel_rfl
  rw [hh] at e5
  have e6 : W.var? Tryz.prog "errors.errorType" = some #[.iface 176 (.agg #[.pointer (some ⟨5, 86, none⟩)])] := e5
  have e7 := World.var?_cell gErr e6 0
  unfold HandleIs
  simpa using e7
def laidL : List (String × DataW Unit) := [("unicode/utf8.acceptRanges", Rows.laid_unicode_utf8_acceptRanges), ("unicode.CaseRanges", Rows.laid_unicode_CaseRanges), ("unicode/utf8.first", Rows.laid_unicode_utf8_first)]
def rowL : List (String × DataW Unit) := [("unicode/utf8.acceptRanges", Rows.laid_unicode_utf8_acceptRanges), ("errors.errorType", Rows.laid_errors_errorType), ("unicode.CaseRanges", Rows.laid_unicode_CaseRanges), ("unicode/utf8.first", Rows.laid_unicode_utf8_first)]
theorem ahead_of {W : World} (h : laidMetH Tryz.prog rowL W) : Ahead W W := by
  have h' : laidMet Tryz.prog laidL W ∧ handlesMet Tryz.prog [("errors.errorType", Rows.laid_errors_errorType)] W := h
  have r1 := Lib.laidMet.reads h'.1 (.head _)
  have r2 := Lib.laidMet.reads h'.1 (.tail _ (.head _))
  have r3 := Lib.laidMet.reads h'.1 (.tail _ (.tail _ (.head _)))
  rw [accept_eq] at r1
  have e2 : Rows.laid_unicode_CaseRanges = caseData := Pinned.caseRanges_eq
  have e3 : Rows.laid_unicode_utf8_first = firstData := Pinned.utf8First_eq
  rw [e2] at r2
  rw [e3] at r3
  exact ⟨handle_of h'.2, ⟨caseVar_of_reads (ρ := Tryz.lays158_ren) { Tryz.lays158 with } Tryz.lays158.t206 ⟨by kernel_rfl, by kernel_rfl, by kernel_rfl, by kernel_rfl, by kernel_rfl, by kernel_rfl⟩ r2,
    utf8Tabs_of_reads (ρ := Tryz.lays158_ren) { Tryz.lays158 with } ⟨by kernel_rfl, by kernel_rfl, by kernel_rfl, by kernel_rfl, by kernel_rfl, by kernel_rfl, by kernel_rfl⟩ r3 r1⟩, Nat.le_refl _, Below.refl _ _⟩
noncomputable def hold (os : Os) : World :=
  let w0 := World.holding Tryz.prog os ⟨#[], #[], []⟩
  { w0 with heap := w0.heap.modify 0 fun
      | .cells _ t frozen => .cells #[.iface 176 (.agg #[.pointer (some ⟨5, 86, none⟩)])] t frozen
      | o => o }
noncomputable def laidW (os : Os) : World := (hold os).layVars Tryz.prog laidL
theorem laidW_os (os : Os) : (laidW os).os = os := World.layVars_os _ _ _
theorem laid_met0 (os : Os) : laidMet Tryz.prog laidL (laidW os) := by
  have e1 : (laidL.filter fun x => (laidL.map (·.1)).contains x.1) = laidL := List.filter_eq_self.2 fun x hx => List.contains_iff_mem.2 (List.mem_map.2 ⟨x, hx, rfl⟩)
  have e2 : (laidL.filter fun x => !(laidL.map (·.1)).contains x.1) = [] := List.filter_eq_nil_iff.2 fun x hx => by rw [List.contains_iff_mem.2 (List.mem_map.2 ⟨x, hx, rfl⟩)]; simp
  exact laidMet_layVars (w0 := hold os) (laidL.map (·.1)) [] (by rw [e1]; rfl) (by rw [e1]; kernel_rfl) (by rw [e1]; kernel_rfl) (by rw [e2]; exact LaidIn.none)
theorem laid_met (os : Os) (args : Array Value) : laidMetH Tryz.prog rowL ((laidW os).forCall (fun _ _ => 0) ⟨#[], args, []⟩).memory :=
  laidMetH_of_parts ((laid_met0 os).of_heap (by simp [World.memory, World.forCall, Input.heap])) (by kernel_rfl)
end Go.Proofs.YtompdfpjmdnhoabGreatDoor.Ou
