/-
  Chapter 2 (fault): from what the rows list to what the walks ask; a world that meets the rows' conditions.
-/
import Derived.Test.YtcfkhbkhejaegaaDoorFtL
import Derived.Test.YtcfkhbkhejaegaaDoorFtM
import Derived.Test.YtcfkhbkhejaegaaDoorRows
import Derived.LaidLaws
import Derived.LaidHandle
import Derived.Lib.LaidU8
import Derived.LaidMore
import Derived.Lay
import Derived.Stop.Joined
namespace Go.Proofs.YtcfkhbkhejaegaaDoor.Ft
open Go.RowKit Go.Lib

theorem gPow : Tryd.prog.globalNamed "internal/strconv.uint64pow10" = some 3 := by kernel_rfl
theorem gErr : Tryd.prog.globalNamed "errors.errorType" = some 0 := by kernel_rfl
theorem rtIs : (Tryd.prog.cutTypes.find? (·.1 == "internal/reflectlite.rtype")).map (·.2) = some 154 := by kernel_rfl
theorem oneRow : ((List.range 240).filter fun t => Tryd.prog.rowNamed t [101, 114, 114, 111, 114]) = [35] := by kernel_rfl
theorem tSize : Tryd.prog.types.size = 240 := by kernel_rfl
theorem pow_eq : (Rows.laid_internal_strconv_uint64pow10 : DataW Unit) = Lib.tabData .u64 Lib.pow10Tab := by kernel_rfl

theorem handle_of {W : World} (h : handlesMet Tryd.prog [("errors.errorType", Rows.laid_errors_errorType)] W) : HandleIs W := by
  obtain ⟨name, u, ty, e1, e2, e3, e4, e5⟩ := h _ (List.mem_singleton.2 rfl)
  have en : name = [101, 114, 114, 111, 114] := (Option.some.inj e1).symm
  subst en
  obtain rfl := Option.some.inj (rtIs.symm.trans e2)
  have hm : ty ∈ (List.range 240).filter fun t => Tryd.prog.rowNamed t [101, 114, 114, 111, 114] := List.mem_filter.2 ⟨List.mem_range.2 (by rw [← tSize]; exact e3), e4⟩
  rw [oneRow] at hm
  obtain rfl := List.mem_singleton.1 hm
  have hh : typeHandle Tryd.prog 35 = .pointer (some ⟨8, 35, none⟩) := by kernel_rfl
  rw [hh] at e5
  have e6 : W.var? Tryd.prog "errors.errorType" = some #[.iface 154 (.agg #[.pointer (some ⟨8, 35, none⟩)])] := e5
  have e7 := World.var?_cell gErr e6 0
  unfold HandleIs
  simpa using e7

theorem st_of {W : World} (h : laidMetH Tryd.prog Rows.faultTextsRow.laid W) : St W := by
  have h' : laidMet Tryd.prog [("math/bits.deBruijn32tab", Rows.laid_math_bits_deBruijn32tab), ("math/bits.deBruijn64tab", Rows.laid_math_bits_deBruijn64tab), ("internal/strconv.uint64pow10", Rows.laid_internal_strconv_uint64pow10)] W ∧
      handlesMet Tryd.prog [("errors.errorType", Rows.laid_errors_errorType)] W := h
  have r := Lib.laidMet.reads h'.1 (.tail _ (.tail _ (.head _)))
  rw [pow_eq] at r
  refine ⟨handle_of h'.2, ?_⟩
  obtain ⟨g', t', cs, fuel, p, hg', ht', hvar, hd⟩ := r
  obtain rfl := Option.some.inj (gPow.symm.trans hg')
  have hty : (Tryd.prog.globals[3]?).map (·.type) = some 194 := by kernel_rfl
  obtain rfl := Option.some.inj (hty.symm.trans ht')
  unfold Lib.TabIs
  rw [hvar, ← Lib.cells_of_tab Tryd.underlying194 Tryd.underlying70 (by kernel_rfl) (by kernel_rfl) hd]
theorem tells_laid {W : World} (h : laidMetH Tryd.prog Rows.faultTellsRow.laid W) : St W := st_of h
theorem handle_only {W : World} (h : laidMetH Tryd.prog Rows.faultWrapsRow.laid W) : HandleIs W := by
  have h' : laidMet Tryd.prog [] W ∧ handlesMet Tryd.prog [("errors.errorType", Rows.laid_errors_errorType)] W := h
  exact handle_of h'.2

noncomputable def laidW (os : Os) (l : List (String × DataW Unit)) : World :=
  let w0 := World.laidAll Tryd.prog os l
  { w0 with heap := w0.heap.modify 0 fun
      | .cells _ t frozen => .cells #[.iface 154 (.agg #[.pointer (some ⟨8, 35, none⟩)])] t frozen
      | o => o }
def tabs3 : List (String × DataW Unit) := [("math/bits.deBruijn32tab", Rows.laid_math_bits_deBruijn32tab), ("math/bits.deBruijn64tab", Rows.laid_math_bits_deBruijn64tab), ("internal/strconv.uint64pow10", Rows.laid_internal_strconv_uint64pow10)]
theorem laid_met (os : Os) (args : Array Value) : laidMetH Tryd.prog Rows.faultTextsRow.laid ((laidW os tabs3).forCall (fun _ _ => 0) ⟨#[], args, []⟩).memory :=
  laidMetH_of_parts (laidMet_of_run' 8 (by kernel_rfl) (by kernel_rfl)) (by kernel_rfl)
theorem laid_met0 (os : Os) (args : Array Value) : laidMetH Tryd.prog Rows.faultWrapsRow.laid ((laidW os []).forCall (fun _ _ => 0) ⟨#[], args, []⟩).memory :=
  laidMetH_of_parts (laidMet_nil _ _) (by kernel_rfl)
end Go.Proofs.YtcfkhbkhejaegaaDoor.Ft
