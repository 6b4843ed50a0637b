/-
  Lemmas on the way, for every input that they name: RvP.
-/
import Derived.Test.YtndjbjhgkggeiaaQ18
set_option linter.unusedVariables false
set_option linter.unusedSimpArgs false
set_option linter.deprecated false
namespace Go.Proofs.Ytndjbjhgkggeiaa.Rv
open Go.RowKit Go.Proofs.Ytndjbjhgkggeiaa.Wv
theorem op_nil (o : Int) (w : World) : Calls Try.prog 8 #[.pointer none, .int .i64 o] w fun e w' => e = .returned (.int .i64 (-13)) ∧ w = w' := by
  go_enter Try.func8, Try.ntmps8
  go_wp2_with fail
  go_ret
  exact ⟨rfl, rfl⟩
theorem arg_nil (o v : Int) (w : World) : Calls Try.prog 10 #[.pointer none, .int .i64 o, .int .i64 v] w fun e w' => e = .returned (.int .i64 (-13)) ∧ w = w' := by
  go_enter Try.func10, Try.ntmps10
  go_wp2_with fail
  go_ret
  exact ⟨rfl, rfl⟩
theorem call_nil (x : Int) (w : World) : Calls Try.prog 12 #[.pointer none, .int .i64 x] w fun e w' => e = .returned (.int .i64 (-13)) ∧ w = w' := by
  go_enter Try.func12, Try.ntmps12
  go_wp2_with fail
  go_ret
  exact ⟨rfl, rfl⟩
theorem form_nil (s : ByteArray) (hs : s.size ≤ 100000) (w : World) : Calls Try.prog 14 #[.pointer none, .string s] w fun e w' => e = .returned (.int .i64 (-13)) ∧ Below w.heap.size w w' := by
  go_enter Try.func14, Try.ntmps14
  go_wp2_with fail
  refine (Wv.great_any s _ hs).mono ?_
  rintro e w1 ⟨rfl, hb⟩
  go_wp2_with fail
  go_ret
  exact ⟨rfl, hb⟩
theorem mem_nil (w : World) : Calls Try.prog 16 #[.pointer none] w fun e w' => e = .returned (.slice none 0 0) ∧ w = w' := by
  go_enter Try.func16, Try.ntmps16
  go_wp2_with fail
  go_ret
  exact ⟨rfl, rfl⟩
end Go.Proofs.Ytndjbjhgkggeiaa.Rv
