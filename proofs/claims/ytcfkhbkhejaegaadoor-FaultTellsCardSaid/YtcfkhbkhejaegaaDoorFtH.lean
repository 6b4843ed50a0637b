/-
  Chapter 2 (fault): Text, the document's text, Error.
-/
import Derived.Test.YtcfkhbkhejaegaaDoorFtG
namespace Go.Proofs.YtcfkhbkhejaegaaDoor.Ft
open Go.RowKit Go.Extern.Stop Go.Stop Go.Extern

set_option maxHeartbeats 4000000 in
set_option maxRecDepth 100000 in
theorem text_of (w : World) : ∀ q ∈ texts, Calls Tryd.prog 19 #[.int .i64 q.1] w fun e w' => e = .returned (.string ⟨q.2.toArray⟩) ∧ Below w.heap.size w w' := by
  intro q hq
  simp only [texts, List.mem_cons, List.not_mem_nil, or_false] at hq
  rcases hq with rfl | rfl | rfl | rfl | rfl | rfl | rfl | rfl | rfl | rfl | rfl | rfl | rfl
  all_goals
    go_enter Tryd.func19, Tryd.ntmps19
    go_wp2_with fail
    go_ret
    exact ⟨rfl, Below.refl _ _⟩

set_option maxHeartbeats 4000000 in
set_option maxRecDepth 100000 in
theorem text_any (code : Int) (a1 : -9223372036854775808 ≤ code) (a2 : code ≤ 9223372036854775807) (w : World) (hs : St w) :
    Calls Tryd.prog 19 #[.int .i64 code] w fun e w' => e = .returned (.string ⟨(textV code).toArray⟩) ∧ Below w.heap.size w w' := by
  rcases textV_cases code with ⟨p, hp, e1, e2⟩ | ⟨e1, e2⟩
  · rw [e2, ← e1]
    exact text_of w p hp
  · have HI := Lib.hid (itoa_any code a1 a2 w hs)
    have HV : Hid (textV code = throwB ++ Lib.itoa code) := e2
    simp only [texts, List.mem_cons, List.not_mem_nil, or_false, forall_eq_or_imp, forall_eq] at e1
    obtain ⟨n1, n2, n3, n4, n5, n6, n7, n8, n9, n10, n11, n12, n13⟩ := e1
    have m1 : (code == -3) = false := by simpa using Ne.symm n1
    have m2 : (code == -4) = false := by simpa using Ne.symm n2
    have m3 : (code == -5) = false := by simpa using Ne.symm n3
    have m4 : (code == -6) = false := by simpa using Ne.symm n4
    have m5 : (code == -8) = false := by simpa using Ne.symm n5
    have m6 : (code == -9) = false := by simpa using Ne.symm n6
    have m7 : (code == -10) = false := by simpa using Ne.symm n7
    have m8 : (code == -13) = false := by simpa using Ne.symm n8
    have m9 : (code == -14) = false := by simpa using Ne.symm n9
    have m10 : (code == -16) = false := by simpa using Ne.symm n10
    have m11 : (code == -22) = false := by simpa using Ne.symm n11
    have m12 : (code == -25) = false := by simpa using Ne.symm n12
    have m13 : (code == -57) = false := by simpa using Ne.symm n13
    clear n1 n2 n3 n4 n5 n6 n7 n8 n9 n10 n11 n12 n13 e2 hs
    have hl := Lib.itoa_length_le code a1 a2
    have hadd : ∀ W, (Op.stringOp .add ⟨throwB.toArray⟩ ⟨(Lib.itoa code).toArray⟩).run Tryd.prog W = .ok (.string ⟨(textV code).toArray⟩) W := fun W => by
      rw [HV.out]; exact run_string_add_lists W _ _ (by simp [throwB]) (by omega)
    unfold throwB at hadd
    clear hl
    go_enter Tryd.func19, Tryd.ntmps19
    go_wp2_with fail
    refine HI.out.mono ?_
    rintro e w' ⟨rfl, hb⟩
    have HB := Lib.hid hb
    clear hb HI
    go_wp2_with fail
    go_ret
    exact ⟨rfl, HB.out⟩
end Go.Proofs.YtcfkhbkhejaegaaDoor.Ft
