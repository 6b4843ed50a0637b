/-
  Chapter 2 (fault): FaultTexts, the walk.
-/
import Derived.Test.YtcfkhbkhejaegaaDoorFtK
namespace Go.Proofs.YtcfkhbkhejaegaaDoor.Ft
open Go.RowKit Go.Extern.Stop Go.Stop Go.Extern

set_option maxHeartbeats 4000000 in
set_option maxRecDepth 100000 in
theorem texts_walk (a b : Int) (a1 : -9223372036854775808 ≤ a) (a2 : a ≤ 9223372036854775807) (b1 : -9223372036854775808 ≤ b) (b2 : b ≤ 9223372036854775807) (w : World) (hs : St w) :
    Calls Tryd.prog 7 #[.int .i64 a, .int .i64 b] w fun e w' => e = .returned (.bool true) ∧ Below w.heap.size w w' := by
  have HS := Lib.hid hs
  have hEq : ((⟨(textV a).toArray⟩ : ByteArray).toList == (⟨(textV b).toArray⟩ : ByteArray).toList) = (a == b) := by
    rw [ByteArray.toList_eq, ByteArray.toList_eq]
    by_cases h : a = b
    · subst h; simp
    · rw [show (a == b) = false by simpa using h, beq_eq_false_iff_ne]
      intro h2
      exact h (textV_inj a1 a2 b1 b2 (by simpa using h2))
  have hNe : (⟨(textV a).toArray⟩ : ByteArray).toList.isEmpty = false := by
    rw [ByteArray.toList_eq]
    simpa using textV_ne a
  have HT1 := Lib.hid (fun (W : World) (h : St W) => text_any a a1 a2 W h)
  have HT2 := Lib.hid (fun (W : World) (h : St W) => text_any b b1 b2 W h)
  clear hs a1 a2 b1 b2
  generalize (⟨(textV a).toArray⟩ : ByteArray) = A at *
  generalize (⟨(textV b).toArray⟩ : ByteArray) = B at *
  go_enter Tryd.func7, Tryd.ntmps7
  go_wp2_with fail
  refine (alive_any w HS.out.handle).mono ?_
  rintro e w1 ⟨rfl, h1⟩
  have B1 := Lib.hid h1
  clear h1
  go_wp2_with fail
  refine (HT1.out w1 (HS.out.below B1.out)).mono ?_
  rintro e w2 ⟨rfl, h1⟩
  have B2 := Lib.hid (B1.out.trans (h1.mono B1.out.size))
  clear h1 B1
  go_wp2_with fail
  refine (HT2.out w2 (HS.out.below B2.out)).mono ?_
  rintro e w3 ⟨rfl, h1⟩
  have B3 := Lib.hid (B2.out.trans (h1.mono B2.out.size))
  clear h1 B2
  go_wp2_with fail
  refine (HT1.out w3 (HS.out.below B3.out)).mono ?_
  rintro e w4 ⟨rfl, h1⟩
  have B4 := Lib.hid (B3.out.trans (h1.mono B3.out.size))
  clear h1 B3
  go_wp2_with fail
  go_ret
  exact ⟨rfl, B4.out⟩
end Go.Proofs.YtcfkhbkhejaegaaDoor.Ft
