/-
  Chapter 3 (digits): the first calls (alive); the walks of DigitsTell, DigitsBack.
-/
import Derived.Test.YtcfkhbkhejaegaaDoorDgE
import Derived.KernelRfl
namespace Go.Proofs.YtcfkhbkhejaegaaDoor.Dg
open Go.RowKit

theorem al1 : getV [36, 45, 102, 70] 10 = (-255, true) := by kernel_rfl
theorem al2 : putV (-255) 16 = [45, 70, 70] := by simp [putV, putL, dig]

set_option maxRecDepth 100000 in
theorem alive_any (w : World) (hT : Tabs w) : Calls Tryd.prog 12 #[] w fun e w' => e = .returned (.bool true) ∧ Below w.heap.size w w' := by
  have H1 := get_any [36, 45, 102, 70] 10 (by simp) w hT
  rw [al1] at H1
  have H1 := Lib.hid H1
  go_enter Tryd.func12, Tryd.ntmps12
  go_wp2_with fail
  refine H1.out.mono ?_
  rintro e w1 ⟨rfl, hb1⟩
  have H2 := put_any (-255) 16 (by omega) (by omega) w1
  rw [al2] at H2
  have H2 := Lib.hid H2
  have HB1 := Lib.hid hb1
  clear hb1
  go_wp2_with fail
  refine H2.out.mono ?_
  rintro e w2 ⟨rfl, hb2⟩
  have HB2 := Lib.hid (HB1.out.trans (hb2.mono HB1.out.size))
  clear hb2
  go_wp2_with fail
  refine (right_yes 36 (by omega) (by omega) _).mono ?_
  rintro e w3 ⟨rfl, rfl⟩
  go_wp2_with fail
  refine (right_no 1 (by omega) _).mono ?_
  rintro e w3 ⟨rfl, rfl⟩
  go_wp2_with fail
  go_ret
  exact ⟨rfl, HB2.out⟩

theorem right_any (b : Int) (w : World) : Calls Tryd.prog 17 #[.int .i64 b] w fun e w' => e = .returned (.bool (decide (2 ≤ b) && decide (b ≤ 36))) ∧ w = w' := by
  by_cases h : b < 2 ∨ 36 < b
  · refine (right_no b h w).mono ?_
    rintro e w' ⟨rfl, rfl⟩
    refine ⟨?_, rfl⟩
    rcases h with h | h
    · rw [decide_eq_false (by omega)]; rfl
    · rw [decide_eq_false (p := b ≤ 36) (by omega), Bool.and_false]
  · refine (right_yes b (by omega) (by omega) w).mono ?_
    rintro e w' ⟨rfl, rfl⟩
    exact ⟨by rw [decide_eq_true (by omega), decide_eq_true (by omega)]; rfl, rfl⟩

set_option maxRecDepth 100000 in
theorem tell_walk (v b : Int) (s : ByteArray) (h1 : -9223372036854775808 ≤ v) (h2 : v ≤ 9223372036854775807) (w : World) (hsm : s.size ≤ maxLen) (hT : Tabs w) :
    Calls Tryd.prog 3 #[.int .i64 v, .int .i64 b, .string s] w fun e w' => e = .returned (.bool true) ∧ Below w.heap.size w w' := by
  have HT := Lib.hid hT
  have HA := Lib.hid (alive_any w hT)
  clear hT
  unfold maxLen at hsm
  by_cases hs : 200 < s.size
  · have hs' : 200 < (s.size : Int) := by omega
    go_enter Tryd.func3, Tryd.ntmps3
    go_wp2_with fail
    refine HA.out.mono ?_
    rintro e w1 ⟨rfl, hb1⟩
    go_wp2_with fail
    go_ret
    exact ⟨rfl, hb1⟩
  · have hs' : s.size ≤ 200 := by omega
    obtain ⟨l, hl⟩ : ∃ l, l = s.data.toList := ⟨_, rfl⟩
    have hsl : s = ⟨l.toArray⟩ := by rw [hl]
    have hlen : l.length ≤ 200 := by rw [hl]; exact hs'
    subst hsl
    clear hsm
    clear hl hs hs'
    go_enter Tryd.func3, Tryd.ntmps3
    go_wp2_with fail
    refine HA.out.mono ?_
    rintro e w1 ⟨rfl, hb1⟩
    have HB1 := Lib.hid hb1
    have HG := Lib.hid (get_any l b (by omega) w1 (HT.out.below hb1))
    have hrg : ∀ W, _ := fun W => rget_any l b (by omega) W
    have HR := Lib.hid hrg
    clear hb1 hrg
    generalize getV l b = G at *
    go_wp2_with fail
    refine HG.out.mono ?_
    rintro e w2 ⟨rfl, hb2⟩
    have HB2 := Lib.hid (HB1.out.trans (hb2.mono HB1.out.size))
    clear hb2
    go_wp2_with fail
    refine (HR.out _).mono ?_
    rintro e w3 ⟨rfl, rfl⟩
    have HP := Lib.hid (put_any v b h1 h2 w2)
    have hq : ∀ W, _ := fun W => rput_any v b h1 h2 W
    have HQ := Lib.hid hq
    clear hq
    generalize putV v b = p at *
    obtain ⟨G1, G2⟩ := G
    simp only
    go_wp2_with fail
    refine HP.out.mono ?_
    rintro e w3 ⟨rfl, hb3⟩
    have HB3 := Lib.hid (HB2.out.trans (hb3.mono HB2.out.size))
    clear hb3
    go_wp2_with fail
    refine (HQ.out _).mono ?_
    rintro e w4 ⟨rfl, rfl⟩
    go_wp2_with fail
    refine (right_any b _).mono ?_
    rintro e w4 ⟨rfl, rfl⟩
    go_wp2_with fail
    all_goals
      go_ret
      refine ⟨?_, HB3.out⟩
      refine congrArg Ending.returned (congrArg Value.bool ?_)
      simp_all
end Go.Proofs.YtcfkhbkhejaegaaDoor.Dg
