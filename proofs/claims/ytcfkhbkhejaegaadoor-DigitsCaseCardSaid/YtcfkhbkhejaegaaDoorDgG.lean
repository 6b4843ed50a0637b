/-
  Chapter 3 (digits): the walk of DigitsBack.
-/
import Derived.Test.YtcfkhbkhejaegaaDoorDgF
namespace Go.Proofs.YtcfkhbkhejaegaaDoor.Dg
open Go.RowKit

theorem cons_str (c : UInt8) (l : List UInt8) : (⟨#[c]⟩ : ByteArray) ++ ⟨l.toArray⟩ = ⟨(c :: l).toArray⟩ := by rfl

set_option maxRecDepth 100000 in
theorem back_bad (v b : Int) (hb : b < 2 ∨ 36 < b) (w : World) (hT : Tabs w) :
    Calls Tryd.prog 4 #[.int .i64 v, .int .i64 b] w fun e w' => e = .returned (.bool true) ∧ Below w.heap.size w w' := by
  have HA := Lib.hid (alive_any w hT)
  clear hT
  by_cases h2 : b < 2
  rotate_left
  have h3 : 36 < b := by omega
  all_goals
    clear hb
    go_enter Tryd.func4, Tryd.ntmps4
    go_wp2_with fail
    refine HA.out.mono ?_
    rintro e w1 ⟨rfl, hb1⟩
    go_wp2_with fail
    go_ret
    exact ⟨rfl, hb1⟩

theorem putV_small (v b : Int) (hb : 2 ≤ b) (hb' : b ≤ 36) (h1 : -9223372036854775808 ≤ v) (h2 : v ≤ 9223372036854775807) : (putV v b).length ≤ 65 := by
  have hl := putL_len b.toNat (by omega) 64 v.natAbs (by omega)
  unfold putV
  rw [if_neg (by omega)]
  split <;> simp <;> omega

set_option maxRecDepth 100000 in
theorem back_walk (v b : Int) (hb : 2 ≤ b) (hb' : b ≤ 36) (h1 : -9223372036854775808 ≤ v) (h2 : v ≤ 9223372036854775807) (w : World) (hT : Tabs w) :
    Calls Tryd.prog 4 #[.int .i64 v, .int .i64 b] w fun e w' => e = .returned (.bool true) ∧ Below w.heap.size w w' := by
  have HT := Lib.hid hT
  have HA := Lib.hid (alive_any w hT)
  clear hT
  have d1 : decide (b < 2) = false := by simpa using hb
  have d2 : decide (36 < b) = false := by simpa using hb'
  go_enter Tryd.func4, Tryd.ntmps4
  go_wp2_with fail
  refine HA.out.mono ?_
  rintro e w0 ⟨rfl, hb0⟩
  have HB0 := Lib.hid hb0
  have HP := Lib.hid (put_any v b h1 h2 w0)
  have hl0 := putV_small v b hb hb' h1 h2
  have hg0 := fun W hTW => get_any (putV v b) b (by omega) W hTW
  rw [get_put v b hb hb' h1 h2] at hg0
  have HG0 := Lib.hid hg0
  clear hb0 hg0
  generalize putV v b = p0 at *
  go_wp2_with fail
  refine HP.out.mono ?_
  rintro e w1 ⟨rfl, hb1⟩
  have HB1 := Lib.hid (HB0.out.trans (hb1.mono HB0.out.size))
  clear hb1
  go_wp2_with fail
  refine (HG0.out _ (HT.out.below HB1.out)).mono ?_
  rintro e wa ⟨rfl, hba⟩
  have HBa := Lib.hid (HB1.out.trans (hba.mono HB1.out.size))
  clear hba HP HG0 HB0 HB1 HA
  have HP1 := Lib.hid (put_any v 16 h1 h2 wa)
  have hl1 := putV_small v 16 (by omega) (by omega) h1 h2
  have hg1 := fun W hTW => get_any (36 :: putV v 16) b (by simp; omega) W hTW
  rw [get_sign v b 16 36 hb hb' (by simp) h1 h2] at hg1
  have HG1 := Lib.hid hg1
  clear hg1
  generalize putV v 16 = p1 at *
  go_wp2_with fail
  refine HP1.out.mono ?_
  rintro e wp1 ⟨rfl, hbp1⟩
  have HB1a := Lib.hid (HBa.out.trans (hbp1.mono HBa.out.size))
  clear hbp1
  have hcs1 := cons_str 36 p1
  go_wp2_with fail
  refine (HG1.out _ (HT.out.below HB1a.out)).mono ?_
  rintro e wg1 ⟨rfl, hbg1⟩
  have HB1b := Lib.hid (HB1a.out.trans (hbg1.mono HB1a.out.size))
  clear hbg1 hcs1 HP1 HG1
  have HP2 := Lib.hid (put_any v 2 h1 h2 wg1)
  have hl2 := putV_small v 2 (by omega) (by omega) h1 h2
  have hg2 := fun W hTW => get_any (37 :: putV v 2) b (by simp; omega) W hTW
  rw [get_sign v b 2 37 hb hb' (by simp) h1 h2] at hg2
  have HG2 := Lib.hid hg2
  clear hg2
  generalize putV v 2 = p2 at *
  go_wp2_with fail
  refine HP2.out.mono ?_
  rintro e wp2 ⟨rfl, hbp2⟩
  have HB2a := Lib.hid (HB1b.out.trans (hbp2.mono HB1b.out.size))
  clear hbp2
  have hcs2 := cons_str 37 p2
  go_wp2_with fail
  refine (HG2.out _ (HT.out.below HB2a.out)).mono ?_
  rintro e wg2 ⟨rfl, hbg2⟩
  have HB2b := Lib.hid (HB2a.out.trans (hbg2.mono HB2a.out.size))
  clear hbg2 hcs2 HP2 HG2
  have HP3 := Lib.hid (put_any v 10 h1 h2 wg2)
  have hl3 := putV_small v 10 (by omega) (by omega) h1 h2
  have hg3 := fun W hTW => get_any (35 :: putV v 10) b (by simp; omega) W hTW
  rw [get_sign v b 10 35 hb hb' (by simp) h1 h2] at hg3
  have HG3 := Lib.hid hg3
  clear hg3
  generalize putV v 10 = p3 at *
  go_wp2_with fail
  refine HP3.out.mono ?_
  rintro e wp3 ⟨rfl, hbp3⟩
  have HB3a := Lib.hid (HB2b.out.trans (hbp3.mono HB2b.out.size))
  clear hbp3
  have hcs3 := cons_str 35 p3
  go_wp2_with fail
  refine (HG3.out _ (HT.out.below HB3a.out)).mono ?_
  rintro e wg3 ⟨rfl, hbg3⟩
  have HB3b := Lib.hid (HB3a.out.trans (hbg3.mono HB3a.out.size))
  clear hbg3 hcs3 HP3 HG3
  go_wp2_with fail
  go_ret
  exact ⟨rfl, HB3b.out⟩

theorem back_any (v b : Int) (h1 : -9223372036854775808 ≤ v) (h2 : v ≤ 9223372036854775807) (w : World) (hT : Tabs w) :
    Calls Tryd.prog 4 #[.int .i64 v, .int .i64 b] w fun e w' => e = .returned (.bool true) ∧ Below w.heap.size w w' := by
  by_cases h : b < 2 ∨ 36 < b
  · exact back_bad v b h w hT
  · exact back_walk v b (by omega) (by omega) h1 h2 w hT
end Go.Proofs.YtcfkhbkhejaegaaDoor.Dg
