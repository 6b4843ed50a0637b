/-
  Chapter 3 (digits): the walk of DigitsOther.
-/
import Derived.Test.YtcfkhbkhejaegaaDoorDgG
import Derived.Deep.RegionWith
namespace Go.Proofs.YtcfkhbkhejaegaaDoor.Dg
open Go.RowKit

set_option maxRecDepth 100000 in
theorem other_bad (v b at_ d : Int) (hb : b < 2 ∨ 36 < b ∨ d < b ∨ 35 < d) (w : World) (hT : Tabs w) :
    Calls Tryd.prog 6 #[.int .i64 v, .int .i64 b, .int .i64 at_, .int .i64 d] w fun e w' => e = .returned (.bool true) ∧ Below w.heap.size w w' := by
  have HA := Lib.hid (alive_any w hT)
  clear hT
  by_cases h2 : b < 2
  rotate_left
  by_cases h3 : 36 < b
  rotate_left
  by_cases h4 : d < b
  rotate_left
  have h5 : 35 < d := by omega
  all_goals
    clear hb
    go_enter Tryd.func6, Tryd.ntmps6
    go_wp2_with fail
    refine HA.out.mono ?_
    rintro e w1 ⟨rfl, hb1⟩
    go_wp2_with fail
    go_ret
    exact ⟨rfl, hb1⟩

theorem ext_take (l : List UInt8) (k : Nat) : (⟨l.toArray⟩ : ByteArray).extract 0 k = ⟨(l.take k).toArray⟩ := by
  apply ByteArray.ext
  rw [ByteArray.data_extract]
  apply Array.ext'
  simp
theorem ext_drop (l : List UInt8) (k : Nat) : (⟨l.toArray⟩ : ByteArray).extract k l.length = ⟨(l.drop k).toArray⟩ := by
  apply ByteArray.ext
  rw [ByteArray.data_extract]
  apply Array.ext'
  simp
  exact List.take_of_length_le (by simp)
theorem app_str (a b : List UInt8) : (⟨a.toArray⟩ : ByteArray) ++ ⟨b.toArray⟩ = ⟨(a ++ b).toArray⟩ := by
  apply ByteArray.ext
  rw [ByteArray.data_append]
  simp

theorem below_of_draw' {B n : Nat} {w w' : World} (h : Below B (w.drewN n) w') : Below B w w' := ⟨h.os, h.tape, h.output, h.size, h.block⟩
theorem mid_str (l : List UInt8) (x : UInt8) (k : Nat) : (⟨l.toArray⟩ : ByteArray).extract 0 k ++ ⟨#[x]⟩ ++ (⟨l.toArray⟩ : ByteArray).extract k l.length = ⟨(l.take k ++ [x] ++ l.drop k).toArray⟩ := by
  rw [ext_take, ext_drop, show (⟨#[x]⟩ : ByteArray) = ⟨[x].toArray⟩ from rfl, app_str, app_str]

/-- What is read of a text that is no number. -/
theorem get_no (l : List UInt8) (b : Int) (hl : l.length ≤ 100000) (h : (getV l b).2 = false) (w : World) (hT : Tabs w) :
    Calls Tryd.prog 13 #[.string ⟨l.toArray⟩, .int .i64 b] w fun e w' => ∃ n : Int, e = .returned (.tuple #[.int .i64 n, .bool false]) ∧ Below w.heap.size w w' :=
  (get_any l b hl w hT).mono fun e w' hh => ⟨(getV l b).1, by rw [hh.1, h], hh.2⟩

/-- Where the digit is put. -/
theorem spot (a : Int) (n : Nat) : ∃ x : Int, ∃ k : Nat, a.tmod ((n : Int) + 1) = x ∧ -((n : Int) + 1) < x ∧ x < (n : Int) + 1 ∧ (x + (n : Int) + 1).tmod ((n : Int) + 1) = k ∧ (x + (n : Int) + 1) % ((n : Int) + 1) = k ∧ k ≤ n := by
  have h1 := Int.tmod_lt_of_pos a (show (0 : Int) < (n : Int) + 1 by omega)
  have h2 : -((n : Int) + 1) < a.tmod ((n : Int) + 1) := by
    have := Int.lt_tmod_of_pos a (show (0 : Int) < (n : Int) + 1 by omega)
    omega
  generalize a.tmod ((n : Int) + 1) = x at *
  have h3 := Int.emod_nonneg (x + (n : Int) + 1) (show ((n : Int) + 1) ≠ 0 by omega)
  have h4 := Int.emod_lt_of_pos (x + (n : Int) + 1) (show (0 : Int) < (n : Int) + 1 by omega)
  refine ⟨x, ((x + (n : Int) + 1) % ((n : Int) + 1)).toNat, rfl, h2, h1, ?_, by omega, by omega⟩
  rw [Int.tmod_eq_emod_of_nonneg (by omega)]
  omega

set_option maxHeartbeats 2000000 in
set_option maxRecDepth 100000 in
theorem other_walk (v b at_ : Int) (d : Nat) (hb : 2 ≤ b) (hb' : b ≤ 36) (hd : b ≤ d) (hd' : d ≤ 35) (h1 : -9223372036854775808 ≤ v) (h2 : v ≤ 9223372036854775807) (ha1 : -9223372036854775808 ≤ at_) (ha2 : at_ ≤ 9223372036854775807) (w : World) (hT : Tabs w) :
    Calls Tryd.prog 6 #[.int .i64 v, .int .i64 b, .int .i64 at_, .int .i64 d] w fun e w' => e = .returned (.bool true) ∧ Below w.heap.size w w' := by
  have HT := Lib.hid hT
  have HA := Lib.hid (alive_any w hT)
  clear hT
  have d1 : decide (b < 2) = false := by simpa using hb
  have d2 : decide (36 < b) = false := by simpa using hb'
  have d3 : decide ((d : Int) < b) = false := by simpa using hd
  have d4 : decide (35 < (d : Int)) = false := by simp; omega
  go_enter Tryd.func6, Tryd.ntmps6
  go_wp2_with fail
  refine HA.out.mono ?_
  rintro e w0 ⟨rfl, hb0⟩
  have HB0 := Lib.hid hb0
  have HP := Lib.hid (put_any v b h1 h2 w0)
  have hl0 := putV_small v b hb hb' h1 h2
  obtain ⟨c, r, hcr, -⟩ := putV_head v b hb hb'
  have HO := Lib.hid (fun k hk => get_other v b d k hb hd (by omega) hk)
  rw [hcr] at HP HO hl0
  have hput : putV (d : Int) 36 = [dig d] := by
    unfold putV
    rw [if_neg (by omega), if_neg (by omega), List.nil_append]
    exact putL_small 36 d (by omega)
  have hp36 := fun W => put_any (d : Int) 36 (by omega) (by omega) W
  rw [hput] at hp36
  have HP36 := Lib.hid hp36
  clear hb0 hcr hput hp36
  generalize dig d = x at *
  go_wp2_with fail
  refine HP.out.mono ?_
  rintro e w1 ⟨rfl, hb1⟩
  have HB1 := Lib.hid (HB0.out.trans (hb1.mono HB0.out.size))
  clear hb1 HP HB0 HA
  obtain ⟨y, k, e1, y1, y2, e2, e3, hk⟩ := spot at_ (c :: r).length
  have g0 : ∀ h, ((⟨(c :: r).toArray⟩ : ByteArray)[0]'h) = c := fun _ => rfl
  simp only [List.length_cons] at *
  push_cast at *
  by_cases hc : c = 45
  · subst hc
    by_cases hk0 : k = 0
    · subst hk0
      have hkr : (1 : Int) ≤ (r.length : Int) + 1 := by omega
      go_upto_region 9 with fail
      go_region_with ((go_at_call 15; refine (HP36.out _).mono ?_; rintro e w2 ⟨rfl, hb2⟩))
      have HB2 : Hid (Below w.heap.size w w2) := HB1.out.trans (Below.mono (below_of_draw' hb2) HB1.out.size)
      clear hb2
      have hms := mid_str (45 :: r) x 1
      obtain ⟨t, ht⟩ : ∃ t, t = (45 :: r).take 1 ++ [x] ++ (45 :: r).drop 1 := ⟨_, rfl⟩
      rw [← ht] at hms
      simp only [List.length_cons] at hms
      have HG := Lib.hid (fun W hTW => get_no t b (by rw [ht]; simp at hl0 ⊢; omega) (by rw [ht]; exact HO.out 1 (by simp)) W hTW)
      have HE := Lib.hid (fun W hTW => get_no [] b (by simp) (get_empty b) W hTW)
      have HM := Lib.hid (fun W hTW => get_no [45] b (by simp) (get_minus b) W hTW)
      clear HO e1 e2 e3 ht
      go_wp2_with fail
      refine (HG.out _ (HT.out.below HB2.out)).mono ?_
      rintro e w3 ⟨n3, rfl, hb3⟩
      have HB3 := Lib.hid (HB2.out.trans (hb3.mono HB2.out.size))
      clear hb3 HG
      go_wp2_with fail
      refine (HE.out _ (HT.out.below HB3.out)).mono ?_
      rintro e w4 ⟨n4, rfl, hb4⟩
      have HB4 := Lib.hid (HB3.out.trans (hb4.mono HB3.out.size))
      clear hb4 HE
      go_wp2_with fail
      refine (HM.out _ (HT.out.below HB4.out)).mono ?_
      rintro e w5 ⟨n5, rfl, hb5⟩
      have HB5 := Lib.hid (HB4.out.trans (hb5.mono HB4.out.size))
      clear hb5 HM
      go_wp2_with fail
      go_ret
      exact ⟨rfl, HB5.out⟩
    · have nk : ((k : Int) == 0) = false := by rw [beq_eq_false_iff_ne]; omega
      have hkr : (k : Int) ≤ (r.length : Int) + 1 := by omega
      go_upto_region 9 with fail
      go_region_with ((go_at_call 15; refine (HP36.out _).mono ?_; rintro e w2 ⟨rfl, hb2⟩))
      have HB2 : Hid (Below w.heap.size w w2) := HB1.out.trans (Below.mono (below_of_draw' hb2) HB1.out.size)
      clear hb2
      have hms := mid_str (45 :: r) x k
      obtain ⟨t, ht⟩ : ∃ t, t = (45 :: r).take k ++ [x] ++ (45 :: r).drop k := ⟨_, rfl⟩
      rw [← ht] at hms
      simp only [List.length_cons] at hms
      have HG := Lib.hid (fun W hTW => get_no t b (by rw [ht]; simp at hl0 ⊢; omega) (by rw [ht]; exact HO.out k (fun _ => hk0)) W hTW)
      have HE := Lib.hid (fun W hTW => get_no [] b (by simp) (get_empty b) W hTW)
      have HM := Lib.hid (fun W hTW => get_no [45] b (by simp) (get_minus b) W hTW)
      clear HO e1 e2 e3 ht
      go_wp2_with fail
      refine (HG.out _ (HT.out.below HB2.out)).mono ?_
      rintro e w3 ⟨n3, rfl, hb3⟩
      have HB3 := Lib.hid (HB2.out.trans (hb3.mono HB2.out.size))
      clear hb3 HG
      go_wp2_with fail
      refine (HE.out _ (HT.out.below HB3.out)).mono ?_
      rintro e w4 ⟨n4, rfl, hb4⟩
      have HB4 := Lib.hid (HB3.out.trans (hb4.mono HB3.out.size))
      clear hb4 HE
      go_wp2_with fail
      refine (HM.out _ (HT.out.below HB4.out)).mono ?_
      rintro e w5 ⟨n5, rfl, hb5⟩
      have HB5 := Lib.hid (HB4.out.trans (hb5.mono HB4.out.size))
      clear hb5 HM
      go_wp2_with fail
      go_ret
      exact ⟨rfl, HB5.out⟩
  · have nc : ((c.toNat : Int) == 45) = false := by rw [b8 c 45 45 rfl]; simpa using hc
    have hkr : (k : Int) ≤ (r.length : Int) + 1 := by omega
    go_upto_region 9 with fail
    go_region_with ((go_at_call 15; refine (HP36.out _).mono ?_; rintro e w2 ⟨rfl, hb2⟩))
    have HB2 : Hid (Below w.heap.size w w2) := HB1.out.trans (Below.mono (below_of_draw' hb2) HB1.out.size)
    clear hb2
    have hms := mid_str (c :: r) x k
    obtain ⟨t, ht⟩ : ∃ t, t = (c :: r).take k ++ [x] ++ (c :: r).drop k := ⟨_, rfl⟩
    rw [← ht] at hms
    simp only [List.length_cons] at hms
    have HG := Lib.hid (fun W hTW => get_no t b (by rw [ht]; simp at hl0 ⊢; omega) (by rw [ht]; exact HO.out k (fun h => absurd (Option.some.inj h) hc)) W hTW)
    have HE := Lib.hid (fun W hTW => get_no [] b (by simp) (get_empty b) W hTW)
    have HM := Lib.hid (fun W hTW => get_no [45] b (by simp) (get_minus b) W hTW)
    clear HO e1 e2 e3 ht
    go_wp2_with fail
    refine (HG.out _ (HT.out.below HB2.out)).mono ?_
    rintro e w3 ⟨n3, rfl, hb3⟩
    have HB3 := Lib.hid (HB2.out.trans (hb3.mono HB2.out.size))
    clear hb3 HG
    go_wp2_with fail
    refine (HE.out _ (HT.out.below HB3.out)).mono ?_
    rintro e w4 ⟨n4, rfl, hb4⟩
    have HB4 := Lib.hid (HB3.out.trans (hb4.mono HB3.out.size))
    clear hb4 HE
    go_wp2_with fail
    refine (HM.out _ (HT.out.below HB4.out)).mono ?_
    rintro e w5 ⟨n5, rfl, hb5⟩
    have HB5 := Lib.hid (HB4.out.trans (hb5.mono HB4.out.size))
    clear hb5 HM
    go_wp2_with fail
    go_ret
    exact ⟨rfl, HB5.out⟩

theorem other_any (v b at_ d : Int) (h1 : -9223372036854775808 ≤ v) (h2 : v ≤ 9223372036854775807) (ha1 : -9223372036854775808 ≤ at_) (ha2 : at_ ≤ 9223372036854775807) (w : World) (hT : Tabs w) :
    Calls Tryd.prog 6 #[.int .i64 v, .int .i64 b, .int .i64 at_, .int .i64 d] w fun e w' => e = .returned (.bool true) ∧ Below w.heap.size w w' := by
  by_cases h : b < 2 ∨ 36 < b ∨ d < b ∨ 35 < d
  · exact other_bad v b at_ d h w hT
  · obtain ⟨n, rfl⟩ : ∃ n : Nat, d = n := ⟨d.toNat, by omega⟩
    exact other_walk v b at_ n (by omega) (by omega) (by omega) (by omega) h1 h2 ha1 ha2 w hT
end Go.Proofs.YtcfkhbkhejaegaaDoor.Dg
