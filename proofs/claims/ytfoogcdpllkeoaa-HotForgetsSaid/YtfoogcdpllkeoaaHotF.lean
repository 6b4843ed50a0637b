/-
  The walk of HotForgets.
-/
import Derived.Test.YtfoogcdpllkeoaaHotE
namespace Go.Proofs.Ytfoogcdpllkeoaa.Hot
open Go.RowKit Go.Maps

theorem forgets_bad (n ip a b : Int) (w : World) (h : n < 2 ∨ 100 < n ∨ a < 0 ∨ b < 0 ∨ n ≤ a ∨ n ≤ b) :
    Calls Try.prog 6 #[.int .i64 n, .int .i64 ip, .int .i64 a, .int .i64 b] w fun e w' => e = .returned (.bool true) ∧ Below w.heap.size w w' := by
  by_cases h1 : n < 2
  rotate_left
  by_cases h2 : 100 < n
  rotate_left
  by_cases h3 : a < 0
  rotate_left
  by_cases h4 : b < 0
  rotate_left
  by_cases h5 : n ≤ a
  rotate_left
  have h6 : n ≤ b := by omega
  all_goals
    clear h
    go_enter Try.func6, Try.ntmps6
    go_wp2_with fail
    refine (alive_any _).mono ?_
    rintro e w1 ⟨rfl, hb⟩
    go_wp2_with fail
    go_ret
    exact ⟨rfl, hb⟩

theorem forgets_walk (n ip a b : Int) (hip : (Lit.int .i64 ip).wf = true) (w : World) (h1 : 2 ≤ n) (h2 : n ≤ 100) (h3 : 0 ≤ a) (h4 : 0 ≤ b) (h5 : a < n) (h6 : b < n) :
    Calls Try.prog 6 #[.int .i64 n, .int .i64 ip, .int .i64 a, .int .i64 b] w fun e w' => e = .returned (.bool true) ∧ Below w.heap.size w w' := by
  go_enter Try.func6, Try.ntmps6
  go_wp2_with fail
  refine (alive_any _).mono ?_
  rintro e w1 ⟨rfl, hb1⟩
  go_wp2_with fail
  refine (new_any n _).mono ?_
  rintro e w2 ⟨rfl, hh2, hb2, hs2⟩
  have hz := hb1.size
  have hz2 : w.heap.size ≤ w1.heap.size := hz
  go_wp2_with fail
  have Hb := Lib.hid (hb1.trans (hb2.mono hz))
  clear hb1 hb2
  generalize w1.heap.size + 1 = sb at *
  generalize w1.heap.size = bm at *
  go_loopw [10] (fun i wr => ∃ k : Int, i = .int .i64 k ∧ 0 ≤ k ∧ k ≤ a ∧ HotIs wr sb bm n (One ip k) ∧ Hid (Below w.heap.size w wr)) (fun i _ => (a - intOf i).toNat)
  case atStart => exact ⟨0, rfl, by omega, by omega, hh2, Hb⟩
  case round =>
    obtain ⟨k, rfl, hk1, hk2, hh, hb⟩ := hrel
    by_cases hk : k < a
    · have ht : decide (k + 1 = n) = false := by simp; omega
      have hif : (if k + 1 = n then 0 else k + 1) = k + 1 := by rw [if_neg (by omega)]
      have hpass := pass_one sb bm n ip k wr hh hip hk1 (by omega) h2
      rw [ht, hif] at hpass
      have H := Lib.hid hpass
      clear hpass ht hif
      go_wp2_with fail
      refine H.out.mono ?_
      rintro e w' ⟨rfl, hh', hg'⟩
      go_wp2_with fail
      go_roundw
      case rel =>
        have hz1 := (hb.out).size
        exact ⟨k + 1, rfl, by omega, by omega, hh', hb.out.grown hg' hz1 (fun j e => by cases e; omega)⟩
      case measure => simp [intOf]; omega
    · obtain rfl : k = a := by omega
      go_wp2_with fail
      refine (forget_any sb bm n ip _ _ hh hip).mono ?_
      rintro e w3 ⟨rfl, hh3, ht3⟩
      rw [one_del] at hh3
      have hz3 := hb.out.size
      have Hb3 := Lib.hid (hb.out.grown ht3.grown hz3 (fun j e => by cases e; omega))
      clear hb
      go_wp2_with fail
      go_loopw [11] (fun i wr => ∃ k : Int, i = .int .i64 k ∧ 0 ≤ k ∧ k ≤ b ∧ HotIs wr sb bm n (One ip k) ∧ Hid (Below w.heap.size w wr)) (fun i _ => (b - intOf i).toNat)
      case atStart => exact ⟨0, rfl, by omega, by omega, hh3, Hb3⟩
      case round =>
        obtain ⟨k, rfl, hk1, hk2, hh, hb⟩ := hrel
        by_cases hk : k < b
        · have ht : decide (k + 1 = n) = false := by simp; omega
          have hif : (if k + 1 = n then 0 else k + 1) = k + 1 := by rw [if_neg (by omega)]
          have hpass := pass_one sb bm n ip k wr hh hip hk1 (by omega) h2
          rw [ht, hif] at hpass
          have H := Lib.hid hpass
          clear hpass ht hif
          go_wp2_with fail
          refine H.out.mono ?_
          rintro e w' ⟨rfl, hh', hg'⟩
          go_wp2_with fail
          go_roundw
          case rel =>
            have hz1 := (hb.out).size
            exact ⟨k + 1, rfl, by omega, by omega, hh', hb.out.grown hg' hz1 (fun j e => by cases e; omega)⟩
          case measure => simp [intOf]; omega
        · obtain rfl : k = b := by omega
          go_wp2_with fail
          refine (count_is sb bm n ip k _ _ hh hip (one_at _ _)).mono ?_
          rintro e w' ⟨rfl, rfl⟩
          go_wp2_with fail
          go_ret
          exact ⟨by simp, hb.out⟩

theorem forgets_any (n ip a b : Int) (_ : (Lit.int .i64 n).wf = true) (hip : (Lit.int .i64 ip).wf = true) (_ : (Lit.int .i64 a).wf = true) (_ : (Lit.int .i64 b).wf = true) (w : World) :
    Calls Try.prog 6 #[.int .i64 n, .int .i64 ip, .int .i64 a, .int .i64 b] w fun e w' => e = .returned (.bool true) ∧ Below w.heap.size w w' := by
  by_cases h : n < 2 ∨ 100 < n ∨ a < 0 ∨ b < 0 ∨ n ≤ a ∨ n ≤ b
  · exact forgets_bad n ip a b w h
  · exact forgets_walk n ip a b hip w (by omega) (by omega) (by omega) (by omega) (by omega) (by omega)

end Go.Proofs.Ytfoogcdpllkeoaa.Hot
