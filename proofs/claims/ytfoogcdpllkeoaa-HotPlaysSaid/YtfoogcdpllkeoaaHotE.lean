/-
  Pass where only one number is counted; the walk of HotRounds.
-/
import Derived.Test.YtfoogcdpllkeoaaHotD
import Derived.WalkSmall
namespace Go.Proofs.Ytfoogcdpllkeoaa.Hot
open Go.RowKit Go.Maps

/-- Only ip is counted, c times. -/
def One (ip c : Int) : Dm := if c = 0 then .map [] else .map [(ky ip, lit64 c)]

theorem one_put (ip c d : Int) (hd : d ≠ 0) : (One ip c).put (ky ip) (lit64 d) = One ip d := by
  unfold One
  rw [if_neg hd]
  split
  · rfl
  · simp [DataW.put, DataW.insert, WideAt.sameKey_self (isKey ip)]
theorem one_del (ip c : Int) : (One ip c).del (ky ip) = One ip 0 := by
  unfold One
  rw [if_pos rfl]
  split
  · rfl
  · simp [DataW.del, WideAt.sameKey_self (isKey ip)]
theorem one_at (ip c : Int) : (One ip c).atKey (ky ip) (lit64 0) = lit64 c := by
  unfold One
  split
  · rename_i h; subst h; rfl
  · simp [DataW.atKey, WideAt.sameKey_self (isKey ip)]
theorem one_size (ip c : Int) : Maps.size (One ip c) ≤ 1 := by
  unfold One
  split <;> simp [Maps.size]

theorem pass_one (sb bm : Nat) (n ip c : Int) (w : World) (hh : HotIs w sb bm n (One ip c)) (hk : (Lit.int .i64 ip).wf = true) (h0 : 0 ≤ c) (h1 : c < n) (h2 : n ≤ 100) :
    Calls Try.prog 16 #[.pointer (some ⟨sb, 0, none⟩), .int .i64 ip] w fun e w' =>
      e = .returned (.bool (decide (c + 1 = n))) ∧ HotIs w' sb bm n (One ip (if c + 1 = n then 0 else c + 1)) ∧ w.grownBy w' (some bm) := by
  have hs := one_size ip c
  by_cases h : c + 1 = n
  · refine (pass_hi sb bm n ip c _ w hh hk (by have : (10 : Nat) < maxLen := by decide
                                               omega) (by omega) (one_at ip c) h0 (by omega) (by omega) (by omega)).mono ?_
    rintro e w' ⟨rfl, hh', hg⟩
    rw [one_put _ _ _ (by omega), one_del] at hh'
    exact ⟨by simp [h], by rw [if_pos h]; exact hh', hg⟩
  · refine (pass_lo sb bm n ip c _ w hh hk (by have : (10 : Nat) < maxLen := by decide
                                               omega) (by omega) (one_at ip c) h0 (by omega) (by omega)).mono ?_
    rintro e w' ⟨rfl, hh', hg⟩
    rw [one_put _ _ _ (by omega)] at hh'
    exact ⟨by simp [h], by rw [if_neg h]; exact hh', hg⟩

theorem mod_step (k n : Int) (hn : 1 ≤ n) : (k + 1) % n = if k % n + 1 = n then 0 else k % n + 1 := by
  have h1 := Int.emod_lt_of_pos k (show 0 < n by omega)
  have h2 := Int.emod_nonneg k (show n ≠ 0 by omega)
  split
  · rename_i h
    rw [Int.add_emod, show k % n = n - 1 by omega]
    by_cases hn1 : n = 1
    · subst hn1; rfl
    · rw [Int.emod_eq_of_lt (a := 1) (by omega) (by omega), show n - 1 + 1 = n by omega, Int.emod_self]
  · rename_i h
    rw [Int.add_emod]
    by_cases hn1 : n = 1
    · subst hn1; omega
    · rw [Int.emod_eq_of_lt (a := 1) (by omega) (by omega), Int.emod_eq_of_lt (by omega) (by omega)]

theorem quiet_same {P : Program} {f : FuncId} {args : Array Value} {w : World} {n : Nat} {v : Value}
    (h : Calls P f args (w.drewN n) fun e w' => e = .returned v ∧ w.drewN n = w') : Calls P f args (w.drewN n) fun e w'' => e = .returned v ∧ ∃ m, w'' = w.drewN m :=
  h.mono fun _ _ ⟨he, hm⟩ => ⟨he, n, hm.symm⟩

theorem HotIs.drewN {w : World} {sb bm : Nat} {h : Int} {D : Dm} (hh : HotIs w sb bm h D) (m : Nat) : HotIs (w.drewN m) sb bm h D := hh

theorem test_step (k n : Int) (hn : 1 ≤ n) : (!(decide ((k - 1) % n + 1 = n) == (k % n == 0))) = false := by
  have h := mod_step (k - 1) n hn
  rw [show k - 1 + 1 = k by omega] at h
  have h1 := Int.emod_nonneg (k - 1) (show n ≠ 0 by omega)
  rw [h]
  split
  · rename_i e; simp [e]
  · rename_i e
    have e2 : ((k - 1) % n + 1 == 0) = false := by simp; omega
    simp [e, e2]

theorem rounds_bad (n ip times : Int) (w : World) (h : n < 1 ∨ 100 < n ∨ times < 0 ∨ 500 < times) :
    Calls Try.prog 3 #[.int .i64 n, .int .i64 ip, .int .i64 times] w fun e w' => e = .returned (.bool true) ∧ Below w.heap.size w w' := by
  by_cases h1 : n < 1
  all_goals by_cases h2 : 100 < n
  all_goals by_cases h3 : times < 0
  all_goals by_cases h4 : 500 < times
  all_goals first | (exfalso; omega) | skip
  all_goals
    clear h
    go_enter Try.func3, Try.ntmps3
    go_wp2_with fail
    refine (alive_any _).mono ?_
    rintro e w1 ⟨rfl, hb⟩
    go_wp2_with fail
    go_ret
    exact ⟨rfl, hb⟩

theorem rounds_walk (n ip times : Int) (hip : (Lit.int .i64 ip).wf = true) (w : World) (h1 : 1 ≤ n) (h2 : n ≤ 100) (h3 : 0 ≤ times) (h4 : times ≤ 500) :
    Calls Try.prog 3 #[.int .i64 n, .int .i64 ip, .int .i64 times] w fun e w' => e = .returned (.bool true) ∧ Below w.heap.size w w' := by
  go_enter Try.func3, Try.ntmps3
  go_wp2_with fail
  refine (alive_any _).mono ?_
  rintro e w1 ⟨rfl, hb1⟩
  go_wp2_with fail
  refine (new_any n _).mono ?_
  rintro e w2 ⟨rfl, hh2, hb2, hs2⟩
  have hz := hb1.size
  have hz2 : w.heap.size ≤ w1.heap.size := hz
  go_wp2_with fail
  have Hb := Lib.hid (hb1.trans (hb2.mono hz))
  clear hb1 hb2
  generalize w1.heap.size + 1 = sb at *
  generalize w1.heap.size = bm at *
  go_loopw [8] (fun i wr => ∃ k : Int, i = .int .i64 k ∧ 1 ≤ k ∧ k ≤ times + 1 ∧ HotIs wr sb bm n (One ip ((k - 1) % n)) ∧ Hid (Below w.heap.size w wr)) (fun i _ => (times + 1 - intOf i).toNat)
  case atStart => exact ⟨1, rfl, by omega, by omega, hh2, Hb⟩
  case round =>
    obtain ⟨k, rfl, hk1, hk2, hh, hb⟩ := hrel
    have e1 := Lib.hid (mod_step (k - 1) n h1)
    have ht := test_step k n h1
    have b1 := Int.emod_nonneg (k - 1) (show n ≠ 0 by omega)
    have b2 := Int.emod_lt_of_pos (k - 1) (show 0 < n by omega)
    by_cases hk : k ≤ times
    · go_wp2_with fail
      go_region_with ((go_at_call 16; refine (pass_one sb bm n ip _ _ hh.drew hip b1 b2 h2).mono ?_; rintro e w' ⟨rfl, hh', hg'⟩))
      all_goals
        go_wp2
        go_roundw
        case rel =>
          have hz1 := (hb.out).size
          rw [← e1.out, show k - 1 + 1 = k + 1 - 1 by omega] at hh'
          exact ⟨k + 1, rfl, by omega, by omega, hh', hb.out.grown (grown_drew hg') hz1 (fun j e => by cases e; omega)⟩
        case measure => simp [intOf]; omega
    · obtain rfl : k = times + 1 := by omega
      go_wp2_with fail
      go_quiet ((go_at_call 17; exact quiet_same (count_is sb bm n ip _ _ _ (hh.drewN _) hip (one_at _ _))))
      go_wp2
      go_ret
      exact ⟨by simp, below_drewN hb.out _⟩

theorem rounds_any (n ip times : Int) (_ : (Lit.int .i64 n).wf = true) (hip : (Lit.int .i64 ip).wf = true) (_ : (Lit.int .i64 times).wf = true) (w : World) :
    Calls Try.prog 3 #[.int .i64 n, .int .i64 ip, .int .i64 times] w fun e w' => e = .returned (.bool true) ∧ Below w.heap.size w w' := by
  by_cases h : n < 1 ∨ 100 < n ∨ times < 0 ∨ 500 < times
  · exact rounds_bad n ip times w h
  · exact rounds_walk n ip times hip w (by omega) (by omega) (by omega) (by omega)

end Go.Proofs.Ytfoogcdpllkeoaa.Hot
