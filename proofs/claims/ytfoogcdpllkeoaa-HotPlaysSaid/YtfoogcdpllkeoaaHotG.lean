/-
  The walk of HotFull: the plain part (what Pass makes of the counts) and the walk.
-/
import Derived.Test.YtfoogcdpllkeoaaHotE
namespace Go.Proofs.Ytfoogcdpllkeoaa.Hot
open Go.RowKit Go.Maps

theorem ky_ne {a b : Int} (h : a ≠ b) : ky a ≠ ky b := fun e => h (by injection e)

/-- Behind k others: 7777 was passed 'often' times, the last 31 of the others once. -/
structure FullIs (D : Dm) (often k : Int) : Prop where
  tidy : Tidy D
  at7 : At D 7777 often
  at1 : ∀ j, 0 ≤ j → k - 31 ≤ j → j < k → At D j 1
  only : ∀ j, Maps.has D (ky j) = true → j = 7777 ∨ (0 ≤ j ∧ k - 31 ≤ j ∧ j < k)
  size : (Maps.size D : Int) = min k 31 + 1

theorem at_put_same {D : Dm} (h : IsMap D) (k c : Int) : At (D.put (ky k) (lit64 c)) k c := fun _ => atKey_put_same h (isKey k) _ _
theorem at_put_other {D : Dm} {k j c d : Int} (h : j ≠ k) (ha : At D j c) : At (D.put (ky k) (lit64 d)) j c := fun z => (atKey_put_other (ky_ne h) _ z).trans (ha z)
theorem at_del_other {D : Dm} {k j c : Int} (h : j ≠ k) (ha : At D j c) : At (D.del (ky k)) j c := fun z => (atKey_del_other (ky_ne h) z).trans (ha z)
theorem at_inj {D : Dm} {k a b : Int} (h : At D k a) (h' : At D k b) : a = b := lit64_inj ((h .nil).symm.trans (h' .nil))

theorem full_start {often : Int} (h : often ≠ 0) : FullIs (One 7777 often) often 0 := by
  unfold One
  rw [if_neg h]
  refine ⟨⟨_, rfl, by simp⟩, fun z => by simp [DataW.atKey, WideAt.sameKey_self (isKey 7777)], fun j _ _ _ => by omega, fun j hj => Or.inl ?_, by simp [Maps.size]; omega⟩
  simp [Maps.has] at hj
  have := WideAt.sameKey_eq hj
  injection this with _ this
  exact this.symm

theorem full_step {D D' : Dm} {n often k : Int} {b : Bool} (hF : FullIs D often k) (hp : Passed D n k b D') (hk0 : 0 ≤ k) (hk1 : k ≤ 200) (ho : 2 ≤ often) (hn : 40 ≤ n) : b = false ∧ FullIs D' often (k + 1) := by
  obtain ⟨D1, c, he, hat, hwc, hc⟩ := hp
  have hnk : Maps.has D (ky k) = false := by
    cases hh : Maps.has D (ky k)
    · rfl
    · have := hF.only k hh; omega
  have hD1 : Tidy D1 ∧ At D1 7777 often ∧ (∀ j, 0 ≤ j → k + 1 - 31 ≤ j → j < k → At D1 j 1) ∧ (∀ j, Maps.has D1 (ky j) = true → j = 7777 ∨ (0 ≤ j ∧ k + 1 - 31 ≤ j ∧ j < k)) ∧ (Maps.size D1 : Int) = min (k + 1) 31 ∧ Maps.has D1 (ky k) = false := by
    unfold Evict at he
    have hs := hF.size
    by_cases h31 : k < 31
    · rw [if_neg (by omega)] at he
      subst he
      exact ⟨hF.tidy, hF.at7, fun j a1 a2 a3 => hF.at1 j a1 (by omega) a3, fun j hj => by have := hF.only j hj; omega, by omega, hnk⟩
    · rw [if_pos ⟨hnk, by omega⟩] at he
      obtain ⟨k0, hl, rfl⟩ := he
      have hmine : At D (k - 31) 1 := hF.at1 _ (by omega) (by omega) (by omega)
      have hk : k0 = k - 31 := by
        obtain ⟨_, m0, x1, x2, x3⟩ := hl
        have y1 := x3 (k - 31) 1 (at_has hmine) hmine
        rcases hF.only k0 x2 with rfl | y2
        · have := at_inj x1 hF.at7; omega
        · have := at_inj x1 (hF.at1 k0 y2.1 y2.2.1 y2.2.2); omega
      subst hk
      refine ⟨hF.tidy.del _, at_del_other (by omega) hF.at7, fun j a1 a2 a3 => at_del_other (by omega) (hF.at1 j a1 (by omega) a3), fun j hj => ?_, ?_, ?_⟩
      · by_cases e : j = k - 31
        · subst e; rw [has_del_same] at hj; cases hj
        · rw [has_del_other (ky_ne e)] at hj
          have := hF.only j hj
          omega
      · have := size_del hF.tidy (k := ky (k - 31))
        rw [at_has hmine, if_pos rfl] at this
        omega
      · rw [has_del_other (ky_ne (by omega))]; exact hnk
  obtain ⟨d1, d2, d3, d4, d5, d6⟩ := hD1
  have hc0 : c = 0 := by
    rw [atKey_of_not_has d6] at hat
    exact (lit64_inj hat).symm
  subst hc0
  have hw : wrap64 (0 + 1) = 1 := IntWalk.wrap64_in _ ⟨by omega, by omega⟩
  rw [hw] at hc
  rcases hc with ⟨_, rfl, rfl⟩ | ⟨h, _⟩
  · refine ⟨rfl, d1.put (isKey k) _, at_put_other (by omega) d2, fun j a1 a2 a3 => ?_, fun j hj => ?_, ?_⟩
    · by_cases e : j = k
      · subst e; exact at_put_same d1.isMap _ _
      · exact at_put_other e (d3 j a1 a2 (by omega))
    · by_cases e : j = k
      · omega
      · rw [has_put_other (ky_ne e)] at hj
        have := d4 j hj
        omega
    · rw [size_put d1, d6]
      simp
      omega
  · omega

theorem full_bad (n often others : Int) (w : World) (h : n < 40 ∨ 100 < n ∨ often < 2 ∨ n ≤ often ∨ others < 0 ∨ 200 < others) :
    Calls Try.prog 4 #[.int .i64 n, .int .i64 often, .int .i64 others] w fun e w' => e = .returned (.bool true) ∧ Below w.heap.size w w' := by
  by_cases h1 : n < 40
  rotate_left
  by_cases h2 : 100 < n
  rotate_left
  by_cases h3 : often < 2
  rotate_left
  by_cases h4 : n ≤ often
  rotate_left
  by_cases h5 : others < 0
  rotate_left
  have h6 : 200 < others := by omega
  all_goals
    clear h
    go_enter Try.func4, Try.ntmps4
    go_wp2_with fail
    refine (alive_any _).mono ?_
    rintro e w1 ⟨rfl, hb⟩
    go_wp2_with fail
    go_ret
    exact ⟨rfl, hb⟩

theorem full_walk (n often others : Int) (w : World) (h1 : 40 ≤ n) (h2 : n ≤ 100) (h3 : 2 ≤ often) (h4 : often < n) (h5 : 0 ≤ others) (h6 : others ≤ 200) :
    Calls Try.prog 4 #[.int .i64 n, .int .i64 often, .int .i64 others] w fun e w' => e = .returned (.bool true) ∧ Below w.heap.size w w' := by
  have w7 : (Lit.int .i64 7777).wf = true := by decide
  have W7 := Lib.hid w7
  clear w7
  go_enter Try.func4, Try.ntmps4
  go_wp2_with fail
  refine (alive_any _).mono ?_
  rintro e w1 ⟨rfl, hb1⟩
  go_wp2_with fail
  refine (new_any n _).mono ?_
  rintro e w2 ⟨rfl, hh2, hb2, hs2⟩
  have hz := hb1.size
  have hz2 : w.heap.size ≤ w1.heap.size := hz
  go_wp2_with fail
  have Hb := Lib.hid (hb1.trans (hb2.mono hz))
  clear hb1 hb2
  generalize w1.heap.size + 1 = sb at *
  generalize w1.heap.size = bm at *
  go_loopw [8] (fun i wr => ∃ k : Int, i = .int .i64 k ∧ 0 ≤ k ∧ k ≤ often ∧ HotIs wr sb bm n (One 7777 k) ∧ Hid (Below w.heap.size w wr)) (fun i _ => (often - intOf i).toNat)
  case atStart => exact ⟨0, rfl, by omega, by omega, hh2, Hb⟩
  case round =>
    obtain ⟨k, rfl, hk1, hk2, hh, hb⟩ := hrel
    by_cases hk : k < often
    · have ht : decide (k + 1 = n) = false := by simp; omega
      have hif : (if k + 1 = n then 0 else k + 1) = k + 1 := by rw [if_neg (by omega)]
      have hpass := pass_one sb bm n 7777 k wr hh W7.out hk1 (by omega) h2
      rw [ht, hif] at hpass
      have H := Lib.hid hpass
      clear hpass ht hif
      go_wp2_with fail
      refine H.out.mono ?_
      rintro e w' ⟨rfl, hh', hg'⟩
      go_wp2_with fail
      go_roundw
      case rel =>
        have hz1 := (hb.out).size
        exact ⟨k + 1, rfl, by omega, by omega, hh', hb.out.grown hg' hz1 (fun j e => by cases e; omega)⟩
      case measure => simp [intOf]; omega
    · obtain rfl : k = often := by omega
      go_wp2_with fail
      go_loopw [9] (fun i wr => ∃ (j : Int) (D : Dm), i = .int .i64 j ∧ 0 ≤ j ∧ j ≤ others ∧ HotIs wr sb bm n D ∧ Hid (FullIs D k j) ∧ Hid (Below w.heap.size w wr)) (fun i _ => (others - intOf i).toNat)
      case atStart => exact ⟨0, _, rfl, by omega, by omega, hh, full_start (by omega), hb⟩
      case round =>
        obtain ⟨j, D, rfl, hj1, hj2, hh, hF, hb⟩ := hrel
        by_cases hj : j < others
        · have hwj : (Lit.int .i64 j).wf = true := WalkArith.wf_i64 (by omega)
          have hms : Maps.size D + 2 < maxLen := by
            have := hF.out.size
            have : (40 : Nat) < maxLen := by decide
            omega
          have H := Lib.hid (pass_any sb bm n j D wr hh (by omega) hwj hms)
          clear hwj hms
          go_wp2_with fail
          refine H.out.mono ?_
          rintro e w' ⟨b, D', hp, rfl, hh', hg'⟩
          obtain ⟨rfl, hF'⟩ := full_step hF.out hp hj1 (by omega) h3 h1
          clear hp
          have HF' := Lib.hid hF'
          clear hF'
          go_wp2_with fail
          go_roundw
          case rel =>
            have hz1 := (hb.out).size
            exact ⟨j + 1, D', rfl, by omega, by omega, hh', HF', hb.out.grown hg' hz1 (fun j e => by cases e; omega)⟩
          case measure => simp [intOf]; omega
        · obtain rfl : j = others := by omega
          have Hs := Lib.hid (hF.out.size)
          go_wp2_with fail
          refine (count_is sb bm n 7777 k _ _ hh W7.out (hF.out.at7 _)).mono ?_
          rintro e w' ⟨rfl, rfl⟩
          go_wp2_with fail
          refine (len_any sb bm n _ _ hh).mono ?_
          rintro e w' ⟨rfl, rfl⟩
          go_wp2_with fail
          all_goals
            go_ret
            refine ⟨congrArg (fun b => Ending.returned (.bool b)) ?_, hb.out⟩
            have hs := Hs.out
            simp only [beq_iff_eq]
            try split
            all_goals omega

theorem full_any (n often others : Int) (_ : (Lit.int .i64 n).wf = true) (_ : (Lit.int .i64 often).wf = true) (_ : (Lit.int .i64 others).wf = true) (w : World) :
    Calls Try.prog 4 #[.int .i64 n, .int .i64 often, .int .i64 others] w fun e w' => e = .returned (.bool true) ∧ Below w.heap.size w w' := by
  by_cases h : n < 40 ∨ 100 < n ∨ often < 2 ∨ n ≤ often ∨ others < 0 ∨ 200 < others
  · exact full_bad n often others w h
  · exact full_walk n often others w (by omega) (by omega) (by omega) (by omega) (by omega) (by omega)

end Go.Proofs.Ytfoogcdpllkeoaa.Hot
