/-
  Pass where the answer is known ahead, and the first calls (alive) of chapter 12's statements.
-/
import Derived.Test.YtfoogcdpllkeoaaHotC
import Derived.BigGuard
namespace Go.Proofs.Ytfoogcdpllkeoaa.Hot
open Go.RowKit Go.Maps

theorem isKey (k : Int) : WideAt.IsKeyLit (ky k) := trivial

theorem passed_room {D D' : Dm} {h k c : Int} {b : Bool} (hp : Passed D h k b D') (hno : ¬ (Maps.has D (ky k) = false ∧ 32 ≤ Maps.size D)) (hat : D.atKey (ky k) (lit64 0) = lit64 c) :
    (wrap64 (c + 1) < h ∧ b = false ∧ D' = D.put (ky k) (lit64 (wrap64 (c + 1)))) ∨ (¬ wrap64 (c + 1) < h ∧ b = true ∧ D' = (D.put (ky k) (lit64 (wrap64 (c + 1)))).del (ky k)) := by
  obtain ⟨D1, c', he, hat', _, h1⟩ := hp
  unfold Evict at he
  rw [if_neg hno] at he
  subst he
  have e : c' = c := lit64_inj (Eq.trans (Eq.symm hat') hat)
  subst e
  exact h1

theorem pass_lo (sb bm : Nat) (h k c : Int) (D : Dm) (w : World) (hh : HotIs w sb bm h D) (hk : (Lit.int .i64 k).wf = true) (hm : Maps.size D + 2 < maxLen)
    (hno : ¬ (Maps.has D (ky k) = false ∧ 32 ≤ Maps.size D)) (hat : D.atKey (ky k) (lit64 0) = lit64 c) (h0 : 0 ≤ c) (h1 : c + 1 < h) (h2 : h ≤ 1000) :
    Calls Try.prog 16 #[.pointer (some ⟨sb, 0, none⟩), .int .i64 k] w fun e w' => e = .returned (.bool false) ∧ HotIs w' sb bm h (D.put (ky k) (lit64 (c + 1))) ∧ w.grownBy w' (some bm) := by
  refine (pass_any sb bm h k D w hh (by omega) hk hm).mono ?_
  rintro e w' ⟨b, D', hp, rfl, hh', hg⟩
  have hw : wrap64 (c + 1) = c + 1 := IntWalk.wrap64_in _ ⟨by omega, by omega⟩
  have h3 := passed_room hp hno hat
  rw [hw] at h3
  rcases h3 with ⟨_, rfl, rfl⟩ | ⟨h4, _⟩
  · exact ⟨rfl, hh', hg⟩
  · omega

theorem pass_hi (sb bm : Nat) (h k c : Int) (D : Dm) (w : World) (hh : HotIs w sb bm h D) (hk : (Lit.int .i64 k).wf = true) (hm : Maps.size D + 2 < maxLen)
    (hno : ¬ (Maps.has D (ky k) = false ∧ 32 ≤ Maps.size D)) (hat : D.atKey (ky k) (lit64 0) = lit64 c) (h0 : 0 ≤ c) (h1 : h ≤ c + 1) (h2 : c ≤ 1000) (h3 : 0 < h) :
    Calls Try.prog 16 #[.pointer (some ⟨sb, 0, none⟩), .int .i64 k] w fun e w' => e = .returned (.bool true) ∧ HotIs w' sb bm h ((D.put (ky k) (lit64 (c + 1))).del (ky k)) ∧ w.grownBy w' (some bm) := by
  refine (pass_any sb bm h k D w hh h3 hk hm).mono ?_
  rintro e w' ⟨b, D', hp, rfl, hh', hg⟩
  have hw : wrap64 (c + 1) = c + 1 := IntWalk.wrap64_in _ ⟨by omega, by omega⟩
  have h4 := passed_room hp hno hat
  rw [hw] at h4
  rcases h4 with ⟨h5, _⟩ | ⟨_, rfl, rfl⟩
  · omega
  · exact ⟨rfl, hh', hg⟩

/-- Count where it is known. -/
theorem count_is (sb bm : Nat) (h k c : Int) (D : Dm) (w : World) (hh : HotIs w sb bm h D) (hk : (Lit.int .i64 k).wf = true) (hat : D.atKey (ky k) (lit64 0) = lit64 c) :
    Calls Try.prog 17 #[.pointer (some ⟨sb, 0, none⟩), .int .i64 k] w fun e w' => e = .returned (.int .i64 c) ∧ w = w' := by
  refine (count_any sb bm h k D w hh hk).mono ?_
  rintro e w' ⟨c', rfl, hat', _, rfl⟩
  have e : c' = c := lit64_inj (Eq.trans (Eq.symm hat') hat)
  subst e
  exact ⟨rfl, rfl⟩

/-- alive answers true, and of old memory nothing turns. -/
theorem alive_any (w : World) : Calls Try.prog 14 #[] w fun e w' => e = .returned (.bool true) ∧ Below w.heap.size w w' := by
  have k7 : (Lit.int .i64 7).wf = true := by decide
  have s0 : Maps.size (.map [] : Dm) = 0 := rfl
  have a0 : (DataW.map [] : Dm).atKey (ky 7) (lit64 0) = lit64 0 := rfl
  have a1 : ((DataW.map [] : Dm).put (ky 7) (lit64 (0 + 1))).atKey (ky 7) (lit64 0) = lit64 1 := atKey_put_same isMap_empty (isKey 7) _ _
  have s1 : Maps.size ((DataW.map [] : Dm).put (ky 7) (lit64 (0 + 1))) = 1 := by rw [size_put tidy_empty]; rfl
  have a2 : ((((DataW.map [] : Dm).put (ky 7) (lit64 (0 + 1))).put (ky 7) (lit64 (1 + 1))).del (ky 7)).atKey (ky 7) (lit64 0) = lit64 0 := atKey_del_same _
  go_enter Try.func14, Try.ntmps14
  have hm0 : Maps.size (.map [] : Dm) + 2 < maxLen := by rw [s0]; decide
  have hm1 : Maps.size ((DataW.map [] : Dm).put (ky 7) (lit64 (0 + 1))) + 2 < maxLen := by rw [s1]; decide
  have n0 : ¬ (Maps.has (.map [] : Dm) (ky 7) = false ∧ 32 ≤ Maps.size (.map [] : Dm)) := by rw [s0]; omega
  have n1 : ¬ (Maps.has ((DataW.map [] : Dm).put (ky 7) (lit64 (0 + 1))) (ky 7) = false ∧ 32 ≤ Maps.size ((DataW.map [] : Dm).put (ky 7) (lit64 (0 + 1)))) := by rw [s1]; omega
  have s2 : Maps.size ((((DataW.map [] : Dm).put (ky 7) (lit64 (0 + 1))).put (ky 7) (lit64 (1 + 1))).del (ky 7)) = 0 := by
    have h1 := size_del (D := ((DataW.map [] : Dm).put (ky 7) (lit64 (0 + 1))).put (ky 7) (lit64 (1 + 1))) (k := ky 7) ((tidy_empty.put (isKey 7) _).put (isKey 7) _)
    rw [has_put_same (isMap_empty.put _ _) (isKey 7), if_pos rfl, size_put (tidy_empty.put (isKey 7) _), has_put_same isMap_empty (isKey 7), if_pos rfl, s1] at h1
    omega
  have Hs0 := Lib.hid s0
  have Ha0 := Lib.hid a0
  have Ha1 := Lib.hid a1
  have Hs2 := Lib.hid s2
  have Ha2 := Lib.hid a2
  have Hk := Lib.hid k7
  have Hn0 := Lib.hid n0
  have Hn1 := Lib.hid n1
  have Hm0 := Lib.hid hm0
  have Hm1 := Lib.hid hm1
  clear s0 a0 a1 s2 a2 s1 k7 n0 n1 hm0 hm1
  go_wp2_with fail
  refine (new_any 2 _).mono ?_
  rintro e w1 ⟨rfl, hh1, hb1, hs1⟩
  go_wp2_with fail
  refine (pass_lo _ _ 2 7 0 _ _ hh1 Hk.out Hm0.out Hn0.out Ha0.out (by omega) (by omega) (by omega)).mono ?_
  rintro e w2 ⟨rfl, hh2, hg2⟩
  go_wp2_with fail
  refine (count_is _ _ 2 7 1 _ _ hh2 Hk.out Ha1.out).mono ?_
  rintro e w' ⟨rfl, rfl⟩
  go_wp2_with fail
  refine (pass_hi _ _ 2 7 1 _ _ hh2 Hk.out Hm1.out Hn1.out Ha1.out (by omega) (by omega) (by omega) (by omega)).mono ?_
  rintro e w3 ⟨rfl, hh3, hg3⟩
  go_wp2_with fail
  refine (count_is _ _ 2 7 0 _ _ hh3 Hk.out Ha2.out).mono ?_
  rintro e w' ⟨rfl, rfl⟩
  go_wp2_with fail
  refine (len_any _ _ 2 _ _ hh3).mono ?_
  rintro e w' ⟨rfl, rfl⟩
  rw [Hs2.out]
  go_wp2_with fail
  go_ret
  exact ⟨rfl, (hb1.grown hg2 (by omega) (fun k e => by cases e; omega)).grown hg3 (by have := hg2.size; omega) (fun k e => by cases e; omega)⟩

end Go.Proofs.Ytfoogcdpllkeoaa.Hot
