/-
  Chapter 14 (ir): the small functions.
-/
import Derived.Test.YtoaidcjjjoafjaaGreatDoorIrA
set_option linter.unusedVariables false
set_option linter.unusedSimpArgs false
set_option linter.unnecessarySimpa false
set_option linter.deprecated false
namespace Go.Proofs.YtoaidcjjjoafjaaGreatDoor.Ir
open Go.RowKit

theorem between_any (n l m : Int) (b : Bool) (hb : b = true ↔ Btw n l m) (w : World) :
    Calls Tryz.prog 45 #[.int .i64 n, .int .i64 l, .int .i64 m] w fun e w' => e = .returned (.bool b) ∧ w = w' := by
  by_cases h1 : l ≤ n
  · by_cases h2 : n ≤ m
    · obtain rfl : b = true := hb.2 ⟨h1, h2⟩
      clear hb
      go_enter Tryz.func45, Tryz.ntmps45
      go_wp2_with fail
      go_ret
      exact ⟨by simp [h1, h2], rfl⟩
    · obtain rfl : b = false := by cases b with | false => rfl | true => exact absurd (hb.1 rfl).2 h2
      clear hb
      go_enter Tryz.func45, Tryz.ntmps45
      go_wp2_with fail
      go_ret
      exact ⟨by simp [h2], rfl⟩
  · obtain rfl : b = false := by cases b with | false => rfl | true => exact absurd (hb.1 rfl).1 h1
    clear hb
    go_enter Tryz.func45, Tryz.ntmps45
    go_wp2_with fail
    go_ret
    exact ⟨by simp [h1], rfl⟩
theorem within_any (n m : Int) (b : Bool) (hb : b = true ↔ Btw n 0 m) (w : World) :
    Calls Tryz.prog 34 #[.int .i64 n, .int .i64 m] w fun e w' => e = .returned (.bool b) ∧ w = w' := by
  by_cases h1 : 0 ≤ n
  · by_cases h2 : n ≤ m
    · obtain rfl : b = true := hb.2 ⟨h1, h2⟩
      clear hb
      go_enter Tryz.func34, Tryz.ntmps34
      go_wp2_with fail
      go_ret
      exact ⟨by simp [h1, h2], rfl⟩
    · obtain rfl : b = false := by cases b with | false => rfl | true => exact absurd (hb.1 rfl).2 h2
      clear hb
      go_enter Tryz.func34, Tryz.ntmps34
      go_wp2_with fail
      go_ret
      exact ⟨by simp [h2], rfl⟩
  · obtain rfl : b = false := by cases b with | false => rfl | true => exact absurd (hb.1 rfl).1 h1
    clear hb
    go_enter Tryz.func34, Tryz.ntmps34
    go_wp2_with fail
    go_ret
    exact ⟨by simp [h1], rfl⟩

theorem has_or {l : List Int} {o : Int} (h : l.contains o = false) : ∀ x ∈ l, (o == x) = false := by
  intro x hx
  cases hc : (o == x) with
  | false => rfl
  | true =>
    rw [show o = x from eq_of_beq hc, List.contains_iff_mem.2 hx] at h
    cases h

theorem gives_any (o : Int) (w : World) : Calls Tryz.prog 16 #[.int .i64 o] w fun e w' => e = .returned (.bool (gives o)) ∧ w = w' := by
  cases h : gives o with
  | true =>
    have hm : o ∈ [1, 2, 3, 4, 5, 12] := List.contains_iff_mem.1 h
    clear h
    simp only [List.mem_cons, List.not_mem_nil, or_false] at hm
    rcases hm with rfl | rfl | rfl | rfl | rfl | rfl
    all_goals
      go_enter Tryz.func16, Tryz.ntmps16
      go_wp2_with fail
      go_ret
      exact ⟨rfl, rfl⟩
  | false =>
    have hm := has_or h
    simp only [List.mem_cons, List.not_mem_nil, or_false, forall_eq_or_imp, forall_eq] at hm
    obtain ⟨n1, n2, n3, n4, n5, n6⟩ := hm
    clear h
    go_enter Tryz.func16, Tryz.ntmps16
    go_wp2_with fail
    go_ret
    exact ⟨rfl, rfl⟩
theorem rgives_any (o : Int) (w : World) : Calls Tryz.prog 17 #[.int .i64 o] w fun e w' => e = .returned (.bool (gives o)) ∧ w = w' := by
  cases h : gives o with
  | true =>
    have hm : o ∈ [1, 2, 3, 4, 5, 12] := List.contains_iff_mem.1 h
    clear h
    simp only [List.mem_cons, List.not_mem_nil, or_false] at hm
    rcases hm with rfl | rfl | rfl | rfl | rfl | rfl
    all_goals
      go_enter Tryz.func17, Tryz.ntmps17
      go_wp2_with fail
      go_ret
      exact ⟨rfl, rfl⟩
  | false =>
    have hm := has_or h
    simp only [List.mem_cons, List.not_mem_nil, or_false, forall_eq_or_imp, forall_eq] at hm
    obtain ⟨n1, n2, n3, n4, n5, n6⟩ := hm
    clear h
    go_enter Tryz.func17, Tryz.ntmps17
    go_wp2_with fail
    go_ret
    exact ⟨rfl, rfl⟩

theorem isOne_any (o : Int) (w : World) : Calls Tryz.prog 19 #[.int .i64 o] w fun e w' => e = .returned (.bool (isOne o)) ∧ w = w' := by
  cases h : isOne o with
  | true =>
    have hm : o ∈ [16, 20, 26, 27] := List.contains_iff_mem.1 h
    clear h
    simp only [List.mem_cons, List.not_mem_nil, or_false] at hm
    rcases hm with rfl | rfl | rfl | rfl
    all_goals
      go_enter Tryz.func19, Tryz.ntmps19
      go_wp2_with fail
      go_ret
      exact ⟨rfl, rfl⟩
  | false =>
    have hm := has_or h
    simp only [List.mem_cons, List.not_mem_nil, or_false, forall_eq_or_imp, forall_eq] at hm
    obtain ⟨n1, n2, n3, n4⟩ := hm
    clear h
    go_enter Tryz.func19, Tryz.ntmps19
    go_wp2_with fail
    go_ret
    exact ⟨rfl, rfl⟩

set_option maxRecDepth 100000 in
theorem isTwo_any (o : Int) (w : World) : Calls Tryz.prog 18 #[.int .i64 o] w fun e w' => e = .returned (.bool (isTwo o)) ∧ w = w' := by
  cases h : isTwo o with
  | true =>
    have hm : o ∈ [11, 12, 13, 14, 15, 17, 18, 19, 21, 22, 23, 24, 25, 28, 29] := List.contains_iff_mem.1 h
    clear h
    simp only [List.mem_cons, List.not_mem_nil, or_false] at hm
    rcases hm with rfl | rfl | rfl | rfl | rfl | rfl | rfl | rfl | rfl | rfl | rfl | rfl | rfl | rfl | rfl
    all_goals
      go_enter Tryz.func18, Tryz.ntmps18
      go_wp2_with fail
      go_ret
      exact ⟨rfl, rfl⟩
  | false =>
    have hm := has_or h
    simp only [List.mem_cons, List.not_mem_nil, or_false, forall_eq_or_imp, forall_eq] at hm
    obtain ⟨n1, n2, n3, n4, n5, n6, n7, n8, n9, n10, n11, n12, n13, n14, n15⟩ := hm
    simp only [beq_eq_false_iff_ne] at n1 n2 n3 n4 n5 n6 n7 n8 n9 n10 n11 n12 n13
    clear h
    have c1 : ¬ 11 ≤ o ∨ ¬ o ≤ 15 := by omega
    have c2 : ¬ 17 ≤ o ∨ ¬ o ≤ 19 := by omega
    have c3 : ¬ 21 ≤ o ∨ ¬ o ≤ 25 := by omega
    clear n1 n2 n3 n4 n5 n6 n7 n8 n9 n10 n11 n12 n13
    rcases c1 with c1 | c1 <;> rcases c2 with c2 | c2 <;> rcases c3 with c3 | c3
    all_goals
      go_enter Tryz.func18, Tryz.ntmps18
      go_wp2_with fail
      try (go_ret; exact ⟨by simp_all, rfl⟩)

theorem flag_any (b : Bool) (w : World) : Calls Tryz.prog 101 #[.bool b] w fun e w' => e = .returned (.int .i64 (if b then -1 else 0)) ∧ w = w' := by
  cases b
  all_goals
    go_enter Tryz.func101, Tryz.ntmps101
    go_wp2_with fail
    go_ret
    exact ⟨rfl, rfl⟩
theorem floor11 (w : World) : Calls Tryz.prog 94 #[.int .i64 1, .int .i64 1] w fun e w' => e = .returned (.tuple #[.int .i64 1, .int .i64 0, .bool true]) ∧ ∃ q, w' = w.drewN q := by
  go_enter Tryz.func94, Tryz.ntmps94
  go_wp2_with fail
  go_quiet (fail)
  go_wp2_with fail
  go_ret3
  exact ⟨rfl, _, rfl⟩
theorem shift11 (o : Int) (ho : o = 21 ∨ o = 22) (w : World) : Calls Tryz.prog 95 #[.int .i64 o, .int .i64 1, .int .i64 1] w fun e w' => (∃ v, e = .returned (.int .i64 v)) ∧ w = w' := by
  rcases ho with rfl | rfl
  all_goals
    go_enter Tryz.func95, Tryz.ntmps95
    go_wp2_with fail
    go_ret
    exact ⟨⟨_, rfl⟩, rfl⟩
theorem compare11 (o : Int) (ho : o = 23 ∨ o = 24 ∨ o = 25) (w : World) : Calls Tryz.prog 96 #[.int .i64 o, .int .i64 1, .int .i64 1] w fun e w' => (∃ v, e = .returned (.int .i64 v)) ∧ w = w' := by
  rcases ho with rfl | rfl | rfl
  all_goals
    go_enter Tryz.func96, Tryz.ntmps96
    go_wp2_with fail
    refine (flag_any _ _).mono ?_
    rintro e w' ⟨rfl, rfl⟩
    go_wp2_with fail
    go_ret
    exact ⟨⟨_, rfl⟩, rfl⟩

set_option maxHeartbeats 4000000 in
set_option maxRecDepth 100000 in
theorem two_any (o : Int) (w : World) : Calls Tryz.prog 43 #[.int .i64 o] w fun e w' => e = .returned (.bool (isTwo o)) ∧ ∃ q, w' = w.drewN q := by
  have hc : Calls Tryz.prog 79 #[.int .i64 o, .int .i64 1, .int .i64 1] w fun e w' => (∃ v, e = .returned (.tuple #[.int .i64 v, .bool (isTwo o)])) ∧ ∃ q, w' = w.drewN q := by
    cases h : isTwo o with
    | true =>
      have hm : o ∈ [11, 12, 13, 14, 15, 17, 18, 19, 21, 22, 23, 24, 25, 28, 29] := List.contains_iff_mem.1 h
      clear h
      simp only [List.mem_cons, List.not_mem_nil, or_false] at hm
      rcases hm with rfl | rfl | rfl | rfl | rfl | rfl | rfl | rfl | rfl | rfl | rfl | rfl | rfl | rfl | rfl
      · go_enter Tryz.func79, Tryz.ntmps79
        go_wp2_with fail
        go_ret2
        exact ⟨⟨_, rfl⟩, 0, rfl⟩
      · go_enter Tryz.func79, Tryz.ntmps79
        go_wp2_with fail
        go_ret2
        exact ⟨⟨_, rfl⟩, 0, rfl⟩
      · go_enter Tryz.func79, Tryz.ntmps79
        go_wp2_with fail
        go_ret2
        exact ⟨⟨_, rfl⟩, 0, rfl⟩
      · go_enter Tryz.func79, Tryz.ntmps79
        go_wp2_with fail
        refine (floor11 _).mono ?_
        rintro e w' ⟨rfl, q, rfl⟩
        go_wp2_with fail
        go_ret2
        exact ⟨⟨_, rfl⟩, q, rfl⟩
      · go_enter Tryz.func79, Tryz.ntmps79
        go_wp2_with fail
        refine (floor11 _).mono ?_
        rintro e w' ⟨rfl, q, rfl⟩
        go_wp2_with fail
        go_ret2
        exact ⟨⟨_, rfl⟩, q, rfl⟩
      · go_enter Tryz.func79, Tryz.ntmps79
        go_wp2_with fail
        go_ret2
        exact ⟨⟨_, rfl⟩, 0, rfl⟩
      · go_enter Tryz.func79, Tryz.ntmps79
        go_wp2_with fail
        go_ret2
        exact ⟨⟨_, rfl⟩, 0, rfl⟩
      · go_enter Tryz.func79, Tryz.ntmps79
        go_wp2_with fail
        go_ret2
        exact ⟨⟨_, rfl⟩, 0, rfl⟩
      · go_enter Tryz.func79, Tryz.ntmps79
        go_wp2_with fail
        refine (shift11 21 (.inl rfl) _).mono ?_
        rintro e w' ⟨⟨v, rfl⟩, rfl⟩
        go_wp2_with fail
        go_ret2
        exact ⟨⟨_, rfl⟩, 0, rfl⟩
      · go_enter Tryz.func79, Tryz.ntmps79
        go_wp2_with fail
        refine (shift11 22 (.inr rfl) _).mono ?_
        rintro e w' ⟨⟨v, rfl⟩, rfl⟩
        go_wp2_with fail
        go_ret2
        exact ⟨⟨_, rfl⟩, 0, rfl⟩
      · go_enter Tryz.func79, Tryz.ntmps79
        go_wp2_with fail
        refine (compare11 23 (.inl rfl) _).mono ?_
        rintro e w' ⟨⟨v, rfl⟩, rfl⟩
        go_wp2_with fail
        go_ret2
        exact ⟨⟨_, rfl⟩, 0, rfl⟩
      · go_enter Tryz.func79, Tryz.ntmps79
        go_wp2_with fail
        refine (compare11 24 (.inr (.inl rfl)) _).mono ?_
        rintro e w' ⟨⟨v, rfl⟩, rfl⟩
        go_wp2_with fail
        go_ret2
        exact ⟨⟨_, rfl⟩, 0, rfl⟩
      · go_enter Tryz.func79, Tryz.ntmps79
        go_wp2_with fail
        refine (compare11 25 (.inr (.inr rfl)) _).mono ?_
        rintro e w' ⟨⟨v, rfl⟩, rfl⟩
        go_wp2_with fail
        go_ret2
        exact ⟨⟨_, rfl⟩, 0, rfl⟩
      · go_enter Tryz.func79, Tryz.ntmps79
        go_wp2_with fail
        go_ret2
        exact ⟨⟨_, rfl⟩, 0, rfl⟩
      · go_enter Tryz.func79, Tryz.ntmps79
        go_wp2_with fail
        go_ret2
        exact ⟨⟨_, rfl⟩, 0, rfl⟩
    | false =>
      have hm := has_or h
      simp only [List.mem_cons, List.not_mem_nil, or_false, forall_eq_or_imp, forall_eq] at hm
      obtain ⟨n1, n2, n3, n4, n5, n6, n7, n8, n9, n10, n11, n12, n13, n14, n15⟩ := hm
      clear h
      go_enter Tryz.func79, Tryz.ntmps79
      go_wp2_with fail
      go_ret2
      exact ⟨⟨_, rfl⟩, 0, rfl⟩
  have HC := Lib.hid hc
  clear hc
  go_enter Tryz.func43, Tryz.ntmps43
  go_wp2_with fail
  refine HC.out.mono ?_
  rintro e w' ⟨⟨v, rfl⟩, q, rfl⟩
  go_wp2_with fail
  go_ret
  exact ⟨rfl, q, rfl⟩

set_option maxHeartbeats 1000000 in
theorem one_any (o : Int) (w : World) : Calls Tryz.prog 78 #[.int .i64 o] w fun e w' => e = .returned (.bool (isOne o)) ∧ w = w' := by
  have hc : Calls Tryz.prog 93 #[.int .i64 o, .int .i64 1] w fun e w' => (∃ v, e = .returned (.tuple #[.int .i64 v, .bool (isOne o)])) ∧ w = w' := by
    cases h : isOne o with
    | true =>
      have hm : o ∈ [16, 20, 26, 27] := List.contains_iff_mem.1 h
      clear h
      simp only [List.mem_cons, List.not_mem_nil, or_false] at hm
      rcases hm with rfl | rfl | rfl | rfl
      · go_enter Tryz.func93, Tryz.ntmps93
        go_wp2_with fail
        go_ret2
        exact ⟨⟨_, rfl⟩, rfl⟩
      · go_enter Tryz.func93, Tryz.ntmps93
        go_wp2_with fail
        go_ret2
        exact ⟨⟨_, rfl⟩, rfl⟩
      · go_enter Tryz.func93, Tryz.ntmps93
        go_wp2_with fail
        refine (flag_any _ _).mono ?_
        rintro e w' ⟨rfl, rfl⟩
        go_wp2_with fail
        go_ret2
        exact ⟨⟨_, rfl⟩, rfl⟩
      · go_enter Tryz.func93, Tryz.ntmps93
        go_wp2_with fail
        refine (flag_any _ _).mono ?_
        rintro e w' ⟨rfl, rfl⟩
        go_wp2_with fail
        go_ret2
        exact ⟨⟨_, rfl⟩, rfl⟩
    | false =>
      have hm := has_or h
      simp only [List.mem_cons, List.not_mem_nil, or_false, forall_eq_or_imp, forall_eq] at hm
      obtain ⟨n1, n2, n3, n4⟩ := hm
      clear h
      go_enter Tryz.func93, Tryz.ntmps93
      go_wp2_with fail
      go_ret2
      exact ⟨⟨_, rfl⟩, rfl⟩
  have HC := Lib.hid hc
  clear hc
  go_enter Tryz.func78, Tryz.ntmps78
  go_wp2_with fail
  refine HC.out.mono ?_
  rintro e w' ⟨⟨v, rfl⟩, rfl⟩
  go_wp2_with fail
  go_ret
  exact ⟨rfl, rfl⟩
end Go.Proofs.YtoaidcjjjoafjaaGreatDoor.Ir
