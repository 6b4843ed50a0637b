/-
  Chapter 14 (ir): what an instruction names; single, out, head, cells.
-/
import Derived.Test.YtoaidcjjjoafjaaGreatDoorIrC
set_option linter.unusedVariables false
set_option linter.unusedSimpArgs false
set_option linter.unnecessarySimpa false
set_option linter.deprecated false
namespace Go.Proofs.YtoaidcjjjoafjaaGreatDoor.Ir
open Go.RowKit

/-- A list of numbers is handed back. -/
def GotInts (w : World) (l : List Int) (e : Ending) (w' : World) : Prop :=
  ∃ A c, e = .returned (.slice A l.length c) ∧ IntsAt w' w'.heap.size A l.length (fun k => l.getD k 0) ∧ Below w.heap.size w w'
theorem got0 {w W1 : World} (h : Below w.heap.size w W1) : GotInts w [] (.returned (.slice none 0 0)) W1 := ⟨none, 0, rfl, .inl rfl, h⟩
theorem got1 {w W1 : World} {n : Nat} (b : Int) (h : Below w.heap.size w W1) (hn : n = W1.heap.size) : GotInts w [b] (.returned (.slice (some ⟨n, 0, none⟩) 1 1)) (W1.alloc (.cells #[.int .i64 b] 3)) := by
  subst hn
  have hs := h.size
  refine ⟨_, 1, rfl, .inr ⟨W1.heap.size, 0, rfl, by simp, fun i hi => ?_⟩, h.alloc hs _⟩
  obtain rfl : i = 0 := by simpa using hi
  rw [World.cell?, heap_alloc_new]
  rfl
theorem got2 {w W1 : World} {n : Nat} (b c : Int) (h : Below w.heap.size w W1) (hn : n = W1.heap.size) : GotInts w [b, c] (.returned (.slice (some ⟨n, 0, none⟩) 2 2)) (W1.alloc (.cells #[.int .i64 b, .int .i64 c] 3)) := by
  subst hn
  have hs := h.size
  refine ⟨_, 2, rfl, .inr ⟨W1.heap.size, 0, rfl, by simp, fun i hi => ?_⟩, h.alloc hs _⟩
  have : i = 0 ∨ i = 1 := by simp at hi; omega
  rcases this with rfl | rfl
  all_goals
    rw [World.cell?, heap_alloc_new]
    rfl
def insCells (i : Ins) : Array Value := #[.int .i64 i.op, .int .i64 i.a, .int .i64 i.b, .int .i64 i.c, .int .i64 i.x]

set_option maxHeartbeats 1000000 in
theorem uses_any (i : Ins) (w : World) : Calls Tryz.prog 12 #[.agg (insCells i)] w (GotInts w (usesL i)) := by
  obtain ⟨op, a, b, c, x⟩ := i
  have hba : ∀ o, Below w.heap.size w (w.alloc o) := fun o => (Below.refl _ _).alloc (Nat.le_refl _) o
  have HB := Lib.hid hba
  clear hba
  unfold insCells usesL
  by_cases h4 : op = 4
  · subst h4
    cases ht : isTwo a
    · have Ht := Lib.hid ht
      clear ht
      simp only [if_true, Bool.false_eq_true, if_false]
      go_enter Tryz.func12, Tryz.ntmps12
      go_wp2_with fail
      refine (two_any a _).mono ?_
      rintro e w' ⟨rfl, q, rfl⟩
      rw [Ht.out]
      go_wp2_with fail
      go_ret
      exact got1 b (below_of_draw (HB.out _) q) (by simp)
    · have Ht := Lib.hid ht
      clear ht
      simp only [if_true]
      go_enter Tryz.func12, Tryz.ntmps12
      go_wp2_with fail
      refine (two_any a _).mono ?_
      rintro e w' ⟨rfl, q, rfl⟩
      rw [Ht.out]
      go_wp2_with fail
      go_ret
      exact got2 b c (below_of_draw (HB.out _) q) (by simp)
  · rw [if_neg h4]
    by_cases h6 : op = 6 ∨ op = 9
    · rw [if_pos h6]
      rcases h6 with rfl | rfl
      all_goals
        go_enter Tryz.func12, Tryz.ntmps12
        go_wp2_with fail
        go_ret
        exact got2 b c (HB.out _) (by simp)
    · rw [if_neg h6]
      by_cases h5 : op = 5 ∨ op = 7 ∨ op = 8 ∨ op = 10 ∨ op = 11
      · rw [if_pos h5]
        rcases h5 with rfl | rfl | rfl | rfl | rfl
        all_goals
          go_enter Tryz.func12, Tryz.ntmps12
          go_wp2_with fail
          go_ret
          exact got1 b (HB.out _) (by simp)
      · rw [if_neg h5]
        simp only [not_or] at h6 h5
        obtain ⟨n6, n9⟩ := h6
        obtain ⟨n5, n7, n8, n10, n11⟩ := h5
        go_enter Tryz.func12, Tryz.ntmps12
        go_wp2_with fail
        go_ret
        exact got0 (HB.out _)

set_option maxHeartbeats 1000000 in
theorem ruses_any (i : Ins) (w : World) : Calls Tryz.prog 21 #[.agg (insCells i)] w (GotInts w (usesL i)) := by
  obtain ⟨op, a, b, c, x⟩ := i
  have hba : ∀ o, Below w.heap.size w (w.alloc o) := fun o => (Below.refl _ _).alloc (Nat.le_refl _) o
  have HB := Lib.hid hba
  clear hba
  unfold insCells usesL
  by_cases h4 : op = 4
  · subst h4
    cases ht : isTwo a
    · have Ht := Lib.hid ht
      clear ht
      simp only [if_true, Bool.false_eq_true, if_false]
      go_enter Tryz.func21, Tryz.ntmps21
      go_wp2_with fail
      refine (isTwo_any a _).mono ?_
      rintro e w' ⟨rfl, rfl⟩
      rw [Ht.out]
      go_wp2_with fail
      go_ret
      exact got1 b (HB.out _) (by simp)
    · have Ht := Lib.hid ht
      clear ht
      simp only [if_true]
      go_enter Tryz.func21, Tryz.ntmps21
      go_wp2_with fail
      refine (isTwo_any a _).mono ?_
      rintro e w' ⟨rfl, rfl⟩
      rw [Ht.out]
      go_wp2_with fail
      go_ret
      exact got2 b c (HB.out _) (by simp)
  · rw [if_neg h4]
    by_cases h6 : op = 6 ∨ op = 9
    · rw [if_pos h6]
      rcases h6 with rfl | rfl
      all_goals
        go_enter Tryz.func21, Tryz.ntmps21
        go_wp2_with fail
        go_ret
        exact got2 b c (HB.out _) (by simp)
    · rw [if_neg h6]
      by_cases h5 : op = 5 ∨ op = 7 ∨ op = 8 ∨ op = 10 ∨ op = 11
      · rw [if_pos h5]
        rcases h5 with rfl | rfl | rfl | rfl | rfl
        all_goals
          go_enter Tryz.func21, Tryz.ntmps21
          go_wp2_with fail
          go_ret
          exact got1 b (HB.out _) (by simp)
      · rw [if_neg h5]
        simp only [not_or] at h6 h5
        obtain ⟨n6, n9⟩ := h6
        obtain ⟨n5, n7, n8, n10, n11⟩ := h5
        go_enter Tryz.func21, Tryz.ntmps21
        go_wp2_with fail
        go_ret
        exact got0 (HB.out _)

set_option maxHeartbeats 1000000 in
theorem outs_any (i : Ins) (w : World) : Calls Tryz.prog 13 #[.agg (insCells i)] w (GotInts w (outsL i)) := by
  obtain ⟨op, a, b, c, x⟩ := i
  have hba : ∀ o, Below w.heap.size w (w.alloc o) := fun o => (Below.refl _ _).alloc (Nat.le_refl _) o
  have HB := Lib.hid hba
  clear hba
  unfold insCells outsL
  by_cases h4 : op = 4
  · subst h4
    simp only [if_true]
    by_cases ha : a = 14 ∨ a = 15
    · rw [if_pos ha]
      rcases ha with rfl | rfl
      all_goals
        go_enter Tryz.func13, Tryz.ntmps13
        go_wp2_with fail
        go_ret
        exact got1 x (HB.out _) (by simp)
    · rw [if_neg ha]
      simp only [not_or] at ha
      have a1 : (a != 14) = true := bne_iff_ne.2 ha.1
      have a2 : (a != 15) = true := bne_iff_ne.2 ha.2
      clear ha
      go_enter Tryz.func13, Tryz.ntmps13
      go_wp2_with fail
      go_ret
      exact got0 (HB.out _)
  · rw [if_neg h4]
    by_cases h5 : op = 5 ∨ op = 7 ∨ op = 8 ∨ op = 9 ∨ op = 10 ∨ op = 11
    · rw [if_pos h5]
      rcases h5 with rfl | rfl | rfl | rfl | rfl | rfl
      all_goals
        go_enter Tryz.func13, Tryz.ntmps13
        go_wp2_with fail
        go_ret
        exact got1 x (HB.out _) (by simp)
    · rw [if_neg h5]
      by_cases h6 : op = 6
      · rw [if_pos h6]
        subst h6
        go_enter Tryz.func13, Tryz.ntmps13
        go_wp2_with fail
        go_ret
        exact got2 x a (HB.out _) (by simp)
      · rw [if_neg h6]
        simp only [not_or] at h5
        obtain ⟨n5, n7, n8, n9, n10, n11⟩ := h5
        go_enter Tryz.func13, Tryz.ntmps13
        go_wp2_with fail
        go_ret
        exact got0 (HB.out _)

set_option maxHeartbeats 1000000 in
theorem routs_any (i : Ins) (w : World) : Calls Tryz.prog 22 #[.agg (insCells i)] w (GotInts w (outsL i)) := by
  obtain ⟨op, a, b, c, x⟩ := i
  have hba : ∀ o, Below w.heap.size w (w.alloc o) := fun o => (Below.refl _ _).alloc (Nat.le_refl _) o
  have HB := Lib.hid hba
  clear hba
  unfold insCells outsL
  by_cases h4 : op = 4
  · subst h4
    simp only [if_true]
    by_cases ha : a = 14 ∨ a = 15
    · rw [if_pos ha]
      rcases ha with rfl | rfl
      all_goals
        go_enter Tryz.func22, Tryz.ntmps22
        go_wp2_with fail
        go_ret
        exact got1 x (HB.out _) (by simp)
    · rw [if_neg ha]
      simp only [not_or] at ha
      have a1 : (a == 14) = false := beq_eq_false_iff_ne.2 ha.1
      have a2 : (a == 15) = false := beq_eq_false_iff_ne.2 ha.2
      clear ha
      go_enter Tryz.func22, Tryz.ntmps22
      go_wp2_with fail
      go_ret
      exact got0 (HB.out _)
  · rw [if_neg h4]
    by_cases h5 : op = 5 ∨ op = 7 ∨ op = 8 ∨ op = 9 ∨ op = 10 ∨ op = 11
    · rw [if_pos h5]
      rcases h5 with rfl | rfl | rfl | rfl | rfl | rfl
      all_goals
        go_enter Tryz.func22, Tryz.ntmps22
        go_wp2_with fail
        go_ret
        exact got1 x (HB.out _) (by simp)
    · rw [if_neg h5]
      by_cases h6 : op = 6
      · rw [if_pos h6]
        subst h6
        go_enter Tryz.func22, Tryz.ntmps22
        go_wp2_with fail
        go_ret
        exact got2 x a (HB.out _) (by simp)
      · rw [if_neg h6]
        simp only [not_or] at h5
        obtain ⟨n5, n7, n8, n9, n10, n11⟩ := h5
        go_enter Tryz.func22, Tryz.ntmps22
        go_wp2_with fail
        go_ret
        exact got0 (HB.out _)
end Go.Proofs.YtoaidcjjjoafjaaGreatDoor.Ir
