/-
  Chapter 14 (ir): single, out, head, cells.
-/
import Derived.Test.YtoaidcjjjoafjaaGreatDoorIrD
set_option linter.unusedVariables false
set_option linter.unusedSimpArgs false
set_option linter.unnecessarySimpa false
set_option linter.deprecated false
namespace Go.Proofs.YtoaidcjjjoafjaaGreatDoor.Ir
open Go.RowKit

theorem bel2 (w : World) (o o' : Obj) : Below w.heap.size w ((w.alloc o).alloc o') := ((Below.refl _ _).alloc (Nat.le_refl _) o).alloc (by simp) o'
theorem wrap_sub1 {x : Int} (h : 0 ≤ x ∧ x ≤ 48) : wrap64 (x - 1) = x - 1 := by unfold wrap64; omega

set_option maxHeartbeats 2000000 in
theorem single_any (T : Tr) (Ai Ao Ac : Option Addr) (ci co cc : Nat) (i : Ins) (b : Bool) (w : World) (h1 : Btw T.slots 0 48) (h2 : Btw T.backs 0 48) (hb : b = true ↔ Single T i) :
    Calls Tryz.prog 32 #[.agg (trCells T Ai ci Ao co Ac cc), .agg (insCells i)] w fun e w' => e = .returned (.bool b) ∧ Below w.heap.size w w' := by
  obtain ⟨op, a, b', c, x⟩ := i
  have HB := Lib.hid (bel2 w (.cells (trCells T Ai ci Ao co Ac cc) 26) (.cells (insCells ⟨op, a, b', c, x⟩) 42))
  have w1 := Lib.hid (wrap_sub1 h1)
  have w2 := Lib.hid (wrap_sub1 h2)
  clear h1 h2
  unfold trCells insCells at *
  by_cases h4 : op = 4
  · subst h4
    have hb' : b = true ↔ isTwo a = true ∨ isOne a = true := by simpa [Single] using hb
    clear hb
    cases ht : isTwo a with
    | true =>
      obtain rfl : b = true := hb'.2 (.inl ht)
      have Ht := Lib.hid ht
      clear ht hb'
      go_enter Tryz.func32, Tryz.ntmps32
      go_wp2_with fail
      refine (two_any a _).mono ?_
      rintro e w' ⟨rfl, q, rfl⟩
      rw [Ht.out]
      go_wp2_with fail
      go_ret
      exact ⟨rfl, below_of_draw HB.out _⟩
    | false =>
      obtain rfl : b = isOne a := by cases ho : isOne a <;> simp_all
      have Ht := Lib.hid ht
      clear ht hb'
      go_enter Tryz.func32, Tryz.ntmps32
      go_wp2_with fail
      refine (two_any a _).mono ?_
      rintro e w' ⟨rfl, q, rfl⟩
      rw [Ht.out]
      go_wp2_with fail
      refine (one_any a _).mono ?_
      rintro e w' ⟨rfl, rfl⟩
      go_wp2_with fail
      go_ret
      exact ⟨by simp, below_of_draw HB.out _⟩
  · by_cases h2 : op = 2
    · subst h2
      have hb' : b = true ↔ Btw a 0 (T.slots - 1) := by simpa [Single] using hb
      have HC := Lib.hid (between_any a 0 (T.slots - 1) b hb')
      clear hb hb' h4
      go_enter Tryz.func32, Tryz.ntmps32
      go_wp2_with fail
      rw [w1.out]
      refine (HC.out _).mono ?_
      rintro e w' ⟨rfl, rfl⟩
      go_wp2_with fail
      go_ret
      exact ⟨rfl, HB.out⟩
    · by_cases h3 : op = 3
      · subst h3
        have hb' : b = true ↔ Btw a 0 (T.backs - 1) := by simpa [Single] using hb
        have HC := Lib.hid (between_any a 0 (T.backs - 1) b hb')
        clear hb hb' h4 h2
        go_enter Tryz.func32, Tryz.ntmps32
        go_wp2_with fail
        rw [w2.out]
        refine (HC.out _).mono ?_
        rintro e w' ⟨rfl, rfl⟩
        go_wp2_with fail
        go_ret
        exact ⟨rfl, HB.out⟩
      · have hb' : b = true ↔ Btw op 1 12 := by simpa [Single, h4, h2, h3] using hb
        have HC := Lib.hid (between_any op 1 12 b hb')
        clear hb hb'
        go_enter Tryz.func32, Tryz.ntmps32
        go_wp2_with fail
        refine (HC.out _).mono ?_
        rintro e w' ⟨rfl, rfl⟩
        go_wp2_with fail
        go_ret
        exact ⟨rfl, HB.out⟩

theorem wrap_add2 {x y : Int} (h : 0 ≤ x ∧ x ≤ 48) (h' : 0 ≤ y ∧ y ≤ 48) : wrap64 (x + y) = x + y := by unfold wrap64; omega
def btw (n l m : Int) : Bool := decide (l ≤ n) && decide (n ≤ m)
theorem btw_iff (n l m : Int) : btw n l m = true ↔ Btw n l m := by simp [btw, Btw]
def ouVals (o : Ou) (As Ab : Option Addr) (cs cb : Nat) : Array Value := #[.int .i64 o.ip, .int .i64 o.steps, .slice As o.ns cs, .slice Ab o.nb cb]

set_option maxHeartbeats 2000000 in
theorem out_any (T : Tr) (Ai Ao Ac : Option Addr) (ci co cc : Nat) (o : Ou) (As Ab : Option Addr) (cs cb : Nat) (b : Bool) (w : World) (h1 : Btw T.slots 0 48) (h2 : Btw T.backs 0 48) (h3 : Btw T.grow 0 48) (h4 : Btw T.growBack 0 48) (hb : b = true ↔ OutOk T o) :
    Calls Tryz.prog 31 #[.agg (trCells T Ai ci Ao co Ac cc), .agg (ouVals o As Ab cs cb)] w fun e w' => e = .returned (.bool b) ∧ Below w.heap.size w w' := by
  have HB := Lib.hid (bel2 w (.cells (trCells T Ai ci Ao co Ac cc) 26) (.cells (ouVals o As Ab cs cb) 50))
  have w1 := Lib.hid (wrap_add2 h1 h3)
  have w2 := Lib.hid (wrap_add2 h2 h4)
  have hb' : b = (btw o.steps 0 120 && btw o.ip 0 2999 && decide ((o.ns : Int) ≤ T.slots + T.grow) && decide ((o.nb : Int) ≤ T.backs + T.growBack)) := by
    have : (btw o.steps 0 120 && btw o.ip 0 2999 && decide ((o.ns : Int) ≤ T.slots + T.grow) && decide ((o.nb : Int) ≤ T.backs + T.growBack)) = true ↔ OutOk T o := by
      simp only [Bool.and_eq_true, decide_eq_true_eq, btw_iff, OutOk, and_assoc]
    cases b <;> cases hx : (btw o.steps 0 120 && btw o.ip 0 2999 && decide ((o.ns : Int) ≤ T.slots + T.grow) && decide ((o.nb : Int) ≤ T.backs + T.growBack)) <;> simp_all
  have HS := Lib.hid (between_any o.steps 0 120 _ (btw_iff _ _ _))
  have HI := Lib.hid (between_any o.ip 0 2999 _ (btw_iff _ _ _))
  have Hb := Lib.hid hb'
  clear h1 h2 h3 h4 hb hb'
  unfold trCells ouVals at *
  generalize btw o.steps 0 120 = b1 at *
  generalize btw o.ip 0 2999 = b2 at *
  go_enter Tryz.func31, Tryz.ntmps31
  go_wp2_with fail
  refine (HS.out _).mono ?_
  rintro e w' ⟨rfl, rfl⟩
  cases b1 with
  | false =>
    go_wp2_with fail
    go_ret
    exact ⟨by rw [Hb.out]; simp, HB.out⟩
  | true =>
    go_wp2_with fail
    refine (HI.out _).mono ?_
    rintro e w' ⟨rfl, rfl⟩
    cases b2 with
    | false =>
      go_wp2_with fail
      go_ret
      exact ⟨by rw [Hb.out]; simp, HB.out⟩
    | true =>
      go_wp2_with fail
      all_goals
        go_ret
        rename_i hh
        rw [w1.out] at hh
        refine ⟨?_, HB.out⟩
        rw [Hb.out]
        simp [w2.out]
        try omega

set_option maxHeartbeats 2000000 in
theorem head_any (T : Tr) (Ai Ao Ac : Option Addr) (ci co cc : Nat) (b : Bool) (w : World) (hb : b = true ↔ Head T) :
    Calls Tryz.prog 28 #[.agg (trCells T Ai ci Ao co Ac cc)] w fun e w' => e = .returned (.bool b) ∧ Below w.heap.size w w' := by
  have HB := Lib.hid ((Below.refl w.heap.size w).alloc (Nat.le_refl _) (.cells (trCells T Ai ci Ao co Ac cc) 26))
  have hb' : b = (btw T.slots 0 48 && btw T.grow 0 48 && btw T.backs 0 48 && btw T.growBack 0 48 && decide (T.ni ≤ 1000) && decide (T.no ≤ 300) && btw T.start 0 2999) := by
    have : (btw T.slots 0 48 && btw T.grow 0 48 && btw T.backs 0 48 && btw T.growBack 0 48 && decide (T.ni ≤ 1000) && decide (T.no ≤ 300) && btw T.start 0 2999) = true ↔ Head T := by
      simp only [Bool.and_eq_true, decide_eq_true_eq, btw_iff, Head, and_assoc]
    cases b <;> cases hx : (btw T.slots 0 48 && btw T.grow 0 48 && btw T.backs 0 48 && btw T.growBack 0 48 && decide (T.ni ≤ 1000) && decide (T.no ≤ 300) && btw T.start 0 2999) <;> simp_all
  have H1 := Lib.hid (between_any T.slots 0 48 _ (btw_iff _ _ _))
  have H2 := Lib.hid (between_any T.grow 0 48 _ (btw_iff _ _ _))
  have H3 := Lib.hid (between_any T.backs 0 48 _ (btw_iff _ _ _))
  have H4 := Lib.hid (between_any T.growBack 0 48 _ (btw_iff _ _ _))
  have H5 := Lib.hid (between_any T.start 0 2999 _ (btw_iff _ _ _))
  have Hb := Lib.hid hb'
  clear hb hb'
  unfold trCells at *
  generalize btw T.slots 0 48 = b1 at *
  generalize btw T.grow 0 48 = b2 at *
  generalize btw T.backs 0 48 = b3 at *
  generalize btw T.growBack 0 48 = b4 at *
  generalize btw T.start 0 2999 = b5 at *
  go_enter Tryz.func28, Tryz.ntmps28
  go_wp2_with fail
  refine (H1.out _).mono ?_
  rintro e w' ⟨rfl, rfl⟩
  cases b1
  · go_wp2_with fail
    go_ret
    exact ⟨by rw [Hb.out]; simp, HB.out⟩
  go_wp2_with fail
  refine (H2.out _).mono ?_
  rintro e w' ⟨rfl, rfl⟩
  cases b2
  · go_wp2_with fail
    go_ret
    exact ⟨by rw [Hb.out]; simp, HB.out⟩
  go_wp2_with fail
  refine (H3.out _).mono ?_
  rintro e w' ⟨rfl, rfl⟩
  cases b3
  · go_wp2_with fail
    go_ret
    exact ⟨by rw [Hb.out]; simp, HB.out⟩
  go_wp2_with fail
  refine (H4.out _).mono ?_
  rintro e w' ⟨rfl, rfl⟩
  cases b4
  · go_wp2_with fail
    go_ret
    exact ⟨by rw [Hb.out]; simp, HB.out⟩
  by_cases h1 : T.ni ≤ 1000
  · have h1' : (T.ni : Int) ≤ 1000 := by omega
    by_cases h2 : T.no ≤ 300
    · have h2' : (T.no : Int) ≤ 300 := by omega
      go_wp2_with fail
      refine (H5.out _).mono ?_
      rintro e w' ⟨rfl, rfl⟩
      go_wp2_with fail
      go_ret
      exact ⟨by rw [Hb.out]; simp [h1, h2], HB.out⟩
    · have h2' : ¬ (T.no : Int) ≤ 300 := by omega
      go_wp2_with fail
      go_ret
      exact ⟨by rw [Hb.out]; simp [h2], HB.out⟩
  · have h1' : ¬ (T.ni : Int) ≤ 1000 := by omega
    go_wp2_with fail
    go_ret
    exact ⟨by rw [Hb.out]; simp [h1], HB.out⟩

set_option maxHeartbeats 2000000 in
theorem cells_any (A : Option Addr) (c n : Nat) (f : Nat → Int) (B : Nat) (b : Bool) (w : World) (hl : IntsAt w B A n f) (hn : n ≤ 300000) (hb : b = true ↔ CellsOk n f) :
    Calls Tryz.prog 29 #[.slice A n c] w fun e w' => e = .returned (.bool b) ∧ w = w' := by
  have HL := Lib.hid hl
  have Hb := Lib.hid hb
  clear hl hb
  go_enter Tryz.func29, Tryz.ntmps29
  go_wp2_with fail
  go_loopg [3, 8] n (fun g vl vj wr => ∃ j : Nat, g = n - j ∧ vl = .int .i64 (if j = 0 then -1 else f (j - 1)) ∧ vj = .int .i64 j ∧ j ≤ n ∧ Hid (∀ i, i < j → 0 ≤ f i ∧ f i < 3000 ∧ (0 < i → f (i - 1) < f i)) ∧ wr = w)
  case atStart => exact ⟨0, rfl, rfl, rfl, by omega, fun i hi => by omega, rfl⟩
  case round =>
    obtain ⟨j, hg, rfl, rfl, hj, HJ, rfl⟩ := hrel
    have Hg := Lib.hid hg
    clear hg
    by_cases hlt : j < n
    · have hno : ¬ (0 ≤ f j ∧ f j < 3000 ∧ (0 < j → f (j - 1) < f j)) → b = false := fun h => bfalse Hb.out (fun h2 => h (h2 j hlt))
      have Hno := Lib.hid hno
      obtain ⟨bl, off, rfl, hbl, hc⟩ := HL.out.resolve_left (by omega)
      have c1 := hc j hlt
      have hlt' : (j : Int) < (n : Int) := by omega
      have hlast : (if j = 0 then (-1 : Int) else f (j - 1)) < f j ↔ (if j = 0 then 0 ≤ f j else f (j - 1) < f j) := by split <;> omega
      have Hlast := Lib.hid hlast
      have hlow : ∀ (h : ¬ j = 0), 0 ≤ f (j - 1) := fun h => (HJ.out (j - 1) (by omega)).1
      have Hlow := Lib.hid hlow
      clear hno hc hlast hlow
      generalize hla : (if j = 0 then (-1 : Int) else f (j - 1)) = la at *
      have Hla := Lib.hid hla
      clear hla
      by_cases h0 : f j ≤ la
      · obtain rfl : b = false := Hno.out (fun h => by
          have h4 := (Hlast.out).2 (by split; exact h.1; exact h.2.2 (by omega))
          omega)
        go_wp2_with fail
        go_ret
        exact ⟨rfl, rfl⟩
      · by_cases h1 : 3000 ≤ f j
        · obtain rfl : b = false := Hno.out (fun h => by have := h.2.1; omega)
          go_wp2_with fail
          go_ret
          exact ⟨rfl, rfl⟩
        · have hok : 0 ≤ f j ∧ f j < 3000 ∧ (0 < j → f (j - 1) < f j) := by
            have h4 := (Hlast.out).1 (by omega)
            by_cases hj0 : j = 0
            · rw [if_pos hj0] at h4
              exact ⟨h4, by omega, fun h => by omega⟩
            · rw [if_neg hj0] at h4
              have := Hlow.out hj0
              exact ⟨by omega, by omega, fun _ => h4⟩
          have Hok := Lib.hid hok
          clear hok
          go_wp2_with fail
          go_roundg (n - (j + 1))
          case rel =>
            refine ⟨j + 1, rfl, by simp, by go_num, by omega, fun i hi => ?_, rfl⟩
            by_cases hij : i = j
            · subst hij; exact Hok.out
            · exact HJ.out i (by omega)
          case measure => have := Hg.out; omega
    · obtain rfl : j = n := by omega
      obtain rfl : b = true := btrue Hb.out HJ.out
      generalize (if j = 0 then (-1 : Int) else f (j - 1)) = la at *
      go_wp2_with fail
      go_ret
      exact ⟨rfl, rfl⟩
end Go.Proofs.YtoaidcjjjoafjaaGreatDoor.Ir
