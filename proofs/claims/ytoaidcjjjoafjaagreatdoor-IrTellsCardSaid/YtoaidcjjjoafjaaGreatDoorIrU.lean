/-
  The document's book: are two lists, two traces alike?
-/
import Derived.Test.YtoaidcjjjoafjaaGreatDoorIrL
set_option linter.unusedVariables false
set_option linter.unusedSimpArgs false
set_option linter.unnecessarySimpa false
set_option linter.deprecated false
namespace Go.Proofs.YtoaidcjjjoafjaaGreatDoor.Ir
open Go.RowKit

set_option maxHeartbeats 4000000 in
set_option maxRecDepth 100000 in
theorem same_ints (A A' : Option Addr) (n m c c' : Nat) (f f' : Nat → Int) (B B' : Nat) (b : Bool) (w : World) (h : IntsAt w B A n f) (h' : IntsAt w B' A' m f') (hn : n ≤ 300000) (hm : m ≤ 300000) (hb : b = true ↔ EqL n f m f') :
    Calls Tryz.prog 20 #[.slice A n c, .slice A' m c'] w fun e w' => e = .returned (.bool b) ∧ ∃ q, w' = w.drewN q := by
  have HA := Lib.hid h
  have HA' := Lib.hid h'
  have Hb := Lib.hid hb
  clear h h' hb
  by_cases hnm : n = m
  case neg =>
    obtain rfl : b = false := bfalse Hb.out (fun k => hnm k.1)
    have e1 : ((n : Int) == (m : Int)) = false := by simp; omega
    have e2 : ¬ (n : Int) = (m : Int) := by omega
    clear HA HA' Hb
    go_enter Tryz.func20, Tryz.ntmps20
    go_wp2_with fail
    go_ret
    exact ⟨rfl, 0, rfl⟩
  subst hnm
  go_enter Tryz.func20, Tryz.ntmps20
  go_wp2_with fail
  go_loopg [5] n (fun g vj wr => ∃ j q : Nat, g = n - j ∧ vj = .int .i64 j ∧ j ≤ n ∧ Hid (∀ i, i < j → f i = f' i) ∧ wr = w.drewN q)
  case atStart => exact ⟨0, 0, rfl, rfl, by omega, fun i hi => by omega, rfl⟩
  case round =>
    obtain ⟨j, q, hg, rfl, hj, HJ, rfl⟩ := hrel
    have Hg := Lib.hid hg
    clear hg
    by_cases hlt : j < n
    · have hlt' : (j : Int) < (n : Int) := by omega
      obtain ⟨b1, o1, rfl, _, h1⟩ := HA.out.resolve_left (by omega)
      obtain ⟨b2, o2, rfl, _, h2⟩ := HA'.out.resolve_left (by omega)
      have x0 := h1 j hlt
      have y0 := h2 j hlt
      clear h1 h2
      by_cases he : f j = f' j
      · have hq : (f j == f' j) = true := by simpa using he
        have HN : Hid (∀ i, i < j + 1 → f i = f' i) := fun i hi => by
          by_cases hij : i = j
          · subst hij; exact he
          · exact HJ.out i (by omega)
        clear he
        generalize f j = p at *
        generalize f' j = r at *
        go_wp2_with fail
        go_quiet (fail)
        go_wp2_with fail
        go_roundg (n - (j + 1))
        case rel => exact ⟨j + 1, _, rfl, by go_num, by omega, HN, rfl⟩
        case measure => have := Hg.out; omega
      · obtain rfl : b = false := bfalse Hb.out (fun k => he (k.2 j hlt))
        have hq : (f j == f' j) = false := by simpa using he
        clear he
        generalize f j = p at *
        generalize f' j = r at *
        go_wp2_with fail
        go_quiet (fail)
        go_wp2_with fail
        go_ret
        exact ⟨rfl, _, World.drewN_drewN _ _ _⟩
    · obtain rfl : j = n := by omega
      obtain rfl : b = true := btrue Hb.out ⟨rfl, HJ.out⟩
      go_wp2_with fail
      go_ret
      exact ⟨rfl, q, rfl⟩

set_option maxHeartbeats 4000000 in
set_option maxRecDepth 100000 in
theorem same_codes (A A' : Option Addr) (n m c c' : Nat) (f f' : Nat → Ins) (B B' : Nat) (b : Bool) (w : World) (h : InsAt w B A n f) (h' : InsAt w B' A' m f') (hn : n ≤ 300000) (hm : m ≤ 300000) (hb : b = true ↔ EqL n f m f') :
    Calls Tryz.prog 41 #[.slice A n c, .slice A' m c'] w fun e w' => e = .returned (.bool b) ∧ ∃ q, w' = w.drewN q := by
  have HA := Lib.hid h
  have HA' := Lib.hid h'
  have Hb := Lib.hid hb
  clear h h' hb
  by_cases hnm : n = m
  case neg =>
    obtain rfl : b = false := bfalse Hb.out (fun k => hnm k.1)
    have e1 : ((n : Int) == (m : Int)) = false := by simp; omega
    have e2 : ¬ (n : Int) = (m : Int) := by omega
    clear HA HA' Hb
    go_enter Tryz.func41, Tryz.ntmps41
    go_wp2_with fail
    go_ret
    exact ⟨rfl, 0, rfl⟩
  subst hnm
  go_enter Tryz.func41, Tryz.ntmps41
  go_wp2_with fail
  go_loopg [5] n (fun g vj wr => ∃ j q : Nat, g = n - j ∧ vj = .int .i64 j ∧ j ≤ n ∧ Hid (∀ i, i < j → f i = f' i) ∧ wr = w.drewN q)
  case atStart => exact ⟨0, 0, rfl, rfl, by omega, fun i hi => by omega, rfl⟩
  case round =>
    obtain ⟨j, q, hg, rfl, hj, HJ, rfl⟩ := hrel
    have Hg := Lib.hid hg
    clear hg
    by_cases hlt : j < n
    · have hlt' : (j : Int) < (n : Int) := by omega
      obtain ⟨b1, o1, rfl, _, h1⟩ := HA.out.resolve_left (by omega)
      obtain ⟨b2, o2, rfl, _, h2⟩ := HA'.out.resolve_left (by omega)
      obtain ⟨x0, x1, x2, x3, x4⟩ := h1 j hlt
      obtain ⟨y0, y1, y2, y3, y4⟩ := h2 j hlt
      clear h1 h2
      have hall : b = true → f j = f' j := fun k => (Hb.out.1 k).2 j hlt
      have Hall := Lib.hid hall
      clear hall
      obtain ⟨fj, hfj⟩ : ∃ x, x = f j := ⟨_, rfl⟩
      obtain ⟨gj, hgj⟩ : ∃ x, x = f' j := ⟨_, rfl⟩
      rw [← hfj] at x0 x1 x2 x3 x4 Hall
      rw [← hgj] at y0 y1 y2 y3 y4 Hall
      have Hfg : Hid (fj = gj → ∀ i, i < j + 1 → f i = f' i) := fun k i hi => by
        by_cases hij : i = j
        · subst hij; rw [← hfj, ← hgj, k]
        · exact HJ.out i (by omega)
      clear hfj hgj
      obtain ⟨p0, p1, p2, p3, p4⟩ := fj
      obtain ⟨r0, r1, r2, r3, r4⟩ := gj
      dsimp only at x0 x1 x2 x3 x4 y0 y1 y2 y3 y4
      have hm : Tryz.prog.eqGuardType Tryz.prog.depth 42 = false := by kernel_rfl
      have hq := eqIns p0 p1 p2 p3 p4 r0 r1 r2 r3 r4
      obtain ⟨bq, hbq⟩ : ∃ x, x = decide (p0 = r0 ∧ p1 = r1 ∧ p2 = r2 ∧ p3 = r3 ∧ p4 = r4) := ⟨_, rfl⟩
      rw [← hbq] at hq
      have Hbq : Hid (bq = true ↔ (⟨p0, p1, p2, p3, p4⟩ : Ins) = ⟨r0, r1, r2, r3, r4⟩) := by
        refine Lib.hid ?_
        rw [hbq, decide_eq_true_eq]
        exact ⟨fun ⟨h0, h1, h2, h3, h4⟩ => by subst h0 h1 h2 h3 h4; rfl, fun h => by injection h with h0 h1 h2 h3 h4; exact ⟨h0, h1, h2, h3, h4⟩⟩
      clear hbq
      cases bq with
      | false =>
        obtain rfl : b = false := by
          cases b with
          | false => rfl
          | true => exact absurd (Hbq.out.2 (Hall.out rfl)) (by simp)
        go_upto_region 6 with fail
        go_quiet (fail)
        go_wp2_with fail
        go_ret
        exact ⟨rfl, _, World.drewN_drewN _ _ _⟩
      | true =>
        have HN := Lib.hid (Hfg.out (Hbq.out.1 (by trivial)))
        go_upto_region 6 with fail
        go_quiet (fail)
        go_wp2_with fail
        go_roundg (n - (j + 1))
        case rel => exact ⟨j + 1, _, rfl, by go_num, by omega, HN, rfl⟩
        case measure => have := Hg.out; omega
    · obtain rfl : j = n := by omega
      obtain rfl : b = true := btrue Hb.out ⟨rfl, HJ.out⟩
      go_wp2_with fail
      go_ret
      exact ⟨rfl, q, rfl⟩
end Go.Proofs.YtoaidcjjjoafjaaGreatDoor.Ir
