/-
  Chapter 14 (ir): are two traces alike? Their lists.
-/
import Derived.Test.YtoaidcjjjoafjaaGreatDoorIrF
import Derived.Test.YtoaidcjjjoafjaaGreatDoorShelf
import Derived.Laws.StructEq
set_option linter.unusedVariables false
set_option linter.unusedSimpArgs false
set_option linter.unnecessarySimpa false
set_option linter.deprecated false
namespace Go.Proofs.YtoaidcjjjoafjaaGreatDoor.Ir
open Go.RowKit

theorem bool_of2 {P : Prop} : ∃ b : Bool, b = true ↔ P := by
  by_cases h : P
  · exact ⟨true, by simp [h]⟩
  · exact ⟨false, by simp [h]⟩
theorem bool_is2 {a b : Bool} {P : Prop} (h : a = true ↔ P) (k : b = true ↔ P) : a = b := by cases a <;> cases b <;> simp_all
def EqL {α : Type} (n : Nat) (f : Nat → α) (m : Nat) (g : Nat → α) : Prop := n = m ∧ ∀ i, i < n → f i = g i
theorem eq_ints (A A' : Option Addr) (n m c c' : Nat) (f f' : Nat → Int) (B B' : Nat) (b : Bool) (w : World) (h : IntsAt w B A n f) (h' : IntsAt w B' A' m f') (hn : n ≤ 300000) (hm : m ≤ 300000) (hb : b = true ↔ EqL n f m f') :
    Calls Tryz.prog 40 #[.slice A n c, .slice A' m c'] w fun e w' => e = .returned (.bool b) ∧ ∃ q, w' = w.drewN q := by
  by_cases hnm : n = m
  case neg =>
    obtain rfl : b = false := bfalse hb (fun k => hnm k.1)
    exact (Tryz.slices_Equal_int_lens A A' n c m c' w hnm).mono fun e w' h => ⟨h.1, 0, h.2⟩
  subst hnm
  rcases Nat.eq_zero_or_pos n with rfl | hpos
  · obtain rfl : b = true := btrue hb ⟨rfl, fun i hi => by omega⟩
    exact (Tryz.slices_Equal_int_empty A A' c 0 c' w (by omega)).mono fun e w' h => ⟨h.1, 0, h.2⟩
  obtain ⟨b1, o1, rfl, _, h1⟩ := h.resolve_left (by omega)
  obtain ⟨b2, o2, rfl, _, h2⟩ := h'.resolve_left (by omega)
  have len : ∀ f : Nat → Int, ((List.range n).map f).length = n := fun f => by simp
  have get : ∀ (f : Nat → Int) j, j < n → ((List.range n).map f).getD j 0 = f j := fun f j hj => by simp [List.getD_eq_getElem?_getD, hj]
  refine (Tryz.slices_Equal_int b1 o1 n c b2 o2 n c' ((List.range n).map f) ((List.range n).map f') w (by rw [len]; exact Nat.le_refl _) (by rw [len]; exact Nat.le_refl _) (by omega) (by omega) (fun j hj => ?_) (fun j hj => ?_)).mono fun e w' h => ⟨?_, h.2⟩
  · rw [len] at hj
    rw [get f j hj]
    exact h1 j hj
  · rw [len] at hj
    rw [get f' j hj]
    exact h2 j hj
  · rw [h.1]
    congr 2
    have e1 : ∀ f : Nat → Int, ((List.range n).map f).take n = (List.range n).map f := fun f => List.take_of_length_le (by rw [len]; exact Nat.le_refl _)
    rw [e1, e1]
    refine bool_is2 ?_ hb
    rw [beq_iff_eq]
    constructor
    · intro he
      refine ⟨rfl, fun i hi => ?_⟩
      rw [← get f i hi, ← get f' i hi, he]
    · rintro ⟨_, he⟩
      exact List.map_congr_left fun i hi => he i (by simpa using hi)

theorem eqIns (p0 p1 p2 p3 p4 r0 r1 r2 r3 r4 : Int) (w : World) : (Op.equalIn 10000 42 (.agg #[.int .i64 p0, .int .i64 p1, .int .i64 p2, .int .i64 p3, .int .i64 p4]) (.agg #[.int .i64 r0, .int .i64 r1, .int .i64 r2, .int .i64 r3, .int .i64 r4])).run Tryz.prog w = .ok (decide (p0 = r0 ∧ p1 = r1 ∧ p2 = r2 ∧ p3 = r3 ∧ p4 = r4)) w := by
  have u3 := Tryz.underlying3
  rw [show (10000 : Nat) = 9999 + 1 from rfl, run_equalIn_agg w 9999 42 _ _ (by kernel_rfl) (by kernel_rfl)]
  simp only [Program.fieldsOf, Tryz.underlying42]
  go_simp
  by_cases h0 : p0 = r0 <;> by_cases h1 : p1 = r1 <;> by_cases h2 : p2 = r2 <;> by_cases h3 : p3 = r3 <;> by_cases h4 : p4 = r4 <;> simp [h0, h1, h2, h3, h4]
/-- The five of an instruction. -/
theorem ins_ext {i j : Ins} (h0 : i.op = j.op) (h1 : i.a = j.a) (h2 : i.b = j.b) (h3 : i.c = j.c) (h4 : i.x = j.x) : i = j := by
  cases i; cases j; simp_all

set_option maxHeartbeats 4000000 in
set_option maxRecDepth 100000 in
theorem eq_ins (A A' : Option Addr) (n m c c' : Nat) (f f' : Nat → Ins) (B B' : Nat) (b : Bool) (w : World) (h : InsAt w B A n f) (h' : InsAt w B' A' m f') (hn : n ≤ 300000) (hm : m ≤ 300000) (hb : b = true ↔ EqL n f m f') :
    Calls Tryz.prog 37 #[.slice A n c, .slice A' m c'] w fun e w' => e = .returned (.bool b) ∧ ∃ q, w' = w.drewN q := by
  have HA := Lib.hid h
  have HA' := Lib.hid h'
  have Hb := Lib.hid hb
  clear h h' hb
  by_cases hnm : n = m
  case neg =>
    obtain rfl : b = false := bfalse Hb.out (fun k => hnm k.1)
    have e1 : ((n : Int) == (m : Int)) = false := by simp; omega
    have e2 : ¬ (n : Int) = (m : Int) := by omega
    clear HA HA' Hb
    go_enter Tryz.func37, Tryz.ntmps37
    go_wp2_with fail
    go_ret
    exact ⟨rfl, 0, rfl⟩
  subst hnm
  go_enter Tryz.func37, Tryz.ntmps37
  go_wp2_with fail
  go_loopg [13] n (fun g vj wr => ∃ j q : Nat, g = n - j ∧ vj = .int .i64 j ∧ j ≤ n ∧ Hid (∀ i, i < j → f i = f' i) ∧ wr = w.drewN q)
  case atStart => exact ⟨0, 0, rfl, rfl, by omega, fun i hi => by omega, rfl⟩
  case round =>
    obtain ⟨j, q, hg, rfl, hj, HJ, rfl⟩ := hrel
    have Hg := Lib.hid hg
    clear hg
    by_cases hlt : j < n
    · have hlt' : (j : Int) < (n : Int) := by omega
      obtain ⟨b1, o1, rfl, _, h1⟩ := HA.out.resolve_left (by omega)
      obtain ⟨b2, o2, rfl, _, h2⟩ := HA'.out.resolve_left (by omega)
      obtain ⟨x0, x1, x2, x3, x4⟩ := h1 j hlt
      obtain ⟨y0, y1, y2, y3, y4⟩ := h2 j hlt
      clear h1 h2
      have hall : b = true → f j = f' j := fun k => (Hb.out.1 k).2 j hlt
      have Hall := Lib.hid hall
      clear hall
      obtain ⟨fj, hfj⟩ : ∃ x, x = f j := ⟨_, rfl⟩
      obtain ⟨gj, hgj⟩ : ∃ x, x = f' j := ⟨_, rfl⟩
      rw [← hfj] at x0 x1 x2 x3 x4 Hall
      rw [← hgj] at y0 y1 y2 y3 y4 Hall
      have Hfg : Hid (fj = gj → ∀ i, i < j + 1 → f i = f' i) := fun k i hi => by
        by_cases hij : i = j
        · subst hij; rw [← hfj, ← hgj, k]
        · exact HJ.out i (by omega)
      clear hfj hgj
      obtain ⟨p0, p1, p2, p3, p4⟩ := fj
      obtain ⟨r0, r1, r2, r3, r4⟩ := gj
      dsimp only at x0 x1 x2 x3 x4 y0 y1 y2 y3 y4
      have hm : Tryz.prog.eqGuardType Tryz.prog.depth 42 = false := by kernel_rfl
      have hq := eqIns p0 p1 p2 p3 p4 r0 r1 r2 r3 r4
      obtain ⟨bq, hbq⟩ : ∃ x, x = decide (p0 = r0 ∧ p1 = r1 ∧ p2 = r2 ∧ p3 = r3 ∧ p4 = r4) := ⟨_, rfl⟩
      rw [← hbq] at hq
      have Hbq : Hid (bq = true ↔ (⟨p0, p1, p2, p3, p4⟩ : Ins) = ⟨r0, r1, r2, r3, r4⟩) := by
        refine Lib.hid ?_
        rw [hbq, decide_eq_true_eq]
        exact ⟨fun ⟨h0, h1, h2, h3, h4⟩ => by subst h0 h1 h2 h3 h4; rfl, fun h => by injection h with h0 h1 h2 h3 h4; exact ⟨h0, h1, h2, h3, h4⟩⟩
      clear hbq
      cases bq with
      | false =>
        obtain rfl : b = false := by
          cases b with
          | false => rfl
          | true => exact absurd (Hbq.out.2 (Hall.out rfl)) (by simp)
        go_upto_region 6 with fail
        go_quiet (fail)
        go_wp2_with fail
        go_ret
        exact ⟨rfl, _, World.drewN_drewN _ _ _⟩
      | true =>
        have HN := Lib.hid (Hfg.out (Hbq.out.1 (by trivial)))
        go_upto_region 6 with fail
        go_quiet (fail)
        go_wp2_with fail
        go_roundg (n - (j + 1))
        case rel => exact ⟨j + 1, _, rfl, by go_num, by omega, HN, rfl⟩
        case measure => have := Hg.out; omega
    · obtain rfl : j = n := by omega
      obtain rfl : b = true := btrue Hb.out ⟨rfl, HJ.out⟩
      go_wp2_with fail
      go_ret
      exact ⟨rfl, q, rfl⟩

theorem EqL.outs {b : Bool} {P Q : Prop} (h : b = true ↔ P) (k : P ↔ Q) : b = true ↔ Q := h.trans k
/-- Two exits are alike. -/
def Alike (o o' : Ou) : Prop := o.ip = o'.ip ∧ o.steps = o'.steps ∧ EqL o.ns o.st o'.ns o'.st ∧ EqL o.nb o.bk o'.nb o'.bk

set_option maxHeartbeats 4000000 in
set_option maxRecDepth 100000 in
theorem alike_any (o o' : Ou) (As Ab As' Ab' : Option Addr) (cs cb cs' cb' : Nat) (B B' : Nat) (b : Bool) (w : World) (hB : B ≤ w.heap.size) (hB' : B' ≤ w.heap.size) (hs : IntsAt w B As o.ns o.st) (hk : IntsAt w B Ab o.nb o.bk) (hs' : IntsAt w B' As' o'.ns o'.st) (hk' : IntsAt w B' Ab' o'.nb o'.bk)
    (l1 : o.ns ≤ 300000) (l2 : o.nb ≤ 300000) (l3 : o'.ns ≤ 300000) (l4 : o'.nb ≤ 300000) (hb : b = true ↔ Alike o o') :
    Calls Tryz.prog 39 #[.agg (ouVals o As Ab cs cb), .agg (ouVals o' As' Ab' cs' cb')] w fun e w' => e = .returned (.bool b) ∧ Below w.heap.size w w' := by
  have hbel := bel2 w (.cells (ouVals o As Ab cs cb) 50) (.cells (ouVals o' As' Ab' cs' cb') 50)
  have HB := Lib.hid hbel
  have Hb := Lib.hid hb
  obtain ⟨b1, hb1⟩ := bool_of2 (P := EqL o.ns o.st o'.ns o'.st)
  obtain ⟨b2, hb2⟩ := bool_of2 (P := EqL o.nb o.bk o'.nb o'.bk)
  have H1 : Hid (∀ W, Below w.heap.size w W → Calls Tryz.prog 40 #[.slice As o.ns cs, .slice As' o'.ns cs'] W fun e w' => e = .returned (.bool b1) ∧ ∃ q, w' = W.drewN q) := fun W hW => eq_ints As As' o.ns o'.ns cs cs' o.st o'.st B B' b1 W (hs.below (hW.mono hB)) (hs'.below (hW.mono hB')) l1 l3 hb1
  have H2 : Hid (∀ W, Below w.heap.size w W → Calls Tryz.prog 40 #[.slice Ab o.nb cb, .slice Ab' o'.nb cb'] W fun e w' => e = .returned (.bool b2) ∧ ∃ q, w' = W.drewN q) := fun W hW => eq_ints Ab Ab' o.nb o'.nb cb cb' o.bk o'.bk B B' b2 W (hk.below (hW.mono hB)) (hk'.below (hW.mono hB')) l2 l4 hb2
  have Hb1 := Lib.hid hb1
  have Hb2 := Lib.hid hb2
  clear hbel hs hk hs' hk' hb hb1 hb2 l1 l2 l3 l4
  unfold ouVals at *
  go_enter Tryz.func39, Tryz.ntmps39
  by_cases h0 : o.ip = o'.ip
  case neg =>
    obtain rfl : b = false := bfalse Hb.out (fun h => h0 h.1)
    have e0 : (o.ip == o'.ip) = false := by simpa using h0
    go_wp2_with fail
    go_ret
    exact ⟨rfl, HB.out⟩
  by_cases h1 : o.steps = o'.steps
  case neg =>
    obtain rfl : b = false := bfalse Hb.out (fun h => h1 h.2.1)
    have e0 : (o.ip == o'.ip) = true := by simpa using h0
    have e1 : (o.steps == o'.steps) = false := by simpa using h1
    clear h0
    go_wp2_with fail
    go_ret
    exact ⟨rfl, HB.out⟩
  have e0 : (o.ip == o'.ip) = true := by simpa using h0
  have e1 : (o.steps == o'.steps) = true := by simpa using h1
  have H01 := Lib.hid (And.intro h0 h1)
  clear h0 h1
  go_wp2_with fail
  refine (H1.out _ HB.out).mono ?_
  rintro e w' ⟨rfl, q, rfl⟩
  have HB1 := Lib.hid (below_of_draw HB.out q)
  cases b1 with
  | false =>
    obtain rfl : b = false := bfalse Hb.out (fun h => by have := Hb1.out.2 h.2.2.1; cases this)
    go_wp2_with fail
    go_ret
    exact ⟨rfl, HB1.out⟩
  | true =>
  go_wp2_with fail
  refine (H2.out _ HB1.out).mono ?_
  rintro e w' ⟨rfl, q2, rfl⟩
  have HB2 := Lib.hid (below_of_draw HB1.out q2)
  have hbe : b = b2 := by
    refine bool_is2 Hb.out ?_
    rw [Hb2.out]
    exact ⟨fun h => ⟨H01.out.1, H01.out.2, Hb1.out.1 (by trivial), h⟩, fun h => h.2.2.2⟩
  subst hbe
  go_wp2_with fail
  go_ret
  exact ⟨rfl, by simpa only [World.drewN_drewN] using HB2.out⟩
end Go.Proofs.YtoaidcjjjoafjaaGreatDoor.Ir
