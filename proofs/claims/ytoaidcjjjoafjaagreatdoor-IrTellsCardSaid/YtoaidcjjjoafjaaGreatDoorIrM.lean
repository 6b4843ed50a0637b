/-
  Chapter 14 (ir): are two traces alike?
-/
import Derived.Test.YtoaidcjjjoafjaaGreatDoorIrL
set_option linter.unusedVariables false
set_option linter.unusedSimpArgs false
set_option linter.unnecessarySimpa false
set_option linter.deprecated false
namespace Go.Proofs.YtoaidcjjjoafjaaGreatDoor.Ir
open Go.RowKit

def EqO (n : Nat) (f : Nat → Ou) (m : Nat) (g : Nat → Ou) : Prop := n = m ∧ ∀ i, i < n → Alike (f i) (g i)
set_option maxHeartbeats 4000000 in
set_option maxRecDepth 100000 in
theorem eq_outs (fv : Value) (hfv : fv = .func (.func 39) #[] #[]) (A A' : Option Addr) (n m c c' : Nat) (f f' : Nat → Ou) (B B' : Nat) (b : Bool) (w : World) (hB : B ≤ w.heap.size) (hB' : B' ≤ w.heap.size) (h : OutsAt w B A n f) (h' : OutsAt w B' A' m f') (hn : n ≤ 300000) (hm : m ≤ 300000) (hb : b = true ↔ EqO n f m f') :
    Calls Tryz.prog 38 #[.slice A n c, .slice A' m c', fv] w fun e w' => e = .returned (.bool b) ∧ Below w.heap.size w w' := by
  have HA := Lib.hid h
  have HA' := Lib.hid h'
  have Hb := Lib.hid hb
  have HB := Lib.hid hB
  have HB' := Lib.hid hB'
  clear h h' hb hB hB'
  subst hfv
  by_cases hnm : n = m
  case neg =>
    obtain rfl : b = false := bfalse Hb.out (fun k => hnm k.1)
    have e1 : ((n : Int) == (m : Int)) = false := by simp; omega
    have e2 : ¬ (n : Int) = (m : Int) := by omega
    clear HA HA' Hb
    go_enter Tryz.func38, Tryz.ntmps38
    go_wp2_with fail
    go_ret
    exact ⟨rfl, Below.refl _ _⟩
  subst hnm
  go_enter Tryz.func38, Tryz.ntmps38
  go_wp2_with fail
  go_loopg [17] n (fun g vj wr => ∃ j : Nat, g = n - j ∧ vj = .int .i64 j ∧ j ≤ n ∧ Hid (∀ i, i < j → Alike (f i) (f' i)) ∧ Hid (Below w.heap.size w wr))
  case atStart => exact ⟨0, rfl, rfl, by omega, fun i hi => by omega, Below.refl _ _⟩
  case round =>
    obtain ⟨j, hg, rfl, hj, HJ, HW⟩ := hrel
    have Hg := Lib.hid hg
    clear hg
    by_cases hlt : j < n
    · have hlt' : (j : Int) < (n : Int) := by omega
      obtain ⟨b1, o1, rfl, l1, h1⟩ := (HA.out.below (HW.out.mono HB.out)).resolve_left (by omega)
      obtain ⟨b2, o2, rfl, l2, h2⟩ := (HA'.out.below (HW.out.mono HB'.out)).resolve_left (by omega)
      obtain ⟨_, _, _, _, ⟨rfl, rfl, ⟨As, cs, rfl, hs⟩, ⟨Ab, cb, rfl, hk⟩, ls, lb⟩, x0, x1, x2, x3⟩ := h1 j hlt
      obtain ⟨_, _, _, _, ⟨rfl, rfl, ⟨As', cs', rfl, hs'⟩, ⟨Ab', cb', rfl, hk'⟩, ls', lb'⟩, y0, y1, y2, y3⟩ := h2 j hlt
      obtain ⟨ba, hba⟩ := bool_of2 (P := Alike (f j) (f' j))
      have Hba := Lib.hid hba
      have hal : Hid (∀ W, Below wr.heap.size wr W → Calls Tryz.prog 39 #[.agg (ouVals (f j) As Ab cs cb), .agg (ouVals (f' j) As' Ab' cs' cb')] W fun e w' => e = .returned (.bool ba) ∧ Below W.heap.size W w') := fun W hW =>
        alike_any (f j) (f' j) As Ab As' Ab' cs cb cs' cb' B B' ba W (Nat.le_trans HB.out (Nat.le_trans HW.out.size hW.size)) (Nat.le_trans HB'.out (Nat.le_trans HW.out.size hW.size)) (hs.below (hW.mono (Nat.le_trans HB.out HW.out.size))) (hk.below (hW.mono (Nat.le_trans HB.out HW.out.size)))
          (hs'.below (hW.mono (Nat.le_trans HB'.out HW.out.size))) (hk'.below (hW.mono (Nat.le_trans HB'.out HW.out.size))) ls lb ls' lb' hba
      unfold ouVals at hal
      have hl1 : b1 < wr.heap.size := Nat.lt_of_lt_of_le l1 (Nat.le_trans HB.out HW.out.size)
      have hl2 : b2 < wr.heap.size := Nat.lt_of_lt_of_le l2 (Nat.le_trans HB'.out HW.out.size)
      clear h1 h2 hs hk hs' hk' ls lb ls' lb' hba l1 l2
      go_wp2_with fail
      refine (hal.out _ (bel2 wr _ _)).mono ?_
      rintro e w2 ⟨rfl, hb2⟩
      have hbx := bel2 wr (.cells #[.int .i64 (f j).ip, .int .i64 (f j).steps, .slice As (f j).ns cs, .slice Ab (f j).nb cb] 50) (.cells #[.int .i64 (f' j).ip, .int .i64 (f' j).steps, .slice As' (f' j).ns cs', .slice Ab' (f' j).nb cb'] 50)
      have HW2 : Hid (Below w.heap.size w w2) := HW.out.trans ((hbx.trans (hb2.mono hbx.size)).mono HW.out.size)
      clear hb2 hbx hal x0 x1 x2 x3 y0 y1 y2 y3 HW
      cases ba with
      | false =>
        obtain rfl : b = false := bfalse Hb.out (fun h => by have := Hba.out.2 (h.2 j hlt); cases this)
        go_wp2_with fail
        go_ret
        exact ⟨rfl, HW2.out⟩
      | true =>
        have hn9 := hn
        go_wp2_with fail
        go_roundg (n - (j + 1))
        case rel =>
          refine ⟨j + 1, rfl, by go_num, by omega, fun i hi => ?_, HW2⟩
          by_cases hij : i = j
          · subst hij; exact Hba.out.1 (by trivial)
          · exact HJ.out i (by omega)
        case measure => have := Hg.out; omega
    · obtain rfl : j = n := by omega
      obtain rfl : b = true := btrue Hb.out ⟨rfl, HJ.out⟩
      go_wp2_with fail
      go_ret
      exact ⟨rfl, HW.out⟩

/-- Two traces are alike in all. -/
def SameT (a b : Tr) : Prop := a.start = b.start ∧ a.slots = b.slots ∧ a.backs = b.backs ∧ a.grow = b.grow ∧ a.growBack = b.growBack ∧ a.last = b.last ∧ EqL a.ni a.ins b.ni b.ins ∧ EqO a.no a.outs b.no b.outs ∧ EqL a.nc a.cells b.nc b.cells
set_option maxHeartbeats 4000000 in
set_option maxRecDepth 100000 in
theorem same_any (T U : Tr) (Ai Ao Ac Bi Bo Bc : Option Addr) (ci co cc di do_ dc : Nat) (B B' : Nat) (b : Bool) (w : World) (hB : B ≤ w.heap.size) (hB' : B' ≤ w.heap.size) (h : TrAt w B T Ai Ao Ac) (h' : TrAt w B' U Bi Bo Bc) (hb : b = true ↔ SameT T U) :
    Calls Tryz.prog 9 #[.agg (trCells T Ai ci Ao co Ac cc), .agg (trCells U Bi di Bo do_ Bc dc)] w fun e w' => e = .returned (.bool b) ∧ Below w.heap.size w w' := by
  have hbel := bel2 w (.cells (trCells T Ai ci Ao co Ac cc) 26) (.cells (trCells U Bi di Bo do_ Bc dc) 26)
  have ka : Blk (w.alloc (.cells (trCells T Ai ci Ao co Ac cc) 26)) w.heap.size 26 (trCells T Ai ci Ao co Ac cc) := Blk.new _ _ _
  have kb0 : Blk ((w.alloc (.cells (trCells T Ai ci Ao co Ac cc) 26)).alloc (.cells (trCells U Bi di Bo do_ Bc dc) 26)) (w.alloc (.cells (trCells T Ai ci Ao co Ac cc) 26)).heap.size 26 (trCells U Bi di Bo do_ Bc dc) := Blk.new _ _ _
  have ka := ka.below ((Below.refl _ _).alloc (Nat.le_refl _) (.cells (trCells U Bi di Bo do_ Bc dc) 26)) ka.lt
  have hsz : (w.alloc (.cells (trCells T Ai ci Ao co Ac cc) 26)).heap.size = w.heap.size + 1 := by simp
  rw [hsz] at kb0
  obtain ⟨b1, hb1⟩ := bool_of2 (P := EqL T.ni T.ins U.ni U.ins)
  obtain ⟨b2, hb2⟩ := bool_of2 (P := EqO T.no T.outs U.no U.outs)
  obtain ⟨b3, hb3⟩ := bool_of2 (P := EqL T.nc T.cells U.nc U.cells)
  have H1 : Hid (∀ W, Below w.heap.size w W → Calls Tryz.prog 37 #[.slice Ai T.ni ci, .slice Bi U.ni di] W fun e w' => e = .returned (.bool b1) ∧ ∃ q, w' = W.drewN q) := fun W hW => eq_ins Ai Bi T.ni U.ni ci di T.ins U.ins B B' b1 W (h.ins.below (hW.mono hB)) (h'.ins.below (hW.mono hB')) h.fewI h'.fewI hb1
  have H2 : Hid (∀ W, Below w.heap.size w W → Calls Tryz.prog 38 #[.slice Ao T.no co, .slice Bo U.no do_, .func (.func 39) #[] #[]] W fun e w' => e = .returned (.bool b2) ∧ Below W.heap.size W w') := fun W hW =>
    eq_outs _ rfl Ao Bo T.no U.no co do_ T.outs U.outs B B' b2 W (Nat.le_trans hB hW.size) (Nat.le_trans hB' hW.size) (h.outs.below (hW.mono hB)) (h'.outs.below (hW.mono hB')) h.fewO h'.fewO hb2
  have H3 : Hid (∀ W, Below w.heap.size w W → Calls Tryz.prog 40 #[.slice Ac T.nc cc, .slice Bc U.nc dc] W fun e w' => e = .returned (.bool b3) ∧ ∃ q, w' = W.drewN q) := fun W hW => eq_ints Ac Bc T.nc U.nc cc dc T.cells U.cells B B' b3 W (h.cells.below (hW.mono hB)) (h'.cells.below (hW.mono hB')) h.fewC h'.fewC hb3
  have HB := Lib.hid hbel
  have Hb := Lib.hid hb
  have Hb1 := Lib.hid hb1
  have Hb2 := Lib.hid hb2
  have Hb3 := Lib.hid hb3
  have KA := Lib.hid ka
  have KB := Lib.hid kb0
  clear hbel ka kb0 hsz hb1 hb2 hb3 h h' hb hB hB'
  unfold trCells at *
  go_enter Tryz.func9, Tryz.ntmps9
  go_upto_region 1 with fail
  generalize ((w.alloc (.cells #[.int .i64 T.start, .int .i64 T.slots, .int .i64 T.backs, .int .i64 T.grow, .int .i64 T.growBack, .slice Ai T.ni ci, .slice Ao T.no co, .int .i64 T.last, .slice Ac T.nc cc] 26)).alloc (.cells #[.int .i64 U.start, .int .i64 U.slots, .int .i64 U.backs, .int .i64 U.grow, .int .i64 U.growBack, .slice Bi U.ni di, .slice Bo U.no do_, .int .i64 U.last, .slice Bc U.nc dc] 26)) = w2 at *
  have k0 : w2.cell? ⟨w.heap.size, 0, none⟩ = some (.int .i64 T.start) := KA.out.cell 0
  have k1 : w2.cell? ⟨w.heap.size, 1, none⟩ = some (.int .i64 T.slots) := KA.out.cell 1
  have k2 : w2.cell? ⟨w.heap.size, 2, none⟩ = some (.int .i64 T.backs) := KA.out.cell 2
  have k3 : w2.cell? ⟨w.heap.size, 3, none⟩ = some (.int .i64 T.grow) := KA.out.cell 3
  have k4 : w2.cell? ⟨w.heap.size, 4, none⟩ = some (.int .i64 T.growBack) := KA.out.cell 4
  have k5 : w2.cell? ⟨w.heap.size, 5, none⟩ = some (.slice Ai T.ni ci) := KA.out.cell 5
  have k6 : w2.cell? ⟨w.heap.size, 6, none⟩ = some (.slice Ao T.no co) := KA.out.cell 6
  have k7 : w2.cell? ⟨w.heap.size, 7, none⟩ = some (.int .i64 T.last) := KA.out.cell 7
  have k8 : w2.cell? ⟨w.heap.size, 8, none⟩ = some (.slice Ac T.nc cc) := KA.out.cell 8
  have l0 : w2.cell? ⟨w.heap.size + 1, 0, none⟩ = some (.int .i64 U.start) := KB.out.cell 0
  have l1 : w2.cell? ⟨w.heap.size + 1, 1, none⟩ = some (.int .i64 U.slots) := KB.out.cell 1
  have l2 : w2.cell? ⟨w.heap.size + 1, 2, none⟩ = some (.int .i64 U.backs) := KB.out.cell 2
  have l3 : w2.cell? ⟨w.heap.size + 1, 3, none⟩ = some (.int .i64 U.grow) := KB.out.cell 3
  have l4 : w2.cell? ⟨w.heap.size + 1, 4, none⟩ = some (.int .i64 U.growBack) := KB.out.cell 4
  have l5 : w2.cell? ⟨w.heap.size + 1, 5, none⟩ = some (.slice Bi U.ni di) := KB.out.cell 5
  have l6 : w2.cell? ⟨w.heap.size + 1, 6, none⟩ = some (.slice Bo U.no do_) := KB.out.cell 6
  have l7 : w2.cell? ⟨w.heap.size + 1, 7, none⟩ = some (.int .i64 U.last) := KB.out.cell 7
  have l8 : w2.cell? ⟨w.heap.size + 1, 8, none⟩ = some (.slice Bc U.nc dc) := KB.out.cell 8
  by_cases h0 : T.start = U.start
  case neg =>
    obtain rfl : b = false := bfalse Hb.out (fun h => h0 h.1)
    have e0 : (T.start == U.start) = false := by simpa using h0
    go_wp2_with fail
    go_ret
    exact ⟨rfl, HB.out⟩
  have e0 : (T.start == U.start) = true := by simpa using h0
  have Hh0 := Lib.hid h0
  clear h0
  by_cases h1 : T.slots = U.slots
  case neg =>
    obtain rfl : b = false := bfalse Hb.out (fun h => h1 h.2.1)
    have e1 : (T.slots == U.slots) = false := by simpa using h1
    go_wp2_with fail
    go_ret
    exact ⟨rfl, HB.out⟩
  have e1 : (T.slots == U.slots) = true := by simpa using h1
  have Hh1 := Lib.hid h1
  clear h1
  by_cases h2 : T.backs = U.backs
  case neg =>
    obtain rfl : b = false := bfalse Hb.out (fun h => h2 h.2.2.1)
    have e2 : (T.backs == U.backs) = false := by simpa using h2
    go_wp2_with fail
    go_ret
    exact ⟨rfl, HB.out⟩
  have e2 : (T.backs == U.backs) = true := by simpa using h2
  have Hh2 := Lib.hid h2
  clear h2
  by_cases h3 : T.grow = U.grow
  case neg =>
    obtain rfl : b = false := bfalse Hb.out (fun h => h3 h.2.2.2.1)
    have e3 : (T.grow == U.grow) = false := by simpa using h3
    go_wp2_with fail
    go_ret
    exact ⟨rfl, HB.out⟩
  have e3 : (T.grow == U.grow) = true := by simpa using h3
  have Hh3 := Lib.hid h3
  clear h3
  by_cases h4 : T.growBack = U.growBack
  case neg =>
    obtain rfl : b = false := bfalse Hb.out (fun h => h4 h.2.2.2.2.1)
    have e4 : (T.growBack == U.growBack) = false := by simpa using h4
    go_wp2_with fail
    go_ret
    exact ⟨rfl, HB.out⟩
  have e4 : (T.growBack == U.growBack) = true := by simpa using h4
  have Hh4 := Lib.hid h4
  clear h4
  by_cases h5 : T.last = U.last
  case neg =>
    obtain rfl : b = false := bfalse Hb.out (fun h => h5 h.2.2.2.2.2.1)
    have e5 : (T.last == U.last) = false := by simpa using h5
    go_wp2_with fail
    go_ret
    exact ⟨rfl, HB.out⟩
  have e5 : (T.last == U.last) = true := by simpa using h5
  have Hh5 := Lib.hid h5
  clear h5
  have HN := Lib.hid (And.intro Hh0.out (And.intro Hh1.out (And.intro Hh2.out (And.intro Hh3.out (And.intro Hh4.out Hh5.out)))))
  go_wp2_with fail
  refine (H1.out w2 HB.out).mono ?_
  rintro e w' ⟨rfl, q, rfl⟩
  have HB1 := Lib.hid (below_of_draw HB.out q)
  cases b1 with
  | false =>
    obtain rfl : b = false := bfalse Hb.out (fun h => by have := Hb1.out.2 h.2.2.2.2.2.2.1; cases this)
    go_wp2_with fail
    go_ret
    exact ⟨rfl, HB1.out⟩
  | true =>
  go_wp2_with fail
  refine (H2.out (w2.drewN q) HB1.out).mono ?_
  rintro e w3 ⟨rfl, hb3⟩
  have HB3 := Lib.hid (HB1.out.trans (hb3.mono HB1.out.size))
  have KA3 := Lib.hid ((KA.out.drewN q).below hb3 KA.out.lt)
  have KB3 := Lib.hid ((KB.out.drewN q).below hb3 KB.out.lt)
  clear hb3 k0 k1 k2 k3 k4 k5 k6 k7 k8 l0 l1 l2 l3 l4 l5 l6 l7 l8
  cases b2 with
  | false =>
    obtain rfl : b = false := bfalse Hb.out (fun h => by have := Hb2.out.2 h.2.2.2.2.2.2.2.1; cases this)
    go_wp2_with fail
    go_ret
    exact ⟨rfl, HB3.out⟩
  | true =>
  have k8 : w3.cell? ⟨w.heap.size, 8, none⟩ = some (.slice Ac T.nc cc) := KA3.out.cell 8
  have l8 : w3.cell? ⟨w.heap.size + 1, 8, none⟩ = some (.slice Bc U.nc dc) := KB3.out.cell 8
  go_wp2_with fail
  refine (H3.out w3 HB3.out).mono ?_
  rintro e w' ⟨rfl, q2, rfl⟩
  have HB4 := Lib.hid (below_of_draw HB3.out q2)
  have hbe : b = b3 := by
    refine bool_is2 Hb.out ?_
    rw [Hb3.out]
    exact ⟨fun h => ⟨HN.out.1, HN.out.2.1, HN.out.2.2.1, HN.out.2.2.2.1, HN.out.2.2.2.2.1, HN.out.2.2.2.2.2, Hb1.out.1 (by trivial), Hb2.out.1 (by trivial), h⟩, fun h => h.2.2.2.2.2.2.2.2⟩
  subst hbe
  go_wp2_with fail
  go_ret
  exact ⟨rfl, HB4.out⟩
end Go.Proofs.YtoaidcjjjoafjaaGreatDoor.Ir
