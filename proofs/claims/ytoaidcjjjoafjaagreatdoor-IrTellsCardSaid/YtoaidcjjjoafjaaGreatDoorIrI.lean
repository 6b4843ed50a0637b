/-
  Chapter 14 (ir): is a trace light?
-/
import Derived.Test.YtoaidcjjjoafjaaGreatDoorIrR
set_option linter.unusedVariables false
set_option linter.unusedSimpArgs false
set_option linter.unnecessarySimpa false
set_option linter.deprecated false
namespace Go.Proofs.YtoaidcjjjoafjaaGreatDoor.Ir
open Go.RowKit

def LightPost (T : Tr) (w : World) (e : Ending) (w' : World) : Prop := ∃ b, e = .returned (.bool b) ∧ (b = true → LightT T) ∧ Below w.heap.size w w'
theorem light_false {T : Tr} {w w' : World} (h : Below w.heap.size w w') : LightPost T w (.returned (.bool false)) w' := ⟨false, rfl, fun h => (by cases h), h⟩
theorem light_true {T : Tr} {w w' : World} (k : LightT T) (h : Below w.heap.size w w') : LightPost T w (.returned (.bool true)) w' := ⟨true, rfl, fun _ => k, h⟩

set_option maxHeartbeats 4000000 in
set_option maxRecDepth 100000 in
theorem light_any (T : Tr) (Ai Ao Ac : Option Addr) (ci co cc : Nat) (B : Nat) (w : World) (hT : TrBig w B T Ai Ao Ac) (hB : B ≤ w.heap.size) :
    Calls Tryz.prog 4 #[.agg (trCells T Ai ci Ao co Ac cc)] w (LightPost T w) := by
  have hbel := (Below.refl w.heap.size w).alloc (Nat.le_refl _) (.cells (trCells T Ai ci Ao co Ac cc) 26)
  have kb : Blk (w.alloc (.cells (trCells T Ai ci Ao co Ac cc) 26)) w.heap.size 26 (trCells T Ai ci Ao co Ac cc) := Blk.new _ _ _
  have HBel := Lib.hid hbel
  have HT := Lib.hid hT
  have HB := Lib.hid hB
  have hno := hT.fewO
  have HNo := Lib.hid hno
  clear hbel hT hB hno
  unfold trCells at *
  go_enter Tryz.func4, Tryz.ntmps4
  go_wp2_with fail
  generalize w.alloc (.cells #[.int .i64 T.start, .int .i64 T.slots, .int .i64 T.backs, .int .i64 T.grow, .int .i64 T.growBack, .slice Ai T.ni ci, .slice Ao T.no co, .int .i64 T.last, .slice Ac T.nc cc] 26) = w1 at *
  have k5 : w1.cell? ⟨w.heap.size, 5, none⟩ = some (.slice Ai T.ni ci) := kb.cell 5
  have k6 : w1.cell? ⟨w.heap.size, 6, none⟩ = some (.slice Ao T.no co) := kb.cell 6
  have k8 : w1.cell? ⟨w.heap.size, 8, none⟩ = some (.slice Ac T.nc cc) := kb.cell 8
  clear kb
  go_loopg [3] (100 : Nat) (fun gg vj wq => ∃ j : Nat, gg = 100 - j ∧ vj = .int .i64 j ∧ j ≤ 100 ∧ Hid (j ≤ T.no) ∧ Hid (∀ i, i < j → (T.outs i).ns ≤ 60 ∧ (T.outs i).nb ≤ 60) ∧ wq = w1)
  case atStart => exact ⟨0, rfl, rfl, Nat.zero_le _, Nat.zero_le _, fun i hi => by omega, rfl⟩
  case round =>
    obtain ⟨j, hg, rfl, hj, Hjn, HJ, rfl⟩ := hrel
    have Hg := Lib.hid hg
    clear hg
    by_cases hlt : j < T.no ∧ j < 100
    · have hlt1 : (j : Int) < (T.no : Int) := by omega
      have hlt2 : (j : Int) < 100 := by omega
      obtain ⟨bo, offo, rfl, hbo, hoc⟩ := HT.out.outs.resolve_left (by omega)
      obtain ⟨_, _, _, _, ⟨rfl, rfl, ⟨As, cs, rfl, hs⟩, ⟨Ab, cb, rfl, hk⟩, ls, lb⟩, o0, o1, o2, o3⟩ := hoc j hlt.1
      have q2 := (HBel.out.cell (p := ⟨bo, offo + j * 4 + 2, none⟩) (show bo < w.heap.size by have := HB.out; omega)).trans o2
      have q3 := (HBel.out.cell (p := ⟨bo, offo + j * 4 + 3, none⟩) (show bo < w.heap.size by have := HB.out; omega)).trans o3
      clear hs hk hoc o0 o1 o2 o3
      by_cases hn : 60 < (T.outs j).ns
      · have hn' : (60 : Int) < ((T.outs j).ns : Int) := by omega
        clear ls lb
        generalize (T.outs j).ns = ns at *
        generalize (T.outs j).nb = nb at *
        go_wp2_with fail
        go_ret
        exact light_false HBel.out
      · have hn' : ¬ (60 : Int) < ((T.outs j).ns : Int) := by omega
        by_cases hm : 60 < (T.outs j).nb
        · have hm' : (60 : Int) < ((T.outs j).nb : Int) := by omega
          clear ls lb
          generalize (T.outs j).ns = ns at *
          generalize (T.outs j).nb = nb at *
          go_wp2_with fail
          go_ret
          exact light_false HBel.out
        · have hm' : ¬ (60 : Int) < ((T.outs j).nb : Int) := by omega
          have Hnm := Lib.hid (And.intro hn hm)
          clear ls lb hn hm
          generalize hns : (T.outs j).ns = ns at *
          generalize hnb : (T.outs j).nb = nb at *
          have Hns := Lib.hid hns
          have Hnb := Lib.hid hnb
          clear hns hnb
          go_wp2_with fail
          go_roundg (100 - (j + 1))
          case rel =>
            refine ⟨j + 1, rfl, by go_num, by omega, by show j + 1 ≤ T.no; omega, fun i hi => ?_, rfl⟩
            by_cases hij : i = j
            · subst hij
              rw [Hns.out, Hnb.out]
              exact ⟨by have := Hnm.out.1; omega, by have := Hnm.out.2; omega⟩
            · exact HJ.out i (by omega)
          case measure => have := Hg.out; omega
    · by_cases h1 : j < T.no
      · have hj100 : j = 100 := by omega
        have h1' : (j : Int) < (T.no : Int) := by omega
        have h2' : ¬ (j : Int) < 100 := by omega
        by_cases hni : T.ni ≤ 120
        · have hni' : (T.ni : Int) ≤ 120 := by omega
          have hno' : ¬ (T.no : Int) ≤ 60 := by omega
          go_wp2_with fail
          go_ret
          exact light_false HBel.out
        · have hni' : ¬ (T.ni : Int) ≤ 120 := by omega
          go_wp2_with fail
          go_ret
          exact light_false HBel.out
      · have hjn : j = T.no := by have := Hjn.out; omega
        have h1' : ¬ (j : Int) < (T.no : Int) := by omega
        have HA : Hid (∀ i, i < T.no → (T.outs i).ns ≤ 60 ∧ (T.outs i).nb ≤ 60) := by rw [← hjn]; exact HJ
        by_cases hni : T.ni ≤ 120
        · have hni' : (T.ni : Int) ≤ 120 := by omega
          by_cases hno : T.no ≤ 60
          · have hno' : (T.no : Int) ≤ 60 := by omega
            by_cases hnc : T.nc ≤ 100
            · have hnc' : (T.nc : Int) ≤ 100 := by omega
              go_wp2_with fail
              go_ret
              exact light_true ⟨hni, hno, hnc, HA.out⟩ HBel.out
            · have hnc' : ¬ (T.nc : Int) ≤ 100 := by omega
              go_wp2_with fail
              go_ret
              exact light_false HBel.out
          · have hno' : ¬ (T.no : Int) ≤ 60 := by omega
            go_wp2_with fail
            go_ret
            exact light_false HBel.out
        · have hni' : ¬ (T.ni : Int) ≤ 120 := by omega
          go_wp2_with fail
          go_ret
          exact light_false HBel.out
end Go.Proofs.YtoaidcjjjoafjaaGreatDoor.Ir
