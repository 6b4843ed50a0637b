/-
  Chapter 14 (ir): which traces may be. (Printed by genirg.py.)
-/
import Derived.Test.YtoaidcjjjoafjaaGreatDoorIrF
set_option linter.unusedVariables false
set_option linter.unusedSimpArgs false
set_option linter.unnecessarySimpa false
set_option linter.deprecated false
namespace Go.Proofs.YtoaidcjjjoafjaaGreatDoor.Ir
open Go.RowKit

theorem bool_of {P : Prop} : ∃ b : Bool, b = true ↔ P := by
  by_cases h : P
  · exact ⟨true, by simp [h]⟩
  · exact ⟨false, by simp [h]⟩
theorem bool_is {a b : Bool} {P : Prop} (h : a = true ↔ P) (k : b = true ↔ P) : a = b := by cases a <;> cases b <;> simp_all

theorem box_below (w : World) (o : Obj) (cs : Array Value) : Below w.heap.size w ((w.alloc o).setRow w.heap.size cs) :=
  ((Below.refl w.heap.size w).alloc (Nat.le_refl _) o).trans ⟨rfl, rfl, rfl, by simp, fun k hk => setRow_other _ _ _ _ (by omega)⟩
theorem uses_few (i : Ins) : (usesL i).length ≤ 300000 := by
  have : (usesL i).length ≤ 2 := by
    unfold usesL
    repeat' split
    all_goals simp
  omega
theorem outs_few (i : Ins) : (outsL i).length ≤ 2 := by
  unfold outsL
  repeat' split
  all_goals simp
theorem uses_places {T : Tr} {k : Nat} : UsesOk T k ↔ Places T (usesL (T.ins k)).length (fun j => (usesL (T.ins k)).getD j 0) k := by
  constructor
  · intro h i hi
    refine h _ ?_
    simp [List.getD_eq_getElem?_getD, List.getElem?_eq_getElem hi]
  · intro h p hp
    obtain ⟨i, hi, rfl⟩ := List.mem_iff_getElem.1 hp
    have := h i hi
    simpa [List.getD_eq_getElem?_getD, List.getElem?_eq_getElem hi] using this
theorem outs_named {T : Tr} {k : Nat} : OutsOk T k ↔ ∀ i, i < (outsL (T.ins k)).length → Named T ((outsL (T.ins k)).getD i 0) k := by
  constructor
  · intro h i hi
    refine h _ ?_
    simp [List.getD_eq_getElem?_getD, List.getElem?_eq_getElem hi]
  · intro h p hp
    obtain ⟨i, hi, rfl⟩ := List.mem_iff_getElem.1 hp
    have := h i hi
    simpa [List.getD_eq_getElem?_getD, List.getElem?_eq_getElem hi] using this
/-- The trace in its box, and what it stands for, from then on. -/
structure In9 (w : World) (B : Nat) (T : Tr) (Ai Ao Ac : Option Addr) (ci co cc : Nat) (W : World) : Prop where
  bel : Below w.heap.size w W
  blk : Blk W w.heap.size 26 (trCells T Ai ci Ao co Ac cc)
  at_ : TrAt W B T Ai Ao Ac
theorem In9.go {w : World} {B : Nat} {T : Tr} {Ai Ao Ac : Option Addr} {ci co cc : Nat} {W W' : World} (h : In9 w B T Ai Ao Ac ci co cc W) (hB : B ≤ w.heap.size) (k : Below W.heap.size W W') : In9 w B T Ai Ao Ac ci co cc W' :=
  ⟨h.bel.trans (k.mono h.bel.size), h.blk.below k h.blk.lt, h.at_.below (k.mono (Nat.le_trans hB h.bel.size))⟩
theorem In9.draw {w : World} {B : Nat} {T : Tr} {Ai Ao Ac : Option Addr} {ci co cc : Nat} {W : World} (h : In9 w B T Ai Ao Ac ci co cc W) (n : Nat) : In9 w B T Ai Ao Ac ci co cc (W.drewN n) := ⟨below_of_draw h.bel n, h.blk, ⟨h.at_.ins, h.at_.outs, h.at_.cells, h.at_.fewI, h.at_.fewO, h.at_.fewC⟩⟩
theorem In9.new {w : World} {B : Nat} {T : Tr} {Ai Ao Ac : Option Addr} (ci co cc : Nat) (h : TrAt w B T Ai Ao Ac) (hB : B ≤ w.heap.size) : In9 w B T Ai Ao Ac ci co cc (w.alloc (.cells (trCells T Ai ci Ao co Ac cc) 26)) :=
  ⟨(Below.refl _ _).alloc (Nat.le_refl _) _, Blk.new _ _ _, h.below (((Below.refl _ _).alloc (Nat.le_refl _) _).mono hB)⟩
theorem insAt_up {w : World} {B : Nat} {T : Tr} {Ai Ao Ac : Option Addr} {ci co cc : Nat} {W : World} (hB : B ≤ w.heap.size) (h : In9 w B T Ai Ao Ac ci co cc W) : InsAt W W.heap.size Ai T.ni T.ins := by
  have h2 := h.bel.size
  exact h.at_.ins.imp id fun ⟨b, off, h3, h4, h5⟩ => ⟨b, off, h3, by omega, h5⟩
theorem IntsAt.up {W : World} {B B' n : Nat} {A : Option Addr} {f : Nat → Int} (h : IntsAt W B A n f) (hB : B ≤ B') : IntsAt W B' A n f := h.imp id fun ⟨b, off, h3, h4, h5⟩ => ⟨b, off, h3, Nat.lt_of_lt_of_le h4 hB, h5⟩
theorem OuIs.up {W : World} {B B' : Nat} {v0 v1 v2 v3 : Value} {o : Ou} (h : OuIs W B v0 v1 v2 v3 o) (hB : B ≤ B') : OuIs W B' v0 v1 v2 v3 o := by
  obtain ⟨h0, h1, ⟨A, c, h2, h3⟩, ⟨A', c', h4, h5⟩, h6, h7⟩ := h
  exact ⟨h0, h1, ⟨A, c, h2, h3.up hB⟩, ⟨A', c', h4, h5.up hB⟩, h6, h7⟩
theorem outsAt_up {w : World} {B : Nat} {T : Tr} {Ai Ao Ac : Option Addr} {ci co cc : Nat} {W : World} (hB : B ≤ w.heap.size) (h : In9 w B T Ai Ao Ac ci co cc W) : OutsAt W W.heap.size Ao T.no T.outs := by
  have h2 := h.bel.size
  exact h.at_.outs.imp id fun ⟨b, off, h3, h4, h5⟩ => ⟨b, off, h3, by omega, fun i hi => by
    obtain ⟨v0, v1, v2, v3, x, r⟩ := h5 i hi
    exact ⟨v0, v1, v2, v3, x.up (by omega), r⟩⟩

set_option maxHeartbeats 8000000 in
set_option maxRecDepth 100000 in
theorem right_any (T : Tr) (Ai Ao Ac : Option Addr) (ci co cc : Nat) (B : Nat) (b : Bool) (w : World) (hT : TrAt w B T Ai Ao Ac) (hB : B ≤ w.heap.size) (hb : b = true ↔ Right T) :
    Calls Tryz.prog 7 #[.agg (trCells T Ai ci Ao co Ac cc)] w fun e w' => e = .returned (.bool b) ∧ Below w.heap.size w w' := by
  have H1 := Lib.hid (In9.new ci co cc hT hB)
  have Hb := Lib.hid hb
  have hf1 := hT.fewI
  have hf2 := hT.fewO
  have hf3 := hT.fewC
  have HF := Lib.hid (And.intro hf1 (And.intro hf2 hf3))
  obtain ⟨bh, hbh⟩ := bool_of (P := Head T)
  obtain ⟨bc, hbc⟩ := bool_of (P := CellsOk T.nc T.cells)
  have HBH := Lib.hid hbh
  have HBC := Lib.hid hbc
  have HB := Lib.hid hB
  clear hT hb hbh hbc hB hf1 hf2 hf3
  unfold trCells at *
  go_enter Tryz.func7, Tryz.ntmps7
  go_wp2_with fail
  generalize w.alloc (.cells #[.int .i64 T.start, .int .i64 T.slots, .int .i64 T.backs, .int .i64 T.grow, .int .i64 T.growBack, .slice Ai T.ni ci, .slice Ao T.no co, .int .i64 T.last, .slice Ac T.nc cc] 26) = w1 at *
  refine (head_any T Ai Ao Ac ci co cc bh w1 HBH.out).mono ?_
  rintro e w2 ⟨rfl, hb2⟩
  have H2 := Lib.hid (H1.out.go HB.out hb2)
  clear H1 hb2
  have k0 : w2.cell? ⟨w.heap.size, 0, none⟩ = some (.int .i64 T.start) := (H2.out.blk).cell 0
  have k1 : w2.cell? ⟨w.heap.size, 1, none⟩ = some (.int .i64 T.slots) := (H2.out.blk).cell 1
  have k2 : w2.cell? ⟨w.heap.size, 2, none⟩ = some (.int .i64 T.backs) := (H2.out.blk).cell 2
  have k3 : w2.cell? ⟨w.heap.size, 3, none⟩ = some (.int .i64 T.grow) := (H2.out.blk).cell 3
  have k4 : w2.cell? ⟨w.heap.size, 4, none⟩ = some (.int .i64 T.growBack) := (H2.out.blk).cell 4
  have k5 : w2.cell? ⟨w.heap.size, 5, none⟩ = some (.slice Ai T.ni ci) := (H2.out.blk).cell 5
  have k6 : w2.cell? ⟨w.heap.size, 6, none⟩ = some (.slice Ao T.no co) := (H2.out.blk).cell 6
  have k7 : w2.cell? ⟨w.heap.size, 7, none⟩ = some (.int .i64 T.last) := (H2.out.blk).cell 7
  have k8 : w2.cell? ⟨w.heap.size, 8, none⟩ = some (.slice Ac T.nc cc) := (H2.out.blk).cell 8
  cases bh with
  | false =>
    obtain rfl : b = false := bfalse Hb.out (fun h => by have := HBH.out.2 h.1; cases this)
    go_wp2_with fail
    go_ret
    exact ⟨rfl, H2.out.bel⟩
  | true =>
  have HH : Hid (Head T) := HBH.out.1 rfl
  go_wp2_with fail
  refine (cells_any Ac cc T.nc T.cells B bc w2 H2.out.at_.cells HF.out.2.2 HBC.out).mono ?_
  rintro e w' ⟨rfl, rfl⟩
  cases bc with
  | false =>
    obtain rfl : b = false := bfalse Hb.out (fun h => by have := HBC.out.2 h.2.1; cases this)
    go_wp2_with fail
    go_ret
    exact ⟨rfl, H2.out.bel⟩
  | true =>
  obtain ⟨bn, hbn⟩ := bool_of (P := Named T T.last T.ni)
  have HBN := Lib.hid hbn
  clear hbn
  go_wp2_with fail
  refine (named_any T Ai Ao Ac ci co cc T.last T.ni B bn w2 H2.out.at_.ins H2.out.at_.outs (Nat.le_trans HB.out H2.out.bel.size) (Int.le_refl _) HBN.out).mono ?_
  rintro e w3 ⟨rfl, hb3⟩
  have H3 := Lib.hid (H2.out.go HB.out hb3)
  clear H2 hb3 k0 k1 k2 k3 k4 k5 k6 k7 k8
  have k0 : w3.cell? ⟨w.heap.size, 0, none⟩ = some (.int .i64 T.start) := (H3.out.blk).cell 0
  have k1 : w3.cell? ⟨w.heap.size, 1, none⟩ = some (.int .i64 T.slots) := (H3.out.blk).cell 1
  have k2 : w3.cell? ⟨w.heap.size, 2, none⟩ = some (.int .i64 T.backs) := (H3.out.blk).cell 2
  have k3 : w3.cell? ⟨w.heap.size, 3, none⟩ = some (.int .i64 T.grow) := (H3.out.blk).cell 3
  have k4 : w3.cell? ⟨w.heap.size, 4, none⟩ = some (.int .i64 T.growBack) := (H3.out.blk).cell 4
  have k5 : w3.cell? ⟨w.heap.size, 5, none⟩ = some (.slice Ai T.ni ci) := (H3.out.blk).cell 5
  have k6 : w3.cell? ⟨w.heap.size, 6, none⟩ = some (.slice Ao T.no co) := (H3.out.blk).cell 6
  have k7 : w3.cell? ⟨w.heap.size, 7, none⟩ = some (.int .i64 T.last) := (H3.out.blk).cell 7
  have k8 : w3.cell? ⟨w.heap.size, 8, none⟩ = some (.slice Ac T.nc cc) := (H3.out.blk).cell 8
  cases bn with
  | false =>
    obtain rfl : b = false := bfalse Hb.out (fun h => by have := HBN.out.2 h.2.2.1; cases this)
    go_wp2_with fail
    go_ret
    exact ⟨rfl, H3.out.bel⟩
  | true =>
  have hN : Named T T.last T.ni := HBN.out.1 rfl
  have HBN' := Lib.hid hN
  obtain ⟨x, hx⟩ : ∃ x : Nat, T.last = x := ⟨T.last.toNat, by have := hN.1; omega⟩
  have hxl : x < T.no := by have := hN.2.1; omega
  have hxi : (x : Int) < (T.no : Int) := by omega
  obtain ⟨bo, offo, rfl, hbo, hoc⟩ := H3.out.at_.outs.resolve_left (by omega)
  obtain ⟨_, _, _, _, ⟨rfl, rfl, ⟨As, cs, rfl, hs⟩, ⟨Ab, cb, rfl, hk⟩, ls, lb⟩, o0, o1, o2, o3⟩ := hoc x hxl
  have HX := Lib.hid hx
  rw [hx] at k7
  clear hN hx hoc hs hk o0 o2 o3 HBN
  by_cases hst : (T.outs x).steps < 1
  · obtain rfl : b = false := bfalse Hb.out (fun h => by have h4 := h.2.2.2.1; rw [HX.out, show ((x : Int)).toNat = x by omega] at h4; omega)
    generalize (T.outs x).steps = sx at *
    go_wp2_with fail
    go_ret
    exact ⟨rfl, H3.out.bel⟩
  have HST : Hid (1 ≤ (T.outs T.last.toNat).steps) := by
    refine Lib.hid ?_
    rw [HX.out, show ((x : Int)).toNat = x by omega]
    omega
  generalize (T.outs x).steps = sx at *
  go_wp2_with fail
  go_loopg [41] T.no (fun gg vj wr => ∃ j : Nat, gg = T.no - j ∧ vj = .int .i64 j ∧ j ≤ T.no ∧ Hid (In9 w B T Ai (some ⟨bo, offo, none⟩) Ac ci co cc wr) ∧ Hid (∀ i, i < j → OutOk T (T.outs i)))
  case atStart => exact ⟨0, rfl, rfl, Nat.zero_le _, H3, fun i hi => by omega⟩
  case round =>
    obtain ⟨j, hg, rfl, hj, HI, HJ⟩ := hrel
    have Hg := Lib.hid hg
    clear hg
    have k0 : wr.cell? ⟨w.heap.size, 0, none⟩ = some (.int .i64 T.start) := (HI.out.blk).cell 0
    have k1 : wr.cell? ⟨w.heap.size, 1, none⟩ = some (.int .i64 T.slots) := (HI.out.blk).cell 1
    have k2 : wr.cell? ⟨w.heap.size, 2, none⟩ = some (.int .i64 T.backs) := (HI.out.blk).cell 2
    have k3 : wr.cell? ⟨w.heap.size, 3, none⟩ = some (.int .i64 T.grow) := (HI.out.blk).cell 3
    have k4 : wr.cell? ⟨w.heap.size, 4, none⟩ = some (.int .i64 T.growBack) := (HI.out.blk).cell 4
    have k5 : wr.cell? ⟨w.heap.size, 5, none⟩ = some (.slice Ai T.ni ci) := (HI.out.blk).cell 5
    have k6 : wr.cell? ⟨w.heap.size, 6, none⟩ = some (.slice (some ⟨bo, offo, none⟩) T.no co) := (HI.out.blk).cell 6
    have k7 : wr.cell? ⟨w.heap.size, 7, none⟩ = some (.int .i64 T.last) := (HI.out.blk).cell 7
    have k8 : wr.cell? ⟨w.heap.size, 8, none⟩ = some (.slice Ac T.nc cc) := (HI.out.blk).cell 8
    by_cases hlt : j < T.no
    · have hlt' : (j : Int) < (T.no : Int) := by omega
      obtain ⟨bo', offo', hAo, hbo', hoc⟩ := HI.out.at_.outs.resolve_left (by omega)
      injection hAo with hAo
      injection hAo with hAo1 hAo2
      subst hAo1 hAo2
      obtain ⟨_, _, _, _, ⟨rfl, rfl, ⟨As, cs, rfl, hs⟩, ⟨Ab, cb, rfl, hk⟩, ls, lb⟩, o0, o1, o2, o3⟩ := hoc j hlt
      obtain ⟨bx, hbx⟩ := bool_of (P := OutOk T (T.outs j))
      have HBX := Lib.hid hbx
      clear hbx hs hk hoc ls lb
      go_upto_region 6 with fail
      have KX : Hid (Blk (wr.alloc (.cells #[.int .i64 (T.outs j).ip, .int .i64 (T.outs j).steps, .slice As (T.outs j).ns cs, .slice Ab (T.outs j).nb cb] 50)) wr.heap.size 50 #[.int .i64 (T.outs j).ip, .int .i64 (T.outs j).steps, .slice As (T.outs j).ns cs, .slice Ab (T.outs j).nb cb]) := Blk.new _ _ _
      have HX2 := Lib.hid (HI.out.go HB.out ((Below.refl _ _).alloc (Nat.le_refl _) (.cells #[.int .i64 (T.outs j).ip, .int .i64 (T.outs j).steps, .slice As (T.outs j).ns cs, .slice Ab (T.outs j).nb cb] 50)))
      generalize wr.alloc (.cells #[.int .i64 (T.outs j).ip, .int .i64 (T.outs j).steps, .slice As (T.outs j).ns cs, .slice Ab (T.outs j).nb cb] 50) = wx at *
      clear k0 k1 k2 k3 k4 k5 k6 k7 k8 o0 o1 o2 o3 HI
      have k0 : wx.cell? ⟨w.heap.size, 0, none⟩ = some (.int .i64 T.start) := (HX2.out.blk).cell 0
      have k1 : wx.cell? ⟨w.heap.size, 1, none⟩ = some (.int .i64 T.slots) := (HX2.out.blk).cell 1
      have k2 : wx.cell? ⟨w.heap.size, 2, none⟩ = some (.int .i64 T.backs) := (HX2.out.blk).cell 2
      have k3 : wx.cell? ⟨w.heap.size, 3, none⟩ = some (.int .i64 T.grow) := (HX2.out.blk).cell 3
      have k4 : wx.cell? ⟨w.heap.size, 4, none⟩ = some (.int .i64 T.growBack) := (HX2.out.blk).cell 4
      have k5 : wx.cell? ⟨w.heap.size, 5, none⟩ = some (.slice Ai T.ni ci) := (HX2.out.blk).cell 5
      have k6 : wx.cell? ⟨w.heap.size, 6, none⟩ = some (.slice (some ⟨bo, offo, none⟩) T.no co) := (HX2.out.blk).cell 6
      have k7 : wx.cell? ⟨w.heap.size, 7, none⟩ = some (.int .i64 T.last) := (HX2.out.blk).cell 7
      have k8 : wx.cell? ⟨w.heap.size, 8, none⟩ = some (.slice Ac T.nc cc) := (HX2.out.blk).cell 8
      have p0 : wx.cell? ⟨wr.heap.size, 0, none⟩ = some (.int .i64 (T.outs j).ip) := KX.out.cell 0
      have p1 : wx.cell? ⟨wr.heap.size, 1, none⟩ = some (.int .i64 (T.outs j).steps) := KX.out.cell 1
      have p2 : wx.cell? ⟨wr.heap.size, 2, none⟩ = some (.slice As (T.outs j).ns cs) := KX.out.cell 2
      have p3 : wx.cell? ⟨wr.heap.size, 3, none⟩ = some (.slice Ab (T.outs j).nb cb) := KX.out.cell 3
      go_wp2_with fail
      refine (out_any T Ai _ Ac ci co cc (T.outs j) As Ab cs cb bx wx HH.out.1 HH.out.2.2.1 HH.out.2.1 HH.out.2.2.2.1 HBX.out).mono ?_
      rintro e w4 ⟨rfl, hb4⟩
      have H4 := Lib.hid (HX2.out.go HB.out hb4)
      clear k0 k1 k2 k3 k4 k5 k6 k7 k8 p0 p1 p2 p3 hb4 HX2 KX
      cases bx with
      | false =>
        obtain rfl : b = false := bfalse Hb.out (fun h => by have := HBX.out.2 (h.2.2.2.2.1 j hlt); cases this)
        go_wp2_with fail
        go_ret
        exact ⟨rfl, H4.out.bel⟩
      | true =>
        have hf2 := HF.out.2.1
        go_wp2_with fail
        go_roundg (T.no - (j + 1))
        case rel =>
          refine ⟨j + 1, rfl, by go_num, by omega, H4, fun i hi => ?_⟩
          by_cases hij : i = j
          · subst hij; exact HBX.out.1 trivial
          · exact HJ.out i (by omega)
        case measure => have := Hg.out; omega
    · obtain rfl : j = T.no := by omega
      have HJ2 := HJ
      clear hj hlt
      go_wp2_with fail
      go_loopg [53] T.ni (fun gg vj wq => ∃ j : Nat, gg = T.ni - j ∧ vj = .int .i64 j ∧ j ≤ T.ni ∧ Hid (In9 w B T Ai (some ⟨bo, offo, none⟩) Ac ci co cc wq) ∧ Hid (∀ i, i < j → Single T (T.ins i) ∧ UsesOk T i ∧ OutsOk T i))
      case atStart => exact ⟨0, rfl, rfl, Nat.zero_le _, HI, fun i hi => by omega⟩
      case round =>
        clear k0 k1 k2 k3 k4 k5 k6 k7 k8 HI
        obtain ⟨j, hg, rfl, hj, HI, HJ⟩ := hrel
        have Hg := Lib.hid hg
        clear hg
        have k0 : wr.cell? ⟨w.heap.size, 0, none⟩ = some (.int .i64 T.start) := (HI.out.blk).cell 0
        have k1 : wr.cell? ⟨w.heap.size, 1, none⟩ = some (.int .i64 T.slots) := (HI.out.blk).cell 1
        have k2 : wr.cell? ⟨w.heap.size, 2, none⟩ = some (.int .i64 T.backs) := (HI.out.blk).cell 2
        have k3 : wr.cell? ⟨w.heap.size, 3, none⟩ = some (.int .i64 T.grow) := (HI.out.blk).cell 3
        have k4 : wr.cell? ⟨w.heap.size, 4, none⟩ = some (.int .i64 T.growBack) := (HI.out.blk).cell 4
        have k5 : wr.cell? ⟨w.heap.size, 5, none⟩ = some (.slice Ai T.ni ci) := (HI.out.blk).cell 5
        have k6 : wr.cell? ⟨w.heap.size, 6, none⟩ = some (.slice (some ⟨bo, offo, none⟩) T.no co) := (HI.out.blk).cell 6
        have k7 : wr.cell? ⟨w.heap.size, 7, none⟩ = some (.int .i64 T.last) := (HI.out.blk).cell 7
        have k8 : wr.cell? ⟨w.heap.size, 8, none⟩ = some (.slice Ac T.nc cc) := (HI.out.blk).cell 8
        by_cases hlt : j < T.ni
        · have hlt' : (j : Int) < (T.ni : Int) := by omega
          obtain ⟨bi, offi, rfl, hbi, hci⟩ := HI.out.at_.ins.resolve_left (by omega)
          obtain ⟨x0, x1, x2, x3, x4⟩ := hci j hlt
          obtain ⟨bs, hbs⟩ := bool_of (P := Single T (T.ins j))
          have HBS := Lib.hid hbs
          clear hbs hci
          go_upto_region 12 with fail
          have KX : Hid (Blk (wr.alloc (.cells #[.int .i64 (T.ins j).op, .int .i64 (T.ins j).a, .int .i64 (T.ins j).b, .int .i64 (T.ins j).c, .int .i64 (T.ins j).x] 42)) wr.heap.size 42 #[.int .i64 (T.ins j).op, .int .i64 (T.ins j).a, .int .i64 (T.ins j).b, .int .i64 (T.ins j).c, .int .i64 (T.ins j).x]) := Blk.new _ _ _
          have HX2 := Lib.hid (HI.out.go HB.out ((Below.refl _ _).alloc (Nat.le_refl _) (.cells #[.int .i64 (T.ins j).op, .int .i64 (T.ins j).a, .int .i64 (T.ins j).b, .int .i64 (T.ins j).c, .int .i64 (T.ins j).x] 42)))
          have hne : w.heap.size < wr.heap.size := HI.out.blk.lt
          have Hne := Lib.hid hne
          generalize wr.alloc (.cells #[.int .i64 (T.ins j).op, .int .i64 (T.ins j).a, .int .i64 (T.ins j).b, .int .i64 (T.ins j).c, .int .i64 (T.ins j).x] 42) = wx at *
          generalize hbx : wr.heap.size = bx at *
          clear k0 k1 k2 k3 k4 k5 k6 k7 k8 x0 x1 x2 x3 x4 HI hne
          have S1 : wx.drew.cell? ⟨w.heap.size, 0, none⟩ = some (.int .i64 T.start) ∧ wx.drew.cell? ⟨w.heap.size, 1, none⟩ = some (.int .i64 T.slots) ∧ wx.drew.cell? ⟨w.heap.size, 2, none⟩ = some (.int .i64 T.backs) ∧ wx.drew.cell? ⟨w.heap.size, 3, none⟩ = some (.int .i64 T.grow) ∧ wx.drew.cell? ⟨w.heap.size, 4, none⟩ = some (.int .i64 T.growBack) ∧ wx.drew.cell? ⟨w.heap.size, 5, none⟩ = some (.slice (some ⟨bi, offi, none⟩) T.ni ci) ∧ wx.drew.cell? ⟨w.heap.size, 6, none⟩ = some (.slice (some ⟨bo, offo, none⟩) T.no co) ∧ wx.drew.cell? ⟨w.heap.size, 7, none⟩ = some (.int .i64 T.last) ∧ wx.drew.cell? ⟨w.heap.size, 8, none⟩ = some (.slice Ac T.nc cc) ∧ wx.drew.cell? ⟨bx, 0, none⟩ = some (.int .i64 (T.ins j).op) ∧ wx.drew.cell? ⟨bx, 1, none⟩ = some (.int .i64 (T.ins j).a) ∧ wx.drew.cell? ⟨bx, 2, none⟩ = some (.int .i64 (T.ins j).b) ∧ wx.drew.cell? ⟨bx, 3, none⟩ = some (.int .i64 (T.ins j).c) ∧ wx.drew.cell? ⟨bx, 4, none⟩ = some (.int .i64 (T.ins j).x) := ⟨HX2.out.blk.cell 0, HX2.out.blk.cell 1, HX2.out.blk.cell 2, HX2.out.blk.cell 3, HX2.out.blk.cell 4, HX2.out.blk.cell 5, HX2.out.blk.cell 6, HX2.out.blk.cell 7, HX2.out.blk.cell 8, KX.out.cell 0, KX.out.cell 1, KX.out.cell 2, KX.out.cell 3, KX.out.cell 4⟩
          have S1f : (fun W : World => W.cell? ⟨w.heap.size, 0, none⟩ = some (.int .i64 T.start) ∧ W.cell? ⟨w.heap.size, 1, none⟩ = some (.int .i64 T.slots) ∧ W.cell? ⟨w.heap.size, 2, none⟩ = some (.int .i64 T.backs) ∧ W.cell? ⟨w.heap.size, 3, none⟩ = some (.int .i64 T.grow) ∧ W.cell? ⟨w.heap.size, 4, none⟩ = some (.int .i64 T.growBack) ∧ W.cell? ⟨w.heap.size, 5, none⟩ = some (.slice (some ⟨bi, offi, none⟩) T.ni ci) ∧ W.cell? ⟨w.heap.size, 6, none⟩ = some (.slice (some ⟨bo, offo, none⟩) T.no co) ∧ W.cell? ⟨w.heap.size, 7, none⟩ = some (.int .i64 T.last) ∧ W.cell? ⟨w.heap.size, 8, none⟩ = some (.slice Ac T.nc cc) ∧ W.cell? ⟨bx, 0, none⟩ = some (.int .i64 (T.ins j).op) ∧ W.cell? ⟨bx, 1, none⟩ = some (.int .i64 (T.ins j).a) ∧ W.cell? ⟨bx, 2, none⟩ = some (.int .i64 (T.ins j).b) ∧ W.cell? ⟨bx, 3, none⟩ = some (.int .i64 (T.ins j).c) ∧ W.cell? ⟨bx, 4, none⟩ = some (.int .i64 (T.ins j).x)) wx.drew := S1
          clear S1
          cases bs with
          | false =>
            obtain rfl : b = false := bfalse Hb.out (fun h => by have := HBS.out.2 (h.2.2.2.2.2 j hlt).1; cases this)
            refine Ph.wp_region_U 12 (fun W : World => W.cell? ⟨w.heap.size, 0, none⟩ = some (.int .i64 T.start) ∧ W.cell? ⟨w.heap.size, 1, none⟩ = some (.int .i64 T.slots) ∧ W.cell? ⟨w.heap.size, 2, none⟩ = some (.int .i64 T.backs) ∧ W.cell? ⟨w.heap.size, 3, none⟩ = some (.int .i64 T.grow) ∧ W.cell? ⟨w.heap.size, 4, none⟩ = some (.int .i64 T.growBack) ∧ W.cell? ⟨w.heap.size, 5, none⟩ = some (.slice (some ⟨bi, offi, none⟩) T.ni ci) ∧ W.cell? ⟨w.heap.size, 6, none⟩ = some (.slice (some ⟨bo, offo, none⟩) T.no co) ∧ W.cell? ⟨w.heap.size, 7, none⟩ = some (.int .i64 T.last) ∧ W.cell? ⟨w.heap.size, 8, none⟩ = some (.slice Ac T.nc cc) ∧ W.cell? ⟨bx, 0, none⟩ = some (.int .i64 (T.ins j).op) ∧ W.cell? ⟨bx, 1, none⟩ = some (.int .i64 (T.ins j).a) ∧ W.cell? ⟨bx, 2, none⟩ = some (.int .i64 (T.ins j).b) ∧ W.cell? ⟨bx, 3, none⟩ = some (.int .i64 (T.ins j).c) ∧ W.cell? ⟨bx, 4, none⟩ = some (.int .i64 (T.ins j).x)) (by kernel_rfl) ?_
            change Ph.wpU _ _ _ _ _ _ 12 #[false, false, false, false, false, false, false, false, false, false, false, false] _ _
            refine Ph.U_take (i := 0) (oi := { dst := some 58, op := .load 26 (.tmp 1), type := 26, pos := "ir.go:149", after := #[], guard := none }) (v := .agg #[.int .i64 T.start, .int .i64 T.slots, .int .i64 T.backs, .int .i64 T.grow, .int .i64 T.growBack, .slice (some ⟨bi, offi, none⟩) T.ni ci, .slice (some ⟨bo, offo, none⟩) T.no co, .int .i64 T.last, .slice Ac T.nc cc]) rfl (by kernel_rfl) (by kernel_rfl) (by kernel_rfl) (by kernel_rfl) (fun _ _ _ h => h) (Or.inl ⟨by rfl, ?_⟩) (by assumption) ?_
            · intro W hSw; (try dsimp only at hSw); go_simp
            simp only [Act.put, List.setIfInBounds_toArray, List.set_cons_zero, List.set_cons_succ]
            refine Ph.U_take (i := 1) (oi := { dst := some 59, op := .load 42 (.tmp 6), type := 42, pos := "ir.go:149", after := #[], guard := none }) (v := .agg #[.int .i64 (T.ins j).op, .int .i64 (T.ins j).a, .int .i64 (T.ins j).b, .int .i64 (T.ins j).c, .int .i64 (T.ins j).x]) rfl (by kernel_rfl) (by kernel_rfl) (by kernel_rfl) (by kernel_rfl) (fun _ _ _ h => h) (Or.inl ⟨by rfl, ?_⟩) (by assumption) ?_
            · intro W hSw; (try dsimp only at hSw); go_simp
            simp only [Act.put, List.setIfInBounds_toArray, List.set_cons_zero, List.set_cons_succ]
            refine Ph.U_ready (rs := [2]) (by kernel_rfl) (by simp) ?_
            refine Ph.AllReadyU.cons rfl (fun K hK => ?_) Ph.AllReadyU.nil
            go_simp
            refine (single_any T _ _ Ac ci co cc (T.ins j) _ wx.drew HH.out.1 HH.out.2.2.1 HBS.out).mono ?_
            rintro e w2 ⟨rfl, hb2⟩
            have H2 := Lib.hid ((HX2.out.draw 1).go HB.out hb2)
            have K2 : Hid (Blk w2 bx 42 #[.int .i64 (T.ins j).op, .int .i64 (T.ins j).a, .int .i64 (T.ins j).b, .int .i64 (T.ins j).c, .int .i64 (T.ins j).x]) := KX.out.drew.below hb2 KX.out.lt
            have S2 : (fun W : World => W.cell? ⟨w.heap.size, 0, none⟩ = some (.int .i64 T.start) ∧ W.cell? ⟨w.heap.size, 1, none⟩ = some (.int .i64 T.slots) ∧ W.cell? ⟨w.heap.size, 2, none⟩ = some (.int .i64 T.backs) ∧ W.cell? ⟨w.heap.size, 3, none⟩ = some (.int .i64 T.grow) ∧ W.cell? ⟨w.heap.size, 4, none⟩ = some (.int .i64 T.growBack) ∧ W.cell? ⟨w.heap.size, 5, none⟩ = some (.slice (some ⟨bi, offi, none⟩) T.ni ci) ∧ W.cell? ⟨w.heap.size, 6, none⟩ = some (.slice (some ⟨bo, offo, none⟩) T.no co) ∧ W.cell? ⟨w.heap.size, 7, none⟩ = some (.int .i64 T.last) ∧ W.cell? ⟨w.heap.size, 8, none⟩ = some (.slice Ac T.nc cc) ∧ W.cell? ⟨bx, 0, none⟩ = some (.int .i64 (T.ins j).op) ∧ W.cell? ⟨bx, 1, none⟩ = some (.int .i64 (T.ins j).a) ∧ W.cell? ⟨bx, 2, none⟩ = some (.int .i64 (T.ins j).b) ∧ W.cell? ⟨bx, 3, none⟩ = some (.int .i64 (T.ins j).c) ∧ W.cell? ⟨bx, 4, none⟩ = some (.int .i64 (T.ins j).x)) w2 := ⟨H2.out.blk.cell 0, H2.out.blk.cell 1, H2.out.blk.cell 2, H2.out.blk.cell 3, H2.out.blk.cell 4, H2.out.blk.cell 5, H2.out.blk.cell 6, H2.out.blk.cell 7, H2.out.blk.cell 8, K2.out.cell 0, K2.out.cell 1, K2.out.cell 2, K2.out.cell 3, K2.out.cell 4⟩
            clear hb2
            refine hK.out _ _ (fun _ => S2) ?_
            clear hK K
            simp only [Act.put, List.setIfInBounds_toArray, List.set_cons_zero, List.set_cons_succ]
            refine Ph.U_take (i := 3) (oi := { dst := some 61, op := .unOp UnOp.not 4 (.tmp 60), type := 4, pos := "ir.go:149", after := #[{ on := 2, ground := .data }], guard := none }) (v := .bool true) rfl (by kernel_rfl) (by kernel_rfl) (by kernel_rfl) (by kernel_rfl) (fun _ _ _ h => h) (Or.inl ⟨by rfl, ?_⟩) (by assumption) ?_
            · intro W hSw; (try dsimp only at hSw); go_simp
            simp only [Act.put, List.setIfInBounds_toArray, List.set_cons_zero, List.set_cons_succ]
            refine Ph.U_take (i := 4) (oi := { dst := some 62, op := .move (.tmp 61), type := 4, pos := "ir.go:149", after := #[{ on := 3, ground := .data }, { on := 2, ground := .chain }], guard := none }) (v := .bool true) rfl (by kernel_rfl) (by kernel_rfl) (by kernel_rfl) (by kernel_rfl) (fun _ _ _ h => h) (Or.inl ⟨by rfl, ?_⟩) (by assumption) ?_
            · intro W hSw; (try dsimp only at hSw); go_simp
            simp only [Act.put, List.setIfInBounds_toArray, List.set_cons_zero, List.set_cons_succ]
            refine Ph.U_take (i := 5) (oi := { dst := some 63, op := .load 26 (.tmp 1), type := 26, pos := "ir.go:149", after := #[{ on := 4, ground := .guard }], guard := some (4, false) }) (v := undef) rfl (by kernel_rfl) (by kernel_rfl) (by kernel_rfl) (by kernel_rfl) (fun _ _ _ h => h) (Or.inr ⟨by rfl, rfl⟩) (by assumption) ?_
            simp only [Act.put, List.setIfInBounds_toArray, List.set_cons_zero, List.set_cons_succ]
            refine Ph.U_take (i := 6) (oi := { dst := some 64, op := .load 42 (.tmp 6), type := 42, pos := "ir.go:149", after := #[{ on := 4, ground := .guard }], guard := some (4, false) }) (v := undef) rfl (by kernel_rfl) (by kernel_rfl) (by kernel_rfl) (by kernel_rfl) (fun _ _ _ h => h) (Or.inr ⟨by rfl, rfl⟩) (by assumption) ?_
            simp only [Act.put, List.setIfInBounds_toArray, List.set_cons_zero, List.set_cons_succ]
            refine Ph.U_take (i := 7) (oi := { dst := some 65, op := .call { callee := .value (.func 12), args := #[.tmp 64], argTypes := #[42] }, type := 24, pos := "ir.go:149", after := #[{ on := 6, ground := .data }, { on := 4, ground := .chain }, { on := 4, ground := .guard }], guard := some (4, false) }) (v := undef) rfl (by kernel_rfl) (by kernel_rfl) (by kernel_rfl) (by kernel_rfl) (fun _ _ _ h => h) (Or.inr ⟨by rfl, rfl⟩) (by assumption) ?_
            simp only [Act.put, List.setIfInBounds_toArray, List.set_cons_zero, List.set_cons_succ]
            refine Ph.U_take (i := 8) (oi := { dst := some 66, op := .move (.tmp 5), type := 3, pos := "ir.go:149", after := #[{ on := 4, ground := .guard }], guard := some (4, false) }) (v := undef) rfl (by kernel_rfl) (by kernel_rfl) (by kernel_rfl) (by kernel_rfl) (fun _ _ _ h => h) (Or.inr ⟨by rfl, rfl⟩) (by assumption) ?_
            simp only [Act.put, List.setIfInBounds_toArray, List.set_cons_zero, List.set_cons_succ]
            refine Ph.U_take (i := 9) (oi := { dst := some 67, op := .call { callee := .value (.func 33), args := #[.tmp 63, .tmp 65, .tmp 66], argTypes := #[26, 24, 3] }, type := 4, pos := "ir.go:149", after := #[{ on := 5, ground := .data }, { on := 7, ground := .data }, { on := 8, ground := .data }, { on := 7, ground := .chain }, { on := 4, ground := .guard }], guard := some (4, false) }) (v := undef) rfl (by kernel_rfl) (by kernel_rfl) (by kernel_rfl) (by kernel_rfl) (fun _ _ _ h => h) (Or.inr ⟨by rfl, rfl⟩) (by assumption) ?_
            simp only [Act.put, List.setIfInBounds_toArray, List.set_cons_zero, List.set_cons_succ]
            refine Ph.U_take (i := 10) (oi := { dst := some 68, op := .unOp UnOp.not 4 (.tmp 67), type := 4, pos := "ir.go:149", after := #[{ on := 9, ground := .data }, { on := 4, ground := .guard }], guard := some (4, false) }) (v := undef) rfl (by kernel_rfl) (by kernel_rfl) (by kernel_rfl) (by kernel_rfl) (fun _ _ _ h => h) (Or.inr ⟨by rfl, rfl⟩) (by assumption) ?_
            simp only [Act.put, List.setIfInBounds_toArray, List.set_cons_zero, List.set_cons_succ]
            refine Ph.U_take (i := 11) (oi := { dst := some 69, op := .pick (.tmp 62) (.const (Value.bool true)) (.tmp 68), type := 4, pos := "ir.go:149", after := #[{ on := 4, ground := .data }, { on := 10, ground := .data }], guard := none }) (v := .bool true) rfl (by kernel_rfl) (by kernel_rfl) (by kernel_rfl) (by kernel_rfl) (fun _ _ _ h => h) (Or.inl ⟨by rfl, ?_⟩) (by assumption) ?_
            · intro W hSw; (try dsimp only at hSw); go_simp
            simp only [Act.put, List.setIfInBounds_toArray, List.set_cons_zero, List.set_cons_succ]
            refine Ph.U_done (by kernel_rfl) ?_ _
            go_wp2_with fail
            go_ret
            exact ⟨rfl, H2.out.bel⟩
          | true =>
            refine Ph.wp_region_U 12 (fun W : World => W.cell? ⟨w.heap.size, 0, none⟩ = some (.int .i64 T.start) ∧ W.cell? ⟨w.heap.size, 1, none⟩ = some (.int .i64 T.slots) ∧ W.cell? ⟨w.heap.size, 2, none⟩ = some (.int .i64 T.backs) ∧ W.cell? ⟨w.heap.size, 3, none⟩ = some (.int .i64 T.grow) ∧ W.cell? ⟨w.heap.size, 4, none⟩ = some (.int .i64 T.growBack) ∧ W.cell? ⟨w.heap.size, 5, none⟩ = some (.slice (some ⟨bi, offi, none⟩) T.ni ci) ∧ W.cell? ⟨w.heap.size, 6, none⟩ = some (.slice (some ⟨bo, offo, none⟩) T.no co) ∧ W.cell? ⟨w.heap.size, 7, none⟩ = some (.int .i64 T.last) ∧ W.cell? ⟨w.heap.size, 8, none⟩ = some (.slice Ac T.nc cc) ∧ W.cell? ⟨bx, 0, none⟩ = some (.int .i64 (T.ins j).op) ∧ W.cell? ⟨bx, 1, none⟩ = some (.int .i64 (T.ins j).a) ∧ W.cell? ⟨bx, 2, none⟩ = some (.int .i64 (T.ins j).b) ∧ W.cell? ⟨bx, 3, none⟩ = some (.int .i64 (T.ins j).c) ∧ W.cell? ⟨bx, 4, none⟩ = some (.int .i64 (T.ins j).x)) (by kernel_rfl) ?_
            change Ph.wpU _ _ _ _ _ _ 12 #[false, false, false, false, false, false, false, false, false, false, false, false] _ _
            refine Ph.U_take (i := 0) (oi := { dst := some 58, op := .load 26 (.tmp 1), type := 26, pos := "ir.go:149", after := #[], guard := none }) (v := .agg #[.int .i64 T.start, .int .i64 T.slots, .int .i64 T.backs, .int .i64 T.grow, .int .i64 T.growBack, .slice (some ⟨bi, offi, none⟩) T.ni ci, .slice (some ⟨bo, offo, none⟩) T.no co, .int .i64 T.last, .slice Ac T.nc cc]) rfl (by kernel_rfl) (by kernel_rfl) (by kernel_rfl) (by kernel_rfl) (fun _ _ _ h => h) (Or.inl ⟨by rfl, ?_⟩) (by assumption) ?_
            · intro W hSw; (try dsimp only at hSw); go_simp
            simp only [Act.put, List.setIfInBounds_toArray, List.set_cons_zero, List.set_cons_succ]
            refine Ph.U_take (i := 1) (oi := { dst := some 59, op := .load 42 (.tmp 6), type := 42, pos := "ir.go:149", after := #[], guard := none }) (v := .agg #[.int .i64 (T.ins j).op, .int .i64 (T.ins j).a, .int .i64 (T.ins j).b, .int .i64 (T.ins j).c, .int .i64 (T.ins j).x]) rfl (by kernel_rfl) (by kernel_rfl) (by kernel_rfl) (by kernel_rfl) (fun _ _ _ h => h) (Or.inl ⟨by rfl, ?_⟩) (by assumption) ?_
            · intro W hSw; (try dsimp only at hSw); go_simp
            simp only [Act.put, List.setIfInBounds_toArray, List.set_cons_zero, List.set_cons_succ]
            refine Ph.U_ready (rs := [2]) (by kernel_rfl) (by simp) ?_
            refine Ph.AllReadyU.cons rfl (fun K hK => ?_) Ph.AllReadyU.nil
            go_simp
            refine (single_any T _ _ Ac ci co cc (T.ins j) _ wx.drew HH.out.1 HH.out.2.2.1 HBS.out).mono ?_
            rintro e w2 ⟨rfl, hb2⟩
            have H2 := Lib.hid ((HX2.out.draw 1).go HB.out hb2)
            have K2 : Hid (Blk w2 bx 42 #[.int .i64 (T.ins j).op, .int .i64 (T.ins j).a, .int .i64 (T.ins j).b, .int .i64 (T.ins j).c, .int .i64 (T.ins j).x]) := KX.out.drew.below hb2 KX.out.lt
            have S2 : (fun W : World => W.cell? ⟨w.heap.size, 0, none⟩ = some (.int .i64 T.start) ∧ W.cell? ⟨w.heap.size, 1, none⟩ = some (.int .i64 T.slots) ∧ W.cell? ⟨w.heap.size, 2, none⟩ = some (.int .i64 T.backs) ∧ W.cell? ⟨w.heap.size, 3, none⟩ = some (.int .i64 T.grow) ∧ W.cell? ⟨w.heap.size, 4, none⟩ = some (.int .i64 T.growBack) ∧ W.cell? ⟨w.heap.size, 5, none⟩ = some (.slice (some ⟨bi, offi, none⟩) T.ni ci) ∧ W.cell? ⟨w.heap.size, 6, none⟩ = some (.slice (some ⟨bo, offo, none⟩) T.no co) ∧ W.cell? ⟨w.heap.size, 7, none⟩ = some (.int .i64 T.last) ∧ W.cell? ⟨w.heap.size, 8, none⟩ = some (.slice Ac T.nc cc) ∧ W.cell? ⟨bx, 0, none⟩ = some (.int .i64 (T.ins j).op) ∧ W.cell? ⟨bx, 1, none⟩ = some (.int .i64 (T.ins j).a) ∧ W.cell? ⟨bx, 2, none⟩ = some (.int .i64 (T.ins j).b) ∧ W.cell? ⟨bx, 3, none⟩ = some (.int .i64 (T.ins j).c) ∧ W.cell? ⟨bx, 4, none⟩ = some (.int .i64 (T.ins j).x)) w2 := ⟨H2.out.blk.cell 0, H2.out.blk.cell 1, H2.out.blk.cell 2, H2.out.blk.cell 3, H2.out.blk.cell 4, H2.out.blk.cell 5, H2.out.blk.cell 6, H2.out.blk.cell 7, H2.out.blk.cell 8, K2.out.cell 0, K2.out.cell 1, K2.out.cell 2, K2.out.cell 3, K2.out.cell 4⟩
            clear hb2
            refine hK.out _ _ (fun _ => S2) ?_
            clear hK K
            simp only [Act.put, List.setIfInBounds_toArray, List.set_cons_zero, List.set_cons_succ]
            refine Ph.U_take (i := 3) (oi := { dst := some 61, op := .unOp UnOp.not 4 (.tmp 60), type := 4, pos := "ir.go:149", after := #[{ on := 2, ground := .data }], guard := none }) (v := .bool false) rfl (by kernel_rfl) (by kernel_rfl) (by kernel_rfl) (by kernel_rfl) (fun _ _ _ h => h) (Or.inl ⟨by rfl, ?_⟩) (by assumption) ?_
            · intro W hSw; (try dsimp only at hSw); go_simp
            simp only [Act.put, List.setIfInBounds_toArray, List.set_cons_zero, List.set_cons_succ]
            refine Ph.U_take (i := 4) (oi := { dst := some 62, op := .move (.tmp 61), type := 4, pos := "ir.go:149", after := #[{ on := 3, ground := .data }, { on := 2, ground := .chain }], guard := none }) (v := .bool false) rfl (by kernel_rfl) (by kernel_rfl) (by kernel_rfl) (by kernel_rfl) (fun _ _ _ h => h) (Or.inl ⟨by rfl, ?_⟩) (by assumption) ?_
            · intro W hSw; (try dsimp only at hSw); go_simp
            simp only [Act.put, List.setIfInBounds_toArray, List.set_cons_zero, List.set_cons_succ]
            refine Ph.U_take (i := 5) (oi := { dst := some 63, op := .load 26 (.tmp 1), type := 26, pos := "ir.go:149", after := #[{ on := 4, ground := .guard }], guard := some (4, false) }) (v := .agg #[.int .i64 T.start, .int .i64 T.slots, .int .i64 T.backs, .int .i64 T.grow, .int .i64 T.growBack, .slice (some ⟨bi, offi, none⟩) T.ni ci, .slice (some ⟨bo, offo, none⟩) T.no co, .int .i64 T.last, .slice Ac T.nc cc]) rfl (by kernel_rfl) (by kernel_rfl) (by kernel_rfl) (by kernel_rfl) (fun _ _ _ h => h) (Or.inl ⟨by rfl, ?_⟩) (by assumption) ?_
            · intro W hSw; (try dsimp only at hSw); go_simp
            simp only [Act.put, List.setIfInBounds_toArray, List.set_cons_zero, List.set_cons_succ]
            refine Ph.U_take (i := 6) (oi := { dst := some 64, op := .load 42 (.tmp 6), type := 42, pos := "ir.go:149", after := #[{ on := 4, ground := .guard }], guard := some (4, false) }) (v := .agg #[.int .i64 (T.ins j).op, .int .i64 (T.ins j).a, .int .i64 (T.ins j).b, .int .i64 (T.ins j).c, .int .i64 (T.ins j).x]) rfl (by kernel_rfl) (by kernel_rfl) (by kernel_rfl) (by kernel_rfl) (fun _ _ _ h => h) (Or.inl ⟨by rfl, ?_⟩) (by assumption) ?_
            · intro W hSw; (try dsimp only at hSw); go_simp
            simp only [Act.put, List.setIfInBounds_toArray, List.set_cons_zero, List.set_cons_succ]
            refine Ph.U_take (i := 8) (oi := { dst := some 66, op := .move (.tmp 5), type := 3, pos := "ir.go:149", after := #[{ on := 4, ground := .guard }], guard := some (4, false) }) (v := .int .i64 (j : Int)) rfl (by kernel_rfl) (by kernel_rfl) (by kernel_rfl) (by kernel_rfl) (fun _ _ _ h => h) (Or.inl ⟨by rfl, ?_⟩) (by assumption) ?_
            · intro W hSw; (try dsimp only at hSw); go_simp
            simp only [Act.put, List.setIfInBounds_toArray, List.set_cons_zero, List.set_cons_succ]
            refine Ph.U_ready (rs := [7]) (by kernel_rfl) (by simp) ?_
            refine Ph.AllReadyU.cons rfl (fun K hK => ?_) Ph.AllReadyU.nil
            go_simp
            refine (uses_any (T.ins j) w2).mono ?_
            rintro e w3 ⟨Au, cu, rfl, hau, hb3⟩
            have H3 := Lib.hid (H2.out.go HB.out hb3)
            have K3 : Hid (Blk w3 bx 42 #[.int .i64 (T.ins j).op, .int .i64 (T.ins j).a, .int .i64 (T.ins j).b, .int .i64 (T.ins j).c, .int .i64 (T.ins j).x]) := K2.out.below hb3 K2.out.lt
            have S3 : (fun W : World => W.cell? ⟨w.heap.size, 0, none⟩ = some (.int .i64 T.start) ∧ W.cell? ⟨w.heap.size, 1, none⟩ = some (.int .i64 T.slots) ∧ W.cell? ⟨w.heap.size, 2, none⟩ = some (.int .i64 T.backs) ∧ W.cell? ⟨w.heap.size, 3, none⟩ = some (.int .i64 T.grow) ∧ W.cell? ⟨w.heap.size, 4, none⟩ = some (.int .i64 T.growBack) ∧ W.cell? ⟨w.heap.size, 5, none⟩ = some (.slice (some ⟨bi, offi, none⟩) T.ni ci) ∧ W.cell? ⟨w.heap.size, 6, none⟩ = some (.slice (some ⟨bo, offo, none⟩) T.no co) ∧ W.cell? ⟨w.heap.size, 7, none⟩ = some (.int .i64 T.last) ∧ W.cell? ⟨w.heap.size, 8, none⟩ = some (.slice Ac T.nc cc) ∧ W.cell? ⟨bx, 0, none⟩ = some (.int .i64 (T.ins j).op) ∧ W.cell? ⟨bx, 1, none⟩ = some (.int .i64 (T.ins j).a) ∧ W.cell? ⟨bx, 2, none⟩ = some (.int .i64 (T.ins j).b) ∧ W.cell? ⟨bx, 3, none⟩ = some (.int .i64 (T.ins j).c) ∧ W.cell? ⟨bx, 4, none⟩ = some (.int .i64 (T.ins j).x)) w3 := ⟨H3.out.blk.cell 0, H3.out.blk.cell 1, H3.out.blk.cell 2, H3.out.blk.cell 3, H3.out.blk.cell 4, H3.out.blk.cell 5, H3.out.blk.cell 6, H3.out.blk.cell 7, H3.out.blk.cell 8, K3.out.cell 0, K3.out.cell 1, K3.out.cell 2, K3.out.cell 3, K3.out.cell 4⟩
            obtain ⟨bp, hbp⟩ := bool_of (P := Places T (usesL (T.ins j)).length (fun k => (usesL (T.ins j)).getD k 0) j)
            have HBP := Lib.hid hbp
            have HAu := Lib.hid hau
            clear hb3 hbp hau S1f
            refine hK.out _ _ (fun _ => S3) ?_
            clear hK K
            simp only [Act.put, List.setIfInBounds_toArray, List.set_cons_zero, List.set_cons_succ]
            refine Ph.U_ready (rs := [9]) (by kernel_rfl) (by simp) ?_
            refine Ph.AllReadyU.cons rfl (fun K hK => ?_) Ph.AllReadyU.nil
            go_simp
            refine (places_any T _ _ Ac Au ci co cc cu (usesL (T.ins j)).length (fun k => (usesL (T.ins j)).getD k 0) j w3.heap.size bp w3 (insAt_up HB.out H3.out) (Nat.le_refl _) HAu.out (uses_few _) (by omega) HBP.out).mono ?_
            rintro e w4 ⟨rfl, hb4⟩
            have H4 := Lib.hid (H3.out.go HB.out hb4)
            have K4 : Hid (Blk w4 bx 42 #[.int .i64 (T.ins j).op, .int .i64 (T.ins j).a, .int .i64 (T.ins j).b, .int .i64 (T.ins j).c, .int .i64 (T.ins j).x]) := K3.out.below hb4 K3.out.lt
            have S4 : (fun W : World => W.cell? ⟨w.heap.size, 0, none⟩ = some (.int .i64 T.start) ∧ W.cell? ⟨w.heap.size, 1, none⟩ = some (.int .i64 T.slots) ∧ W.cell? ⟨w.heap.size, 2, none⟩ = some (.int .i64 T.backs) ∧ W.cell? ⟨w.heap.size, 3, none⟩ = some (.int .i64 T.grow) ∧ W.cell? ⟨w.heap.size, 4, none⟩ = some (.int .i64 T.growBack) ∧ W.cell? ⟨w.heap.size, 5, none⟩ = some (.slice (some ⟨bi, offi, none⟩) T.ni ci) ∧ W.cell? ⟨w.heap.size, 6, none⟩ = some (.slice (some ⟨bo, offo, none⟩) T.no co) ∧ W.cell? ⟨w.heap.size, 7, none⟩ = some (.int .i64 T.last) ∧ W.cell? ⟨w.heap.size, 8, none⟩ = some (.slice Ac T.nc cc) ∧ W.cell? ⟨bx, 0, none⟩ = some (.int .i64 (T.ins j).op) ∧ W.cell? ⟨bx, 1, none⟩ = some (.int .i64 (T.ins j).a) ∧ W.cell? ⟨bx, 2, none⟩ = some (.int .i64 (T.ins j).b) ∧ W.cell? ⟨bx, 3, none⟩ = some (.int .i64 (T.ins j).c) ∧ W.cell? ⟨bx, 4, none⟩ = some (.int .i64 (T.ins j).x)) w4 := ⟨H4.out.blk.cell 0, H4.out.blk.cell 1, H4.out.blk.cell 2, H4.out.blk.cell 3, H4.out.blk.cell 4, H4.out.blk.cell 5, H4.out.blk.cell 6, H4.out.blk.cell 7, H4.out.blk.cell 8, K4.out.cell 0, K4.out.cell 1, K4.out.cell 2, K4.out.cell 3, K4.out.cell 4⟩
            clear hb4 S2 H2 K2 H3 K3 HAu
            refine hK.out _ _ (fun _ => S4) ?_
            clear hK K
            simp only [Act.put, List.setIfInBounds_toArray, List.set_cons_zero, List.set_cons_succ]
            refine Ph.U_take (i := 10) (oi := { dst := some 68, op := .unOp UnOp.not 4 (.tmp 67), type := 4, pos := "ir.go:149", after := #[{ on := 9, ground := .data }, { on := 4, ground := .guard }], guard := some (4, false) }) (v := .bool (!bp)) rfl (by kernel_rfl) (by kernel_rfl) (by kernel_rfl) (by kernel_rfl) (fun _ _ _ h => h) (Or.inl ⟨by rfl, ?_⟩) (by assumption) ?_
            · intro W hSw; (try dsimp only at hSw); go_simp
            simp only [Act.put, List.setIfInBounds_toArray, List.set_cons_zero, List.set_cons_succ]
            refine Ph.U_take (i := 11) (oi := { dst := some 69, op := .pick (.tmp 62) (.const (Value.bool true)) (.tmp 68), type := 4, pos := "ir.go:149", after := #[{ on := 4, ground := .data }, { on := 10, ground := .data }], guard := none }) (v := .bool (!bp)) rfl (by kernel_rfl) (by kernel_rfl) (by kernel_rfl) (by kernel_rfl) (fun _ _ _ h => h) (Or.inl ⟨by rfl, ?_⟩) (by assumption) ?_
            · intro W hSw; (try dsimp only at hSw); go_simp
            simp only [Act.put, List.setIfInBounds_toArray, List.set_cons_zero, List.set_cons_succ]
            refine Ph.U_done (by kernel_rfl) ?_ _
            clear S3 S4
            cases bp with
            | false =>
              obtain rfl : b = false := bfalse Hb.out (fun h => by have := HBP.out.2 (uses_places.1 (h.2.2.2.2.2 j hlt).2.1); cases this)
              go_wp2_with fail
              go_ret
              exact ⟨rfl, H4.out.bel⟩
            | true =>
              have q0 : w4.cell? ⟨bx, 0, none⟩ = some (.int .i64 (T.ins j).op) := K4.out.cell 0
              have q1 : w4.cell? ⟨bx, 1, none⟩ = some (.int .i64 (T.ins j).a) := K4.out.cell 1
              have q2 : w4.cell? ⟨bx, 2, none⟩ = some (.int .i64 (T.ins j).b) := K4.out.cell 2
              have q3 : w4.cell? ⟨bx, 3, none⟩ = some (.int .i64 (T.ins j).c) := K4.out.cell 3
              have q4 : w4.cell? ⟨bx, 4, none⟩ = some (.int .i64 (T.ins j).x) := K4.out.cell 4
              go_wp2_with fail
              refine (outs_any (T.ins j) w4).mono ?_
              rintro e w5 ⟨Ax, cx, rfl, hax, hb5⟩
              have H5 := Lib.hid (H4.out.go HB.out hb5)
              have HAx := Lib.hid hax
              clear q0 q1 q2 q3 q4 hb5 hax H4 K4
              go_wp2_with fail
              go_loopg [73] (outsL (T.ins j)).length (fun gg vj wq => ∃ k : Nat, gg = (outsL (T.ins j)).length - k ∧ vj = .int .i64 k ∧ k ≤ (outsL (T.ins j)).length ∧ Hid (In9 w B T (some ⟨bi, offi, none⟩) (some ⟨bo, offo, none⟩) Ac ci co cc wq) ∧ Hid (IntsAt wq w5.heap.size Ax (outsL (T.ins j)).length fun k => (outsL (T.ins j)).getD k 0) ∧ Hid (w5.heap.size ≤ wq.heap.size) ∧ Hid (∀ i, i < k → Named T ((outsL (T.ins j)).getD i 0) j))
              case atStart => exact ⟨0, rfl, rfl, Nat.zero_le _, H5, HAx, Nat.le_refl _, fun i hi => by omega⟩
              case round =>
                obtain ⟨k, hg, rfl, hk, H6, HA6, HS6, HJ6⟩ := hrel
                have Hg6 := Lib.hid hg
                clear hg
                have k0 : wr.cell? ⟨w.heap.size, 0, none⟩ = some (.int .i64 T.start) := H6.out.blk.cell 0
                have k1 : wr.cell? ⟨w.heap.size, 1, none⟩ = some (.int .i64 T.slots) := H6.out.blk.cell 1
                have k2 : wr.cell? ⟨w.heap.size, 2, none⟩ = some (.int .i64 T.backs) := H6.out.blk.cell 2
                have k3 : wr.cell? ⟨w.heap.size, 3, none⟩ = some (.int .i64 T.grow) := H6.out.blk.cell 3
                have k4 : wr.cell? ⟨w.heap.size, 4, none⟩ = some (.int .i64 T.growBack) := H6.out.blk.cell 4
                have k5 : wr.cell? ⟨w.heap.size, 5, none⟩ = some (.slice (some ⟨bi, offi, none⟩) T.ni ci) := H6.out.blk.cell 5
                have k6 : wr.cell? ⟨w.heap.size, 6, none⟩ = some (.slice (some ⟨bo, offo, none⟩) T.no co) := H6.out.blk.cell 6
                have k7 : wr.cell? ⟨w.heap.size, 7, none⟩ = some (.int .i64 T.last) := H6.out.blk.cell 7
                have k8 : wr.cell? ⟨w.heap.size, 8, none⟩ = some (.slice Ac T.nc cc) := H6.out.blk.cell 8
                by_cases hkl : k < (outsL (T.ins j)).length
                · have hkl' : (k : Int) < ((outsL (T.ins j)).length : Int) := by omega
                  obtain ⟨ba, offa, rfl, hba, hca⟩ := HA6.out.resolve_left (by omega)
                  have ca := hca k hkl
                  dsimp only at ca
                  obtain ⟨bn, hbn⟩ := bool_of (P := Named T ((outsL (T.ins j)).getD k 0) j)
                  have HBN6 := Lib.hid hbn
                  have HCa := Lib.hid hca
                  have HN6 := Lib.hid (named_any T _ _ Ac ci co cc ((outsL (T.ins j)).getD k 0) j wr.heap.size bn wr (insAt_up HB.out H6.out) (outsAt_up HB.out H6.out) (Nat.le_refl _) (by omega) hbn)
                  clear hbn hca
                  generalize hy : (outsL (T.ins j)).getD k 0 = y at *
                  have Hy := Lib.hid hy
                  clear hy
                  go_wp2_with fail
                  refine HN6.out.mono ?_
                  rintro e w7 ⟨rfl, hb7⟩
                  have H7 := Lib.hid (H6.out.go HB.out hb7)
                  have HS7 := Lib.hid (Nat.le_trans HS6.out hb7.size)
                  have HA7 : Hid (IntsAt w7 w5.heap.size (some ⟨ba, offa, none⟩) (outsL (T.ins j)).length fun k => (outsL (T.ins j)).getD k 0) := HA6.out.below (hb7.mono HS6.out)
                  clear k0 k1 k2 k3 k4 k5 k6 k7 k8 ca hb7 H6 HN6 HA6 HCa
                  cases bn with
                  | false =>
                    obtain rfl : b = false := bfalse Hb.out (fun h => by have h9 := outs_named.1 (h.2.2.2.2.2 j hlt).2.2 k hkl; rw [Hy.out] at h9; have := HBN6.out.2 h9; cases this)
                    go_wp2_with fail
                    go_ret
                    exact ⟨rfl, H7.out.bel⟩
                  | true =>
                    have hl2 := outs_few (T.ins j)
                    go_wp2_with fail
                    go_roundg ((outsL (T.ins j)).length - (k + 1))
                    case rel =>
                      refine ⟨k + 1, rfl, by go_num, by omega, H7, HA7, HS7, fun i hi => ?_⟩
                      by_cases hij : i = k
                      · subst hij; rw [Hy.out]; exact HBN6.out.1 trivial
                      · exact HJ6.out i (by omega)
                    case measure => have := Hg6.out; omega
                · have hkk : k = (outsL (T.ins j)).length := by omega
                  have HOk := Lib.hid (outs_named.2 (by rw [← hkk]; exact HJ6.out) : OutsOk T j)
                  have hf1 := HF.out.1
                  have hkn : ¬ (k : Int) < ((outsL (T.ins j)).length : Int) := by omega
                  clear HJ6 HA6 HS6 hkl hkk
                  go_wp2_with fail
                  go_roundg (T.ni - (j + 1))
                  case rel =>
                    refine ⟨j + 1, rfl, by go_num, by omega, H6, fun i hi => ?_⟩
                    by_cases hij : i = j
                    · subst hij; exact ⟨HBS.out.1 trivial, uses_places.2 (HBP.out.1 trivial), HOk.out⟩
                    · exact HJ.out i (by omega)
                  case measure => have := Hg.out; omega
        · obtain rfl : j = T.ni := by omega
          obtain rfl : b = true := btrue Hb.out ⟨HH.out, HBC.out.1 trivial, HBN'.out, HST.out, HJ2.out, HJ.out⟩
          go_wp2_with fail
          go_ret
          exact ⟨rfl, HI.out.bel⟩
end Go.Proofs.YtoaidcjjjoafjaaGreatDoor.Ir
