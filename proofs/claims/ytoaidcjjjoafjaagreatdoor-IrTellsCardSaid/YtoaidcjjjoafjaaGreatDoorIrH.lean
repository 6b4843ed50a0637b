/-
  Chapters 14 and 15: which traces may be, by the document. (Printed by genirh.py.)
-/
import Derived.Test.YtoaidcjjjoafjaaGreatDoorIrG
import Derived.Test.YtoaidcjjjoafjaaGreatDoorQh
import Derived.StillTailTactics
import Derived.Deep.DeepCutAuto
import Derived.Deep.CutBlock
set_option linter.unusedVariables false
set_option linter.unusedSimpArgs false
set_option linter.unnecessarySimpa false
set_option linter.deprecated false
namespace Go.Proofs.YtoaidcjjjoafjaaGreatDoor.Ir
open Go.RowKit
theorem blk_drewN {W : World} {b : Nat} {T : TypeId} {cs : Array Value} (h : Blk W b T cs) : ∀ n, Blk (W.drewN n) b T cs := fun n => h
theorem single_cases (T : Tr) (i : Ins) :
    (i.op < 1 ∧ ¬ Single T i) ∨ (12 < i.op ∧ ¬ Single T i) ∨ (i.op = 4 ∧ isTwo i.a = false ∧ isOne i.a = false ∧ ¬ Single T i) ∨ (i.op = 2 ∧ ¬ Btw i.a 0 (T.slots - 1) ∧ ¬ Single T i) ∨ (i.op = 3 ∧ ¬ Btw i.a 0 (T.backs - 1) ∧ ¬ Single T i) ∨
    (i.op = 4 ∧ isTwo i.a = true ∧ Single T i) ∨ (i.op = 4 ∧ isTwo i.a = false ∧ isOne i.a = true ∧ Single T i) ∨ (i.op = 2 ∧ Btw i.a 0 (T.slots - 1) ∧ Single T i) ∨ (i.op = 3 ∧ Btw i.a 0 (T.backs - 1) ∧ Single T i) ∨
    (¬ i.op < 1 ∧ ¬ 12 < i.op ∧ ¬ i.op = 4 ∧ ¬ i.op = 2 ∧ ¬ i.op = 3 ∧ Single T i) := by
  unfold Single
  by_cases h4 : i.op = 4
  · simp only [if_pos h4]
    cases h1 : isTwo i.a <;> cases h2 : isOne i.a <;> simp [h4]
  by_cases h2 : i.op = 2
  · simp only [if_neg h4, if_pos h2]
    by_cases hb : Btw i.a 0 (T.slots - 1) <;> simp [h2, hb]
  by_cases h3 : i.op = 3
  · simp only [if_neg h4, if_neg h2, if_pos h3]
    by_cases hb : Btw i.a 0 (T.backs - 1) <;> simp [h3, hb]
  simp only [if_neg h4, if_neg h2, if_neg h3, Btw]
  by_cases hl : i.op < 1
  · exact .inl ⟨hl, by omega⟩
  by_cases hh : 12 < i.op
  · exact .inr (.inl ⟨hh, by omega⟩)
  simp [h4, h2, h3, hl, hh]
  omega

set_option maxHeartbeats 16000000 in
set_option maxRecDepth 100000 in
theorem rright_any (T : Tr) (Ai Ao Ac : Option Addr) (ci co cc : Nat) (B : Nat) (b : Bool) (w : World) (hT : TrAt w B T Ai Ao Ac) (hB : B ≤ w.heap.size) (hb : b = true ↔ Right T) :
    Calls Tryz.prog 8 #[.agg (trCells T Ai ci Ao co Ac cc)] w fun e w' => e = .returned (.bool b) ∧ Below w.heap.size w w' := by
  have H1 := Lib.hid (In9.new ci co cc hT hB)
  have Hb := Lib.hid hb
  have hf1 := hT.fewI
  have hf2 := hT.fewO
  have hf3 := hT.fewC
  have HF := Lib.hid (And.intro hf1 (And.intro hf2 hf3))
  have HB := Lib.hid hB
  have A1 := Lib.hid (within_any T.start 2999 _ (btw_iff _ _ _))
  have A2 := Lib.hid (within_any T.slots 48 _ (btw_iff _ _ _))
  have A3 := Lib.hid (within_any T.grow 48 _ (btw_iff _ _ _))
  have A4 := Lib.hid (within_any T.backs 48 _ (btw_iff _ _ _))
  have A5 := Lib.hid (within_any T.growBack 48 _ (btw_iff _ _ _))
  obtain ⟨b1, hb1⟩ : ∃ x, x = btw T.start 0 2999 := ⟨_, rfl⟩
  obtain ⟨b2, hb2⟩ : ∃ x, x = btw T.slots 0 48 := ⟨_, rfl⟩
  obtain ⟨b3, hb3⟩ : ∃ x, x = btw T.grow 0 48 := ⟨_, rfl⟩
  obtain ⟨b4, hb4⟩ : ∃ x, x = btw T.backs 0 48 := ⟨_, rfl⟩
  obtain ⟨b5, hb5⟩ : ∃ x, x = btw T.growBack 0 48 := ⟨_, rfl⟩
  rw [← hb1] at A1
  rw [← hb2] at A2
  rw [← hb3] at A3
  rw [← hb4] at A4
  rw [← hb5] at A5
  have B1 : Hid (b1 = true ↔ Btw T.start 0 2999) := by rw [hb1]; exact btw_iff _ _ _
  have B2 : Hid (b2 = true ↔ Btw T.slots 0 48) := by rw [hb2]; exact btw_iff _ _ _
  have B3 : Hid (b3 = true ↔ Btw T.grow 0 48) := by rw [hb3]; exact btw_iff _ _ _
  have B4 : Hid (b4 = true ↔ Btw T.backs 0 48) := by rw [hb4]; exact btw_iff _ _ _
  have B5 : Hid (b5 = true ↔ Btw T.growBack 0 48) := by rw [hb5]; exact btw_iff _ _ _
  clear hT hb hB hf1 hf2 hf3 hb1 hb2 hb3 hb4 hb5
  unfold trCells at *
  go_enter Tryz.func8, Tryz.ntmps8
  by_cases hn1 : T.ni ≤ 1000
  case neg =>
    obtain rfl : b = false := bfalse Hb.out (fun h => by have := h.1.2.2.2.2.1; omega)
    have hn1' : ¬ (T.ni : Int) ≤ 1000 := by omega
    go_wp2_with fail
    go_ret
    exact ⟨rfl, H1.out.bel⟩
  have hn1' : (T.ni : Int) ≤ 1000 := by omega
  by_cases hn2 : T.no ≤ 300
  case neg =>
    obtain rfl : b = false := bfalse Hb.out (fun h => by have := h.1.2.2.2.2.2.1; omega)
    have hn2' : ¬ (T.no : Int) ≤ 300 := by omega
    go_wp2_with fail
    go_ret
    exact ⟨rfl, H1.out.bel⟩
  have hn2' : (T.no : Int) ≤ 300 := by omega
  go_wp2_with fail
  refine (A1.out _).mono ?_
  rintro e w' ⟨rfl, rfl⟩
  cases b1 with
  | false =>
    obtain rfl : b = false := bfalse Hb.out (fun h => by have := B1.out.2 h.1.2.2.2.2.2.2; cases this)
    go_wp2_with fail
    go_ret
    exact ⟨rfl, H1.out.bel⟩
  | true =>
  go_wp2_with fail
  refine (A2.out _).mono ?_
  rintro e w' ⟨rfl, rfl⟩
  cases b2 with
  | false =>
    obtain rfl : b = false := bfalse Hb.out (fun h => by have := B2.out.2 h.1.1; cases this)
    go_wp2_with fail
    go_ret
    exact ⟨rfl, H1.out.bel⟩
  | true =>
  go_wp2_with fail
  refine (A3.out _).mono ?_
  rintro e w' ⟨rfl, rfl⟩
  cases b3 with
  | false =>
    obtain rfl : b = false := bfalse Hb.out (fun h => by have := B3.out.2 h.1.2.1; cases this)
    go_wp2_with fail
    go_ret
    exact ⟨rfl, H1.out.bel⟩
  | true =>
  go_wp2_with fail
  refine (A4.out _).mono ?_
  rintro e w' ⟨rfl, rfl⟩
  cases b4 with
  | false =>
    obtain rfl : b = false := bfalse Hb.out (fun h => by have := B4.out.2 h.1.2.2.1; cases this)
    go_wp2_with fail
    go_ret
    exact ⟨rfl, H1.out.bel⟩
  | true =>
  go_wp2_with fail
  refine (A5.out _).mono ?_
  rintro e w' ⟨rfl, rfl⟩
  cases b5 with
  | false =>
    obtain rfl : b = false := bfalse Hb.out (fun h => by have := B5.out.2 h.1.2.2.2.1; cases this)
    go_wp2_with fail
    go_ret
    exact ⟨rfl, H1.out.bel⟩
  | true =>
  have HH : Hid (Head T) := ⟨B2.out.1 (by trivial), B3.out.1 (by trivial), B4.out.1 (by trivial), B5.out.1 (by trivial), hn1, hn2, B1.out.1 (by trivial)⟩
  clear A1 A2 A3 A4 A5 B1 B2 B3 B4 B5 hn1 hn2
  go_wp2_with fail
  clear hn1' hn2'
  generalize w.alloc (.cells #[.int .i64 T.start, .int .i64 T.slots, .int .i64 T.backs, .int .i64 T.grow, .int .i64 T.growBack, .slice Ai T.ni ci, .slice Ao T.no co, .int .i64 T.last, .slice Ac T.nc cc] 26) = w1 at *
  go_loopg [3] T.ni (fun gg vj wq => ∃ j : Nat, gg = T.ni - j ∧ vj = .int .i64 j ∧ j ≤ T.ni ∧ Hid (In9 w B T Ai Ao Ac ci co cc wq) ∧ Hid (∀ i, i < j → Single T (T.ins i) ∧ UsesOk T i ∧ OutsOk T i))
  case atStart => exact ⟨0, rfl, rfl, Nat.zero_le _, H1, fun i hi => by omega⟩
  case round =>
    obtain ⟨j, hg, rfl, hj, HI, HJ⟩ := hrel
    have Hg := Lib.hid hg
    clear hg
    have k0 : wr.cell? ⟨w.heap.size, 0, none⟩ = some (.int .i64 T.start) := (HI.out.blk).cell 0
    have k1 : wr.cell? ⟨w.heap.size, 1, none⟩ = some (.int .i64 T.slots) := (HI.out.blk).cell 1
    have k2 : wr.cell? ⟨w.heap.size, 2, none⟩ = some (.int .i64 T.backs) := (HI.out.blk).cell 2
    have k3 : wr.cell? ⟨w.heap.size, 3, none⟩ = some (.int .i64 T.grow) := (HI.out.blk).cell 3
    have k4 : wr.cell? ⟨w.heap.size, 4, none⟩ = some (.int .i64 T.growBack) := (HI.out.blk).cell 4
    have k5 : wr.cell? ⟨w.heap.size, 5, none⟩ = some (.slice Ai T.ni ci) := (HI.out.blk).cell 5
    have k6 : wr.cell? ⟨w.heap.size, 6, none⟩ = some (.slice Ao T.no co) := (HI.out.blk).cell 6
    have k7 : wr.cell? ⟨w.heap.size, 7, none⟩ = some (.int .i64 T.last) := (HI.out.blk).cell 7
    have k8 : wr.cell? ⟨w.heap.size, 8, none⟩ = some (.slice Ac T.nc cc) := (HI.out.blk).cell 8
    by_cases hlt : j < T.ni
    · have hlt' : (j : Int) < (T.ni : Int) := by omega
      obtain ⟨bi, offi, rfl, hbi, hci⟩ := HI.out.at_.ins.resolve_left (by omega)
      obtain ⟨x0, x1, x2, x3, x4⟩ := hci j hlt
      obtain ⟨bs, hbs⟩ := bool_of (P := Single T (T.ins j))
      have HBS := Lib.hid hbs
      obtain ⟨ij, hij⟩ : ∃ x, T.ins j = x := ⟨_, rfl⟩
      rw [hij] at x0 x1 x2 x3 x4 HBS
      obtain ⟨io, ia, ib, ic, ix⟩ := ij
      have Hij := Lib.hid hij
      dsimp only at x0 x1 x2 x3 x4
      clear hbs hci hij
      go_upto_region 7 with fail
      have KX : Hid (Blk (wr.alloc (.cells #[.int .i64 io, .int .i64 ia, .int .i64 ib, .int .i64 ic, .int .i64 ix] 42)) wr.heap.size 42 #[.int .i64 io, .int .i64 ia, .int .i64 ib, .int .i64 ic, .int .i64 ix]) := Blk.new _ _ _
      have HX2 := Lib.hid (HI.out.go HB.out ((Below.refl _ _).alloc (Nat.le_refl _) (.cells #[.int .i64 io, .int .i64 ia, .int .i64 ib, .int .i64 ic, .int .i64 ix] 42)))
      have hne : w.heap.size < wr.heap.size := HI.out.blk.lt
      have Hne := Lib.hid hne
      generalize wr.alloc (.cells #[.int .i64 io, .int .i64 ia, .int .i64 ib, .int .i64 ic, .int .i64 ix] 42) = wx at *
      generalize hbx : wr.heap.size = bx at *
      clear k0 k1 k2 k3 k4 k5 k6 k7 k8 x0 x1 x2 x3 x4 HI hne
      have S1f : (fun W : World => W.cell? ⟨w.heap.size, 0, none⟩ = some (.int .i64 T.start) ∧ W.cell? ⟨w.heap.size, 1, none⟩ = some (.int .i64 T.slots) ∧ W.cell? ⟨w.heap.size, 2, none⟩ = some (.int .i64 T.backs) ∧ W.cell? ⟨w.heap.size, 3, none⟩ = some (.int .i64 T.grow) ∧ W.cell? ⟨w.heap.size, 4, none⟩ = some (.int .i64 T.growBack) ∧ W.cell? ⟨w.heap.size, 5, none⟩ = some (.slice (some ⟨bi, offi, none⟩) T.ni ci) ∧ W.cell? ⟨w.heap.size, 6, none⟩ = some (.slice Ao T.no co) ∧ W.cell? ⟨w.heap.size, 7, none⟩ = some (.int .i64 T.last) ∧ W.cell? ⟨w.heap.size, 8, none⟩ = some (.slice Ac T.nc cc) ∧ W.cell? ⟨bx, 0, none⟩ = some (.int .i64 io) ∧ W.cell? ⟨bx, 1, none⟩ = some (.int .i64 ia) ∧ W.cell? ⟨bx, 2, none⟩ = some (.int .i64 ib) ∧ W.cell? ⟨bx, 3, none⟩ = some (.int .i64 ic) ∧ W.cell? ⟨bx, 4, none⟩ = some (.int .i64 ix)) wx.drew := ⟨HX2.out.blk.cell 0, HX2.out.blk.cell 1, HX2.out.blk.cell 2, HX2.out.blk.cell 3, HX2.out.blk.cell 4, HX2.out.blk.cell 5, HX2.out.blk.cell 6, HX2.out.blk.cell 7, HX2.out.blk.cell 8, KX.out.cell 0, KX.out.cell 1, KX.out.cell 2, KX.out.cell 3, KX.out.cell 4⟩
      obtain ⟨bp, hbp⟩ := bool_of (P := UsesOk T j)
      have HBU := Lib.hid hbp
      have HBP : Hid (bp = true ↔ Places T (usesL ⟨io, ia, ib, ic, ix⟩).length (fun k => (usesL ⟨io, ia, ib, ic, ix⟩).getD k 0) j) := by
        refine Lib.hid ?_
        rw [← Hij.out, ← uses_places]
        exact hbp
      clear hbp HBS
      have p0 : wx.cell? ⟨bx, 0, none⟩ = some (.int .i64 io) := KX.out.cell 0
      have p1 : wx.cell? ⟨bx, 1, none⟩ = some (.int .i64 ia) := KX.out.cell 1
      have k1 : wx.cell? ⟨w.heap.size, 1, none⟩ = some (.int .i64 T.slots) := HX2.out.blk.cell 1
      have k2 : wx.cell? ⟨w.heap.size, 2, none⟩ = some (.int .i64 T.backs) := HX2.out.blk.cell 2
      go_cut [122] (fun c wc => ∃ bq : Bool, c = .bool (!bq) ∧ Hid (bq = true ↔ Single T ⟨io, ia, ib, ic, ix⟩ ∧ UsesOk T j) ∧ Hid (In9 w B T (some ⟨bi, offi, none⟩) Ao Ac ci co cc wc) ∧ Hid (Blk wc bx 42 #[.int .i64 io, .int .i64 ia, .int .i64 ib, .int .i64 ic, .int .i64 ix]))
      case first =>
        as_aux_lemma =>
          rcases single_cases T ⟨io, ia, ib, ic, ix⟩ with ⟨h0, hS⟩ | ⟨h0, hS⟩ | ⟨h0, h1, h2, hS⟩ | ⟨h0, h1, hS⟩ | ⟨h0, h1, hS⟩ | ⟨h0, h1, hS⟩ | ⟨h0, h1, h2, hS⟩ | ⟨h0, h1, hS⟩ | ⟨h0, h1, hS⟩ | ⟨h0, h1, h2, h3, h4, hS⟩
          · dsimp only at h0
            have c1p : io < 1 := by omega
            have c1d : decide (io < 1) = true := decide_eq_true c1p
            have c2p : ¬ 12 < io := by omega
            have c2d : decide (12 < io) = false := decide_eq_false c2p
            have c3p : ¬ io = 4 := by omega
            have c3d : decide (io = 4) = false := decide_eq_false c3p
            have c4p : ¬ io = 2 := by omega
            have c4d : decide (io = 2) = false := decide_eq_false c4p
            have c5p : ¬ io = 3 := by omega
            have c5d : decide (io = 3) = false := decide_eq_false c5p
            have HSn := Lib.hid hS
            clear HBP HBU hS Hij Hg HJ Hb
            go_quiet ((first | (go_at_call 18; exact Calls.quiet_of_same (HTwo.out _)) | (go_at_call 19; exact Calls.quiet_of_same (HOne.out _)) | (go_at_call 34; exact Calls.quiet_of_same (HIn.out _))))
            go_wp2_with fail
            go_meet
            exact ⟨false, rfl, ⟨fun h => (by cases h), fun h => absurd h.1 HSn.out⟩, HX2.out.draw _, blk_drewN KX.out _⟩
          · dsimp only at h0
            have c1p : ¬ io < 1 := by omega
            have c1d : decide (io < 1) = false := decide_eq_false c1p
            have c2p : 12 < io := by omega
            have c2d : decide (12 < io) = true := decide_eq_true c2p
            have c3p : ¬ io = 4 := by omega
            have c3d : decide (io = 4) = false := decide_eq_false c3p
            have c4p : ¬ io = 2 := by omega
            have c4d : decide (io = 2) = false := decide_eq_false c4p
            have c5p : ¬ io = 3 := by omega
            have c5d : decide (io = 3) = false := decide_eq_false c5p
            have HSn := Lib.hid hS
            clear HBP HBU hS Hij Hg HJ Hb
            go_quiet ((first | (go_at_call 18; exact Calls.quiet_of_same (HTwo.out _)) | (go_at_call 19; exact Calls.quiet_of_same (HOne.out _)) | (go_at_call 34; exact Calls.quiet_of_same (HIn.out _))))
            go_wp2_with fail
            go_meet
            exact ⟨false, rfl, ⟨fun h => (by cases h), fun h => absurd h.1 HSn.out⟩, HX2.out.draw _, blk_drewN KX.out _⟩
          · dsimp only at h0 h1 h2
            have c1p : ¬ io < 1 := by omega
            have c1d : decide (io < 1) = false := decide_eq_false c1p
            have c2p : ¬ 12 < io := by omega
            have c2d : decide (12 < io) = false := decide_eq_false c2p
            have c3p : io = 4 := by omega
            have c3d : decide (io = 4) = true := decide_eq_true c3p
            have c4p : ¬ io = 2 := by omega
            have c4d : decide (io = 2) = false := decide_eq_false c4p
            have c5p : ¬ io = 3 := by omega
            have c5d : decide (io = 3) = false := decide_eq_false c5p
            have HTwo : Hid (∀ W, Calls Tryz.prog 18 #[.int .i64 ia] W fun e w' => e = .returned (.bool false) ∧ w' = W) := fun W => (isTwo_any ia W).mono fun e w' h => ⟨by rw [h.1, h1], h.2.symm⟩
            have HOne : Hid (∀ W, Calls Tryz.prog 19 #[.int .i64 ia] W fun e w' => e = .returned (.bool false) ∧ w' = W) := fun W => (isOne_any ia W).mono fun e w' h => ⟨by rw [h.1, h2], h.2.symm⟩
            clear h1 h2
            have HSn := Lib.hid hS
            clear HBP HBU hS Hij Hg HJ Hb
            go_quiet ((first | (go_at_call 18; exact Calls.quiet_of_same (HTwo.out _)) | (go_at_call 19; exact Calls.quiet_of_same (HOne.out _)) | (go_at_call 34; exact Calls.quiet_of_same (HIn.out _))))
            go_wp2_with fail
            go_meet
            exact ⟨false, rfl, ⟨fun h => (by cases h), fun h => absurd h.1 HSn.out⟩, HX2.out.draw _, blk_drewN KX.out _⟩
          · dsimp only at h0 h1
            have c1p : ¬ io < 1 := by omega
            have c1d : decide (io < 1) = false := decide_eq_false c1p
            have c2p : ¬ 12 < io := by omega
            have c2d : decide (12 < io) = false := decide_eq_false c2p
            have c3p : ¬ io = 4 := by omega
            have c3d : decide (io = 4) = false := decide_eq_false c3p
            have c4p : io = 2 := by omega
            have c4d : decide (io = 2) = true := decide_eq_true c4p
            have c5p : ¬ io = 3 := by omega
            have c5d : decide (io = 3) = false := decide_eq_false c5p
            have h2 : wrap64 (T.slots - 1) = T.slots - 1 := wrap_sub1 HH.out.1
            have HIn : Hid (∀ W, Calls Tryz.prog 34 #[.int .i64 ia, .int .i64 (wrap64 (T.slots - 1))] W fun e w' => e = .returned (.bool false) ∧ w' = W) := fun W => (within_any ia (wrap64 (T.slots - 1)) false (by rw [h2]; simp [h1]) W).mono fun e w' h => ⟨h.1, h.2.symm⟩
            clear h2
            clear h1
            have HSn := Lib.hid hS
            clear HBP HBU hS Hij Hg HJ Hb
            go_quiet ((first | (go_at_call 18; exact Calls.quiet_of_same (HTwo.out _)) | (go_at_call 19; exact Calls.quiet_of_same (HOne.out _)) | (go_at_call 34; exact Calls.quiet_of_same (HIn.out _))))
            go_wp2_with fail
            go_meet
            exact ⟨false, rfl, ⟨fun h => (by cases h), fun h => absurd h.1 HSn.out⟩, HX2.out.draw _, blk_drewN KX.out _⟩
          · dsimp only at h0 h1
            have c1p : ¬ io < 1 := by omega
            have c1d : decide (io < 1) = false := decide_eq_false c1p
            have c2p : ¬ 12 < io := by omega
            have c2d : decide (12 < io) = false := decide_eq_false c2p
            have c3p : ¬ io = 4 := by omega
            have c3d : decide (io = 4) = false := decide_eq_false c3p
            have c4p : ¬ io = 2 := by omega
            have c4d : decide (io = 2) = false := decide_eq_false c4p
            have c5p : io = 3 := by omega
            have c5d : decide (io = 3) = true := decide_eq_true c5p
            have h2 : wrap64 (T.backs - 1) = T.backs - 1 := wrap_sub1 HH.out.2.2.1
            have HIn : Hid (∀ W, Calls Tryz.prog 34 #[.int .i64 ia, .int .i64 (wrap64 (T.backs - 1))] W fun e w' => e = .returned (.bool false) ∧ w' = W) := fun W => (within_any ia (wrap64 (T.backs - 1)) false (by rw [h2]; simp [h1]) W).mono fun e w' h => ⟨h.1, h.2.symm⟩
            clear h2
            clear h1
            have HSn := Lib.hid hS
            clear HBP HBU hS Hij Hg HJ Hb
            go_quiet ((first | (go_at_call 18; exact Calls.quiet_of_same (HTwo.out _)) | (go_at_call 19; exact Calls.quiet_of_same (HOne.out _)) | (go_at_call 34; exact Calls.quiet_of_same (HIn.out _))))
            go_wp2_with fail
            go_meet
            exact ⟨false, rfl, ⟨fun h => (by cases h), fun h => absurd h.1 HSn.out⟩, HX2.out.draw _, blk_drewN KX.out _⟩
          dsimp only at h0 h1
          have c1p : ¬ io < 1 := by omega
          have c1d : decide (io < 1) = false := decide_eq_false c1p
          have c2p : ¬ 12 < io := by omega
          have c2d : decide (12 < io) = false := decide_eq_false c2p
          have c3p : io = 4 := by omega
          have c3d : decide (io = 4) = true := decide_eq_true c3p
          have c4p : ¬ io = 2 := by omega
          have c4d : decide (io = 2) = false := decide_eq_false c4p
          have c5p : ¬ io = 3 := by omega
          have c5d : decide (io = 3) = false := decide_eq_false c5p
          have HTwo : Hid (∀ W, Calls Tryz.prog 18 #[.int .i64 ia] W fun e w' => e = .returned (.bool true) ∧ w' = W) := fun W => (isTwo_any ia W).mono fun e w' h => ⟨by rw [h.1, h1], h.2.symm⟩
          clear h1
          have HSi := Lib.hid hS
          clear hS
          refine Ph.wp_region_gated 54 7 (by kernel_rfl) (by kernel_rfl) rfl ?_
          simp only [List.take_succ_cons, List.take_zero]
          repeat (go_big_quiet_step ((first | (go_at_call 18; exact Calls.quiet_of_same (HTwo.out _)) | (go_at_call 19; exact Calls.quiet_of_same (HOne.out _)) | (go_at_call 34; exact Calls.quiet_of_same (HIn.out _)))))
          refine wpQuiet_nil ?_
          intro _ hw'
          obtain ⟨nq, rfl⟩ := hw'
          rotate_left
          dsimp only at h0 h1 h2
          have c1p : ¬ io < 1 := by omega
          have c1d : decide (io < 1) = false := decide_eq_false c1p
          have c2p : ¬ 12 < io := by omega
          have c2d : decide (12 < io) = false := decide_eq_false c2p
          have c3p : io = 4 := by omega
          have c3d : decide (io = 4) = true := decide_eq_true c3p
          have c4p : ¬ io = 2 := by omega
          have c4d : decide (io = 2) = false := decide_eq_false c4p
          have c5p : ¬ io = 3 := by omega
          have c5d : decide (io = 3) = false := decide_eq_false c5p
          have HTwo : Hid (∀ W, Calls Tryz.prog 18 #[.int .i64 ia] W fun e w' => e = .returned (.bool false) ∧ w' = W) := fun W => (isTwo_any ia W).mono fun e w' h => ⟨by rw [h.1, h1], h.2.symm⟩
          have HOne : Hid (∀ W, Calls Tryz.prog 19 #[.int .i64 ia] W fun e w' => e = .returned (.bool true) ∧ w' = W) := fun W => (isOne_any ia W).mono fun e w' h => ⟨by rw [h.1, h2], h.2.symm⟩
          clear h1 h2
          have HSi := Lib.hid hS
          clear hS
          refine Ph.wp_region_gated 54 7 (by kernel_rfl) (by kernel_rfl) rfl ?_
          simp only [List.take_succ_cons, List.take_zero]
          repeat (go_big_quiet_step ((first | (go_at_call 18; exact Calls.quiet_of_same (HTwo.out _)) | (go_at_call 19; exact Calls.quiet_of_same (HOne.out _)) | (go_at_call 34; exact Calls.quiet_of_same (HIn.out _)))))
          refine wpQuiet_nil ?_
          intro _ hw'
          obtain ⟨nq, rfl⟩ := hw'
          rotate_left
          dsimp only at h0 h1
          have c1p : ¬ io < 1 := by omega
          have c1d : decide (io < 1) = false := decide_eq_false c1p
          have c2p : ¬ 12 < io := by omega
          have c2d : decide (12 < io) = false := decide_eq_false c2p
          have c3p : ¬ io = 4 := by omega
          have c3d : decide (io = 4) = false := decide_eq_false c3p
          have c4p : io = 2 := by omega
          have c4d : decide (io = 2) = true := decide_eq_true c4p
          have c5p : ¬ io = 3 := by omega
          have c5d : decide (io = 3) = false := decide_eq_false c5p
          have h2 : wrap64 (T.slots - 1) = T.slots - 1 := wrap_sub1 HH.out.1
          have HIn : Hid (∀ W, Calls Tryz.prog 34 #[.int .i64 ia, .int .i64 (wrap64 (T.slots - 1))] W fun e w' => e = .returned (.bool true) ∧ w' = W) := fun W => (within_any ia (wrap64 (T.slots - 1)) true (by rw [h2]; simp [h1]) W).mono fun e w' h => ⟨h.1, h.2.symm⟩
          clear h2
          clear h1
          have HSi := Lib.hid hS
          clear hS
          refine Ph.wp_region_gated 54 7 (by kernel_rfl) (by kernel_rfl) rfl ?_
          simp only [List.take_succ_cons, List.take_zero]
          repeat (go_big_quiet_step ((first | (go_at_call 18; exact Calls.quiet_of_same (HTwo.out _)) | (go_at_call 19; exact Calls.quiet_of_same (HOne.out _)) | (go_at_call 34; exact Calls.quiet_of_same (HIn.out _)))))
          refine wpQuiet_nil ?_
          intro _ hw'
          obtain ⟨nq, rfl⟩ := hw'
          rotate_left
          dsimp only at h0 h1
          have c1p : ¬ io < 1 := by omega
          have c1d : decide (io < 1) = false := decide_eq_false c1p
          have c2p : ¬ 12 < io := by omega
          have c2d : decide (12 < io) = false := decide_eq_false c2p
          have c3p : ¬ io = 4 := by omega
          have c3d : decide (io = 4) = false := decide_eq_false c3p
          have c4p : ¬ io = 2 := by omega
          have c4d : decide (io = 2) = false := decide_eq_false c4p
          have c5p : io = 3 := by omega
          have c5d : decide (io = 3) = true := decide_eq_true c5p
          have h2 : wrap64 (T.backs - 1) = T.backs - 1 := wrap_sub1 HH.out.2.2.1
          have HIn : Hid (∀ W, Calls Tryz.prog 34 #[.int .i64 ia, .int .i64 (wrap64 (T.backs - 1))] W fun e w' => e = .returned (.bool true) ∧ w' = W) := fun W => (within_any ia (wrap64 (T.backs - 1)) true (by rw [h2]; simp [h1]) W).mono fun e w' h => ⟨h.1, h.2.symm⟩
          clear h2
          clear h1
          have HSi := Lib.hid hS
          clear hS
          refine Ph.wp_region_gated 54 7 (by kernel_rfl) (by kernel_rfl) rfl ?_
          simp only [List.take_succ_cons, List.take_zero]
          repeat (go_big_quiet_step ((first | (go_at_call 18; exact Calls.quiet_of_same (HTwo.out _)) | (go_at_call 19; exact Calls.quiet_of_same (HOne.out _)) | (go_at_call 34; exact Calls.quiet_of_same (HIn.out _)))))
          refine wpQuiet_nil ?_
          intro _ hw'
          obtain ⟨nq, rfl⟩ := hw'
          rotate_left
          dsimp only at h0 h1 h2 h3 h4
          have c3e : (io == 4) = false := by simpa using h2
          have c4e : (io == 2) = false := by simpa using h3
          have c5e : (io == 3) = false := by simpa using h4
          have c1p : ¬ io < 1 := by omega
          have c1d : decide (io < 1) = false := decide_eq_false c1p
          have c2p : ¬ 12 < io := by omega
          have c2d : decide (12 < io) = false := decide_eq_false c2p
          have c3p : ¬ io = 4 := by omega
          have c3d : decide (io = 4) = false := decide_eq_false c3p
          have c4p : ¬ io = 2 := by omega
          have c4d : decide (io = 2) = false := decide_eq_false c4p
          have c5p : ¬ io = 3 := by omega
          have c5d : decide (io = 3) = false := decide_eq_false c5p
          have HSi := Lib.hid hS
          clear hS
          refine Ph.wp_region_gated 54 7 (by kernel_rfl) (by kernel_rfl) rfl ?_
          simp only [List.take_succ_cons, List.take_zero]
          repeat (go_big_quiet_step ((first | (go_at_call 18; exact Calls.quiet_of_same (HTwo.out _)) | (go_at_call 19; exact Calls.quiet_of_same (HOne.out _)) | (go_at_call 34; exact Calls.quiet_of_same (HIn.out _)))))
          refine wpQuiet_nil ?_
          intro _ hw'
          obtain ⟨nq, rfl⟩ := hw'
          rotate_left
          all_goals
            have S1n : (fun W : World => W.cell? ⟨w.heap.size, 0, none⟩ = some (.int .i64 T.start) ∧ W.cell? ⟨w.heap.size, 1, none⟩ = some (.int .i64 T.slots) ∧ W.cell? ⟨w.heap.size, 2, none⟩ = some (.int .i64 T.backs) ∧ W.cell? ⟨w.heap.size, 3, none⟩ = some (.int .i64 T.grow) ∧ W.cell? ⟨w.heap.size, 4, none⟩ = some (.int .i64 T.growBack) ∧ W.cell? ⟨w.heap.size, 5, none⟩ = some (.slice (some ⟨bi, offi, none⟩) T.ni ci) ∧ W.cell? ⟨w.heap.size, 6, none⟩ = some (.slice Ao T.no co) ∧ W.cell? ⟨w.heap.size, 7, none⟩ = some (.int .i64 T.last) ∧ W.cell? ⟨w.heap.size, 8, none⟩ = some (.slice Ac T.nc cc) ∧ W.cell? ⟨bx, 0, none⟩ = some (.int .i64 io) ∧ W.cell? ⟨bx, 1, none⟩ = some (.int .i64 ia) ∧ W.cell? ⟨bx, 2, none⟩ = some (.int .i64 ib) ∧ W.cell? ⟨bx, 3, none⟩ = some (.int .i64 ic) ∧ W.cell? ⟨bx, 4, none⟩ = some (.int .i64 ix)) (wx.drewN nq) := S1f
            clear S1f p0 p1 k1 k2 c1p c1d c2p c2d c3p c3d c4p c4d c5p c5d
            try clear c3e c4e c5e h1 h2 h3 h4
            clear h0
            refine Ph.wpAny_of_U (S := fun W : World => W.cell? ⟨w.heap.size, 0, none⟩ = some (.int .i64 T.start) ∧ W.cell? ⟨w.heap.size, 1, none⟩ = some (.int .i64 T.slots) ∧ W.cell? ⟨w.heap.size, 2, none⟩ = some (.int .i64 T.backs) ∧ W.cell? ⟨w.heap.size, 3, none⟩ = some (.int .i64 T.grow) ∧ W.cell? ⟨w.heap.size, 4, none⟩ = some (.int .i64 T.growBack) ∧ W.cell? ⟨w.heap.size, 5, none⟩ = some (.slice (some ⟨bi, offi, none⟩) T.ni ci) ∧ W.cell? ⟨w.heap.size, 6, none⟩ = some (.slice Ao T.no co) ∧ W.cell? ⟨w.heap.size, 7, none⟩ = some (.int .i64 T.last) ∧ W.cell? ⟨w.heap.size, 8, none⟩ = some (.slice Ac T.nc cc) ∧ W.cell? ⟨bx, 0, none⟩ = some (.int .i64 io) ∧ W.cell? ⟨bx, 1, none⟩ = some (.int .i64 ia) ∧ W.cell? ⟨bx, 2, none⟩ = some (.int .i64 ib) ∧ W.cell? ⟨bx, 3, none⟩ = some (.int .i64 ic) ∧ W.cell? ⟨bx, 4, none⟩ = some (.int .i64 ix)) (n := 61) _ _ _ _ ?_
            change Ph.wpU _ _ _ _ _ _ 7 #[true, true, true, true, true, true, true, true, true, true, true, true, true, true, true, true, true, true, true, true, true, true, true, true, true, true, true, true, true, true, true, true, true, true, true, true, true, true, true, true, true, true, true, true, true, true, true, true, true, true, true, true, true, true, false, false, false, false, false, false, false] _ _
            refine Ph.U_take (i := 54) (oi := { dst := some 116, op := .load 26 (.tmp 1), type := 26, pos := "trace.go:69", after := #[{ on := 53, ground := .guard }], guard := some (53, false) }) (v := .agg #[.int .i64 T.start, .int .i64 T.slots, .int .i64 T.backs, .int .i64 T.grow, .int .i64 T.growBack, .slice (some ⟨bi, offi, none⟩) T.ni ci, .slice Ao T.no co, .int .i64 T.last, .slice Ac T.nc cc]) rfl (by kernel_rfl) (by kernel_rfl) (by kernel_rfl) (by kernel_rfl) (fun _ _ _ h => h) (Or.inl ⟨by rfl, ?_⟩) (by assumption) ?_
            · intro W hSw; (try dsimp only at hSw); go_simp
            simp only [Act.put, List.setIfInBounds_toArray, List.set_cons_zero, List.set_cons_succ]
            refine Ph.U_take (i := 55) (oi := { dst := some 117, op := .load 42 (.tmp 4), type := 42, pos := "trace.go:69", after := #[{ on := 53, ground := .guard }], guard := some (53, false) }) (v := .agg #[.int .i64 io, .int .i64 ia, .int .i64 ib, .int .i64 ic, .int .i64 ix]) rfl (by kernel_rfl) (by kernel_rfl) (by kernel_rfl) (by kernel_rfl) (fun _ _ _ h => h) (Or.inl ⟨by rfl, ?_⟩) (by assumption) ?_
            · intro W hSw; (try dsimp only at hSw); go_simp
            simp only [Act.put, List.setIfInBounds_toArray, List.set_cons_zero, List.set_cons_succ]
            refine Ph.U_take (i := 57) (oi := { dst := some 119, op := .move (.tmp 3), type := 3, pos := "trace.go:69", after := #[{ on := 53, ground := .guard }], guard := some (53, false) }) (v := .int .i64 (j : Int)) rfl (by kernel_rfl) (by kernel_rfl) (by kernel_rfl) (by kernel_rfl) (fun _ _ _ h => h) (Or.inl ⟨by rfl, ?_⟩) (by assumption) ?_
            · intro W hSw; (try dsimp only at hSw); go_simp
            simp only [Act.put, List.setIfInBounds_toArray, List.set_cons_zero, List.set_cons_succ]
            refine Ph.U_ready (rs := [56]) (by kernel_rfl) (by simp) ?_
            refine Ph.AllReadyU.cons rfl (fun K hK => ?_) Ph.AllReadyU.nil
            go_simp
            refine (ruses_any ⟨io, ia, ib, ic, ix⟩ (wx.drewN nq)).mono ?_
            rintro e w3 ⟨Au, cu, rfl, hau, hb3⟩
            have H3 := Lib.hid ((HX2.out.draw nq).go HB.out hb3)
            have K3 : Hid (Blk w3 bx 42 #[.int .i64 io, .int .i64 ia, .int .i64 ib, .int .i64 ic, .int .i64 ix]) := (blk_drewN KX.out nq).below hb3 KX.out.lt
            have S3 : (fun W : World => W.cell? ⟨w.heap.size, 0, none⟩ = some (.int .i64 T.start) ∧ W.cell? ⟨w.heap.size, 1, none⟩ = some (.int .i64 T.slots) ∧ W.cell? ⟨w.heap.size, 2, none⟩ = some (.int .i64 T.backs) ∧ W.cell? ⟨w.heap.size, 3, none⟩ = some (.int .i64 T.grow) ∧ W.cell? ⟨w.heap.size, 4, none⟩ = some (.int .i64 T.growBack) ∧ W.cell? ⟨w.heap.size, 5, none⟩ = some (.slice (some ⟨bi, offi, none⟩) T.ni ci) ∧ W.cell? ⟨w.heap.size, 6, none⟩ = some (.slice Ao T.no co) ∧ W.cell? ⟨w.heap.size, 7, none⟩ = some (.int .i64 T.last) ∧ W.cell? ⟨w.heap.size, 8, none⟩ = some (.slice Ac T.nc cc) ∧ W.cell? ⟨bx, 0, none⟩ = some (.int .i64 io) ∧ W.cell? ⟨bx, 1, none⟩ = some (.int .i64 ia) ∧ W.cell? ⟨bx, 2, none⟩ = some (.int .i64 ib) ∧ W.cell? ⟨bx, 3, none⟩ = some (.int .i64 ic) ∧ W.cell? ⟨bx, 4, none⟩ = some (.int .i64 ix)) w3 := ⟨H3.out.blk.cell 0, H3.out.blk.cell 1, H3.out.blk.cell 2, H3.out.blk.cell 3, H3.out.blk.cell 4, H3.out.blk.cell 5, H3.out.blk.cell 6, H3.out.blk.cell 7, H3.out.blk.cell 8, K3.out.cell 0, K3.out.cell 1, K3.out.cell 2, K3.out.cell 3, K3.out.cell 4⟩
            have HAu := Lib.hid hau
            clear hb3 hau S1n
            refine hK.out _ _ (fun _ => S3) ?_
            clear hK K
            simp only [Act.put, List.setIfInBounds_toArray, List.set_cons_zero, List.set_cons_succ]
            refine Ph.U_ready (rs := [58]) (by kernel_rfl) (by simp) ?_
            refine Ph.AllReadyU.cons rfl (fun K hK => ?_) Ph.AllReadyU.nil
            go_simp
            refine (rplaces_any T _ _ Ac Au ci co cc cu (usesL ⟨io, ia, ib, ic, ix⟩).length (fun k => (usesL ⟨io, ia, ib, ic, ix⟩).getD k 0) j w3.heap.size bp w3 (insAt_up HB.out H3.out) (Nat.le_refl _) HAu.out (uses_few _) (by omega) HBP.out).mono ?_
            rintro e w4 ⟨rfl, hb4⟩
            have H4 := Lib.hid (H3.out.go HB.out hb4)
            have K4 : Hid (Blk w4 bx 42 #[.int .i64 io, .int .i64 ia, .int .i64 ib, .int .i64 ic, .int .i64 ix]) := K3.out.below hb4 K3.out.lt
            have S4 : (fun W : World => W.cell? ⟨w.heap.size, 0, none⟩ = some (.int .i64 T.start) ∧ W.cell? ⟨w.heap.size, 1, none⟩ = some (.int .i64 T.slots) ∧ W.cell? ⟨w.heap.size, 2, none⟩ = some (.int .i64 T.backs) ∧ W.cell? ⟨w.heap.size, 3, none⟩ = some (.int .i64 T.grow) ∧ W.cell? ⟨w.heap.size, 4, none⟩ = some (.int .i64 T.growBack) ∧ W.cell? ⟨w.heap.size, 5, none⟩ = some (.slice (some ⟨bi, offi, none⟩) T.ni ci) ∧ W.cell? ⟨w.heap.size, 6, none⟩ = some (.slice Ao T.no co) ∧ W.cell? ⟨w.heap.size, 7, none⟩ = some (.int .i64 T.last) ∧ W.cell? ⟨w.heap.size, 8, none⟩ = some (.slice Ac T.nc cc) ∧ W.cell? ⟨bx, 0, none⟩ = some (.int .i64 io) ∧ W.cell? ⟨bx, 1, none⟩ = some (.int .i64 ia) ∧ W.cell? ⟨bx, 2, none⟩ = some (.int .i64 ib) ∧ W.cell? ⟨bx, 3, none⟩ = some (.int .i64 ic) ∧ W.cell? ⟨bx, 4, none⟩ = some (.int .i64 ix)) w4 := ⟨H4.out.blk.cell 0, H4.out.blk.cell 1, H4.out.blk.cell 2, H4.out.blk.cell 3, H4.out.blk.cell 4, H4.out.blk.cell 5, H4.out.blk.cell 6, H4.out.blk.cell 7, H4.out.blk.cell 8, K4.out.cell 0, K4.out.cell 1, K4.out.cell 2, K4.out.cell 3, K4.out.cell 4⟩
            clear hb4 H3 K3 HAu
            refine hK.out _ _ (fun _ => S4) ?_
            clear hK K
            simp only [Act.put, List.setIfInBounds_toArray, List.set_cons_zero, List.set_cons_succ]
            refine Ph.U_take (i := 59) (oi := { dst := some 121, op := .unOp UnOp.not 4 (.tmp 120), type := 4, pos := "trace.go:69", after := #[{ on := 58, ground := .data }, { on := 53, ground := .guard }], guard := some (53, false) }) (v := .bool (!bp)) rfl (by kernel_rfl) (by kernel_rfl) (by kernel_rfl) (by kernel_rfl) (fun _ _ _ h => h) (Or.inl ⟨by rfl, ?_⟩) (by assumption) ?_
            · intro W hSw; (try dsimp only at hSw); go_simp
            simp only [Act.put, List.setIfInBounds_toArray, List.set_cons_zero, List.set_cons_succ]
            refine Ph.U_take (i := 60) (oi := { dst := some 122, op := .pick (.tmp 115) (.const (Value.bool true)) (.tmp 121), type := 4, pos := "trace.go:69", after := #[{ on := 53, ground := .data }, { on := 59, ground := .data }], guard := none }) (v := .bool (!bp)) rfl (by kernel_rfl) (by kernel_rfl) (by kernel_rfl) (by kernel_rfl) (fun _ _ _ h => h) (Or.inl ⟨by rfl, ?_⟩) (by assumption) ?_
            · intro W hSw; (try dsimp only at hSw); go_simp
            simp only [Act.put, List.setIfInBounds_toArray, List.set_cons_zero, List.set_cons_succ]
            refine Ph.U_done (by kernel_rfl) ?_ _
            clear S3 S4 HBP
            go_wp2_with fail
            go_meet
            exact ⟨bp, rfl, ⟨fun h => ⟨HSi.out, HBU.out.1 h⟩, fun h => HBU.out.2 h.2⟩, H4, K4⟩
      case rest =>
      obtain ⟨bq, rfl, HBQ, H4, K4⟩ := hcut
      clear S1f p0 p1 k1 k2 HX2 KX HBP HBU
      rename World => w4
      cases bq with
      | false =>
        obtain rfl : b = false := bfalse Hb.out (fun h => by have h9 := h.2.2.2.2.2 j hlt; have := HBQ.out.2 ⟨by have := h9.1; rw [Hij.out] at this; exact this, h9.2.1⟩; cases this)
        go_wp2_with fail
        go_ret
        exact ⟨rfl, H4.out.bel⟩
      | true =>
      have q0 : w4.cell? ⟨bx, 0, none⟩ = some (.int .i64 io) := K4.out.cell 0
      have q1 : w4.cell? ⟨bx, 1, none⟩ = some (.int .i64 ia) := K4.out.cell 1
      have q2 : w4.cell? ⟨bx, 2, none⟩ = some (.int .i64 ib) := K4.out.cell 2
      have q3 : w4.cell? ⟨bx, 3, none⟩ = some (.int .i64 ic) := K4.out.cell 3
      have q4 : w4.cell? ⟨bx, 4, none⟩ = some (.int .i64 ix) := K4.out.cell 4
      go_wp2_with fail
      refine (routs_any ⟨io, ia, ib, ic, ix⟩ w4).mono ?_
      rintro e w5 ⟨Ax, cx, rfl, hax, hb5⟩
      have H5 := Lib.hid (H4.out.go HB.out hb5)
      have HAx := Lib.hid hax
      clear q0 q1 q2 q3 q4 hb5 hax H4 K4
      go_wp2_with fail
      go_loopg [6] (outsL ⟨io, ia, ib, ic, ix⟩).length (fun gg vj wq => ∃ k : Nat, gg = (outsL ⟨io, ia, ib, ic, ix⟩).length - k ∧ vj = .int .i64 k ∧ k ≤ (outsL ⟨io, ia, ib, ic, ix⟩).length ∧ Hid (In9 w B T (some ⟨bi, offi, none⟩) Ao Ac ci co cc wq) ∧ Hid (IntsAt wq w5.heap.size Ax (outsL ⟨io, ia, ib, ic, ix⟩).length fun k => (outsL ⟨io, ia, ib, ic, ix⟩).getD k 0) ∧ Hid (w5.heap.size ≤ wq.heap.size) ∧ Hid (∀ i, i < k → Named T ((outsL ⟨io, ia, ib, ic, ix⟩).getD i 0) j))
      case atStart => exact ⟨0, rfl, rfl, Nat.zero_le _, H5, HAx, Nat.le_refl _, fun i hi => by omega⟩
      case round =>
        obtain ⟨k, hg, rfl, hk, H6, HA6, HS6, HJ6⟩ := hrel
        have Hg6 := Lib.hid hg
        clear hg
        have k0 : wr.cell? ⟨w.heap.size, 0, none⟩ = some (.int .i64 T.start) := (H6.out.blk).cell 0
        have k1 : wr.cell? ⟨w.heap.size, 1, none⟩ = some (.int .i64 T.slots) := (H6.out.blk).cell 1
        have k2 : wr.cell? ⟨w.heap.size, 2, none⟩ = some (.int .i64 T.backs) := (H6.out.blk).cell 2
        have k3 : wr.cell? ⟨w.heap.size, 3, none⟩ = some (.int .i64 T.grow) := (H6.out.blk).cell 3
        have k4 : wr.cell? ⟨w.heap.size, 4, none⟩ = some (.int .i64 T.growBack) := (H6.out.blk).cell 4
        have k5 : wr.cell? ⟨w.heap.size, 5, none⟩ = some (.slice (some ⟨bi, offi, none⟩) T.ni ci) := (H6.out.blk).cell 5
        have k6 : wr.cell? ⟨w.heap.size, 6, none⟩ = some (.slice Ao T.no co) := (H6.out.blk).cell 6
        have k7 : wr.cell? ⟨w.heap.size, 7, none⟩ = some (.int .i64 T.last) := (H6.out.blk).cell 7
        have k8 : wr.cell? ⟨w.heap.size, 8, none⟩ = some (.slice Ac T.nc cc) := (H6.out.blk).cell 8
        by_cases hkl : k < (outsL ⟨io, ia, ib, ic, ix⟩).length
        · have hkl' : (k : Int) < ((outsL ⟨io, ia, ib, ic, ix⟩).length : Int) := by omega
          obtain ⟨ba, offa, rfl, hba, hca⟩ := HA6.out.resolve_left (by omega)
          have ca := hca k hkl
          dsimp only at ca
          obtain ⟨bn, hbn⟩ := bool_of (P := Named T ((outsL ⟨io, ia, ib, ic, ix⟩).getD k 0) j)
          have HBN6 := Lib.hid hbn
          have H6d := Lib.hid (H6.out.draw 1)
          have HN6 := Lib.hid (rout_any T _ _ Ac ci co cc ((outsL ⟨io, ia, ib, ic, ix⟩).getD k 0) j wr.heap.size bn wr.drew (insAt_up HB.out H6d.out) (outsAt_up HB.out H6d.out) (Nat.le_refl _) (by omega) hbn)
          clear hbn hca
          generalize hy : (outsL ⟨io, ia, ib, ic, ix⟩).getD k 0 = y at *
          have Hy := Lib.hid hy
          clear hy
          have hfew := outs_few ⟨io, ia, ib, ic, ix⟩
          go_wp2_with fail
          go_still_tail 6, (by kernel_rfl)
          change wpList _ _ _ _ _ wr.drew
          go_wp2_with fail
          refine HN6.out.mono ?_
          rintro e w7 ⟨rfl, hb7⟩
          have H7 := Lib.hid (H6d.out.go HB.out hb7)
          have HS7 : Hid (w5.heap.size ≤ w7.heap.size) := Nat.le_trans HS6.out hb7.size
          have HA7 : Hid (IntsAt w7 w5.heap.size (some ⟨ba, offa, none⟩) (outsL ⟨io, ia, ib, ic, ix⟩).length fun k => (outsL ⟨io, ia, ib, ic, ix⟩).getD k 0) := HA6.out.below (below_frame_drew (hb7.mono HS6.out))
          clear k0 k1 k2 k3 k4 k5 k6 k7 k8 ca hb7 H6 HN6 HA6 H6d
          cases bn with
          | false =>
            obtain rfl : b = false := bfalse Hb.out (fun h => by have h9 := outs_named.1 (h.2.2.2.2.2 j hlt).2.2; rw [Hij.out] at h9; have h9 := h9 k hkl; rw [Hy.out] at h9; have := HBN6.out.2 h9; cases this)
            go_wp2_with fail
            go_ret
            exact ⟨rfl, H7.out.bel⟩
          | true =>
            go_wp2_with fail
            go_roundg ((outsL ⟨io, ia, ib, ic, ix⟩).length - (k + 1))
            case rel =>
              refine ⟨k + 1, rfl, by go_num, by omega, H7, HA7, HS7, fun i hi => ?_⟩
              by_cases hik : i = k
              · subst hik; rw [Hy.out]; exact HBN6.out.1 trivial
              · exact HJ6.out i (by omega)
            case measure => have := Hg6.out; omega
        · have hkk : k = (outsL ⟨io, ia, ib, ic, ix⟩).length := by omega
          have HOk := Lib.hid (outs_named.2 (by rw [Hij.out, ← hkk]; exact HJ6.out) : OutsOk T j)
          have hf1 := HF.out.1
          have hkn : ¬ (k : Int) < ((outsL ⟨io, ia, ib, ic, ix⟩).length : Int) := by omega
          clear HJ6 HA6 HS6 hkl hkk
          go_wp2_with fail
          go_roundg (T.ni - (j + 1))
          case rel =>
            refine ⟨j + 1, rfl, by go_num, by omega, H6, fun i hi => ?_⟩
            by_cases hi2 : i = j
            · subst hi2; exact ⟨by rw [Hij.out]; exact (HBQ.out.1 (by trivial)).1, (HBQ.out.1 (by trivial)).2, HOk.out⟩
            · exact HJ.out i (by omega)
          case measure => have := Hg.out; omega
    · obtain rfl : j = T.ni := by omega
      have HJ1 := HJ
      clear hj hlt
      go_wp2_with fail
      go_loopg [7] T.no (fun gg vj wq => ∃ j : Nat, gg = T.no - j ∧ vj = .int .i64 j ∧ j ≤ T.no ∧ Hid (In9 w B T Ai Ao Ac ci co cc wq) ∧ Hid (∀ i, i < j → OutOk T (T.outs i)))
      case atStart => exact ⟨0, rfl, rfl, Nat.zero_le _, HI, fun i hi => by omega⟩
      case round =>
        clear k0 k1 k2 k3 k4 k5 k6 k7 k8 HI HJ
        obtain ⟨j, hg, rfl, hj, HI, HJ⟩ := hrel
        have Hg := Lib.hid hg
        clear hg
        have k0 : wr.cell? ⟨w.heap.size, 0, none⟩ = some (.int .i64 T.start) := (HI.out.blk).cell 0
        have k1 : wr.cell? ⟨w.heap.size, 1, none⟩ = some (.int .i64 T.slots) := (HI.out.blk).cell 1
        have k2 : wr.cell? ⟨w.heap.size, 2, none⟩ = some (.int .i64 T.backs) := (HI.out.blk).cell 2
        have k3 : wr.cell? ⟨w.heap.size, 3, none⟩ = some (.int .i64 T.grow) := (HI.out.blk).cell 3
        have k4 : wr.cell? ⟨w.heap.size, 4, none⟩ = some (.int .i64 T.growBack) := (HI.out.blk).cell 4
        have k5 : wr.cell? ⟨w.heap.size, 5, none⟩ = some (.slice Ai T.ni ci) := (HI.out.blk).cell 5
        have k6 : wr.cell? ⟨w.heap.size, 6, none⟩ = some (.slice Ao T.no co) := (HI.out.blk).cell 6
        have k7 : wr.cell? ⟨w.heap.size, 7, none⟩ = some (.int .i64 T.last) := (HI.out.blk).cell 7
        have k8 : wr.cell? ⟨w.heap.size, 8, none⟩ = some (.slice Ac T.nc cc) := (HI.out.blk).cell 8
        by_cases hlt : j < T.no
        · have hlt' : (j : Int) < (T.no : Int) := by omega
          obtain ⟨bo, offo, rfl, hbo, hoc⟩ := HI.out.at_.outs.resolve_left (by omega)
          obtain ⟨_, _, _, _, ⟨rfl, rfl, ⟨As, cs, rfl, hs⟩, ⟨Ab, cb, rfl, hk⟩, ls, lb⟩, o0, o1, o2, o3⟩ := hoc j hlt
          clear hs hk hoc ls lb
          have A6 := Lib.hid (within_any (T.outs j).steps 120 _ (btw_iff _ _ _))
          have A7 := Lib.hid (within_any (T.outs j).ip 2999 _ (btw_iff _ _ _))
          obtain ⟨b6, hb6⟩ : ∃ x, x = btw (T.outs j).steps 0 120 := ⟨_, rfl⟩
          obtain ⟨b7, hb7⟩ : ∃ x, x = btw (T.outs j).ip 0 2999 := ⟨_, rfl⟩
          rw [← hb6] at A6
          rw [← hb7] at A7
          have B6 : Hid (b6 = true ↔ Btw (T.outs j).steps 0 120) := by rw [hb6]; exact btw_iff _ _ _
          have B7 : Hid (b7 = true ↔ Btw (T.outs j).ip 0 2999) := by rw [hb7]; exact btw_iff _ _ _
          clear hb6 hb7
          go_upto_region 19 with fail
          have KX : Hid (Blk (wr.alloc (.cells #[.int .i64 (T.outs j).ip, .int .i64 (T.outs j).steps, .slice As (T.outs j).ns cs, .slice Ab (T.outs j).nb cb] 50)) wr.heap.size 50 #[.int .i64 (T.outs j).ip, .int .i64 (T.outs j).steps, .slice As (T.outs j).ns cs, .slice Ab (T.outs j).nb cb]) := Blk.new _ _ _
          have HX2 := Lib.hid (HI.out.go HB.out ((Below.refl _ _).alloc (Nat.le_refl _) (.cells #[.int .i64 (T.outs j).ip, .int .i64 (T.outs j).steps, .slice As (T.outs j).ns cs, .slice Ab (T.outs j).nb cb] 50)))
          generalize wr.alloc (.cells #[.int .i64 (T.outs j).ip, .int .i64 (T.outs j).steps, .slice As (T.outs j).ns cs, .slice Ab (T.outs j).nb cb] 50) = wx at *
          clear k0 k1 k2 k3 k4 k5 k6 k7 k8 o0 o1 o2 o3 HI
          have k0 : wx.cell? ⟨w.heap.size, 0, none⟩ = some (.int .i64 T.start) := (HX2.out.blk).cell 0
          have k1 : wx.cell? ⟨w.heap.size, 1, none⟩ = some (.int .i64 T.slots) := (HX2.out.blk).cell 1
          have k2 : wx.cell? ⟨w.heap.size, 2, none⟩ = some (.int .i64 T.backs) := (HX2.out.blk).cell 2
          have k3 : wx.cell? ⟨w.heap.size, 3, none⟩ = some (.int .i64 T.grow) := (HX2.out.blk).cell 3
          have k4 : wx.cell? ⟨w.heap.size, 4, none⟩ = some (.int .i64 T.growBack) := (HX2.out.blk).cell 4
          have k5 : wx.cell? ⟨w.heap.size, 5, none⟩ = some (.slice Ai T.ni ci) := (HX2.out.blk).cell 5
          have k6 : wx.cell? ⟨w.heap.size, 6, none⟩ = some (.slice (some ⟨bo, offo, none⟩) T.no co) := (HX2.out.blk).cell 6
          have k7 : wx.cell? ⟨w.heap.size, 7, none⟩ = some (.int .i64 T.last) := (HX2.out.blk).cell 7
          have k8 : wx.cell? ⟨w.heap.size, 8, none⟩ = some (.slice Ac T.nc cc) := (HX2.out.blk).cell 8
          have p0 : wx.cell? ⟨wr.heap.size, 0, none⟩ = some (.int .i64 (T.outs j).ip) := KX.out.cell 0
          have p1 : wx.cell? ⟨wr.heap.size, 1, none⟩ = some (.int .i64 (T.outs j).steps) := KX.out.cell 1
          have p2 : wx.cell? ⟨wr.heap.size, 2, none⟩ = some (.slice As (T.outs j).ns cs) := KX.out.cell 2
          have p3 : wx.cell? ⟨wr.heap.size, 3, none⟩ = some (.slice Ab (T.outs j).nb cb) := KX.out.cell 3
          go_wp2_with fail
          refine (A6.out _).mono ?_
          rintro e w' ⟨rfl, rfl⟩
          cases b6 with
          | false =>
            obtain rfl : b = false := bfalse Hb.out (fun h => by have := B6.out.2 (h.2.2.2.2.1 j hlt).1; cases this)
            go_wp2_with fail
            go_ret
            exact ⟨rfl, HX2.out.bel⟩
          | true =>
          go_wp2_with fail
          refine (A7.out _).mono ?_
          rintro e w' ⟨rfl, rfl⟩
          cases b7 with
          | false =>
            obtain rfl : b = false := bfalse Hb.out (fun h => by have := B7.out.2 (h.2.2.2.2.1 j hlt).2.1; cases this)
            go_wp2_with fail
            go_ret
            exact ⟨rfl, HX2.out.bel⟩
          | true =>
          have e1 := wrap_add2 HH.out.1 HH.out.2.1
          have e2 := wrap_add2 HH.out.2.2.1 HH.out.2.2.2.1
          by_cases hn1 : ((T.outs j).ns : Int) ≤ wrap64 (T.slots + T.grow)
          case neg =>
            rw [e1] at hn1
            obtain rfl : b = false := bfalse Hb.out (fun h => by have := (h.2.2.2.2.1 j hlt).2.2.1; omega)
            rw [← e1] at hn1
            clear e1 e2
            go_wp2_with fail
            go_ret
            exact ⟨rfl, HX2.out.bel⟩
          by_cases hn2 : ((T.outs j).nb : Int) ≤ wrap64 (T.backs + T.growBack)
          case neg =>
            rw [e2] at hn2
            obtain rfl : b = false := bfalse Hb.out (fun h => by have := (h.2.2.2.2.1 j hlt).2.2.2; omega)
            rw [← e2] at hn2
            clear e1 e2
            go_wp2_with fail
            go_ret
            exact ⟨rfl, HX2.out.bel⟩
          have HOO : Hid (OutOk T (T.outs j)) := by
            refine Lib.hid ?_
            rw [e1] at hn1
            rw [e2] at hn2
            exact ⟨B6.out.1 (by trivial), B7.out.1 (by trivial), hn1, hn2⟩
          clear e1 e2
          have hf2 := HF.out.2.1
          go_wp2_with fail
          go_roundg (T.no - (j + 1))
          case rel =>
            refine ⟨j + 1, rfl, by go_num, by omega, HX2, fun i hi => ?_⟩
            by_cases hij : i = j
            · subst hij; exact HOO.out
            · exact HJ.out i (by omega)
          case measure => have := Hg.out; omega
        · obtain rfl : j = T.no := by omega
          have HJ2 := HJ
          clear hj hlt
          go_wp2_with fail
          go_loopg [9] T.nc (fun gg vj wq => ∃ j : Nat, gg = T.nc - j ∧ vj = .int .i64 j ∧ j ≤ T.nc ∧ Hid (In9 w B T Ai Ao Ac ci co cc wq) ∧ Hid (∀ i, i < j → 0 ≤ T.cells i ∧ T.cells i < 3000 ∧ (0 < i → T.cells (i - 1) < T.cells i)))
          case atStart => exact ⟨0, rfl, rfl, Nat.zero_le _, HI, fun i hi => by omega⟩
          case round =>
            clear k0 k1 k2 k3 k4 k5 k6 k7 k8 HI HJ
            obtain ⟨j, hg, rfl, hj, HI, HJ⟩ := hrel
            have Hg := Lib.hid hg
            clear hg
            have k0 : wr.cell? ⟨w.heap.size, 0, none⟩ = some (.int .i64 T.start) := (HI.out.blk).cell 0
            have k1 : wr.cell? ⟨w.heap.size, 1, none⟩ = some (.int .i64 T.slots) := (HI.out.blk).cell 1
            have k2 : wr.cell? ⟨w.heap.size, 2, none⟩ = some (.int .i64 T.backs) := (HI.out.blk).cell 2
            have k3 : wr.cell? ⟨w.heap.size, 3, none⟩ = some (.int .i64 T.grow) := (HI.out.blk).cell 3
            have k4 : wr.cell? ⟨w.heap.size, 4, none⟩ = some (.int .i64 T.growBack) := (HI.out.blk).cell 4
            have k5 : wr.cell? ⟨w.heap.size, 5, none⟩ = some (.slice Ai T.ni ci) := (HI.out.blk).cell 5
            have k6 : wr.cell? ⟨w.heap.size, 6, none⟩ = some (.slice Ao T.no co) := (HI.out.blk).cell 6
            have k7 : wr.cell? ⟨w.heap.size, 7, none⟩ = some (.int .i64 T.last) := (HI.out.blk).cell 7
            have k8 : wr.cell? ⟨w.heap.size, 8, none⟩ = some (.slice Ac T.nc cc) := (HI.out.blk).cell 8
            by_cases hlt : j < T.nc
            · have hlt' : (j : Int) < (T.nc : Int) := by omega
              obtain ⟨bc, offc, rfl, hbc, hcc⟩ := HI.out.at_.cells.resolve_left (by omega)
              have ca := hcc j hlt
              have hno : ¬ (0 ≤ T.cells j ∧ T.cells j < 3000 ∧ (0 < j → T.cells (j - 1) < T.cells j)) → b = false := fun h => bfalse Hb.out (fun h2 => h (h2.2.1 j hlt))
              have Hno := Lib.hid hno
              obtain ⟨f1, hf1⟩ : ∃ x, x = T.cells j := ⟨_, rfl⟩
              obtain ⟨b8, hb8⟩ : ∃ x, x = btw f1 0 2999 := ⟨_, rfl⟩
              have B8 : Hid (b8 = true ↔ Btw f1 0 2999) := by rw [hb8]; exact btw_iff _ _ _
              have A8 : Hid (∀ W, Calls Tryz.prog 34 #[.int .i64 f1, .int .i64 2999] W fun e w' => e = .returned (.bool b8) ∧ w' = W) := fun W => (within_any f1 2999 b8 B8.out W).mono fun e w' h => ⟨h.1, h.2.symm⟩
              rw [← hf1] at ca
              have Hf1 := Lib.hid hf1
              have hb9 := HI.out.bel
              have HB9 := Lib.hid hb9
              clear hno hb8 hf1 hb9
              cases b8 with
              | false =>
                obtain rfl : b = false := Hno.out (fun h => by have := B8.out.2 (by rw [Hf1.out]; exact ⟨h.1, by omega⟩); cases this)
                clear hcc
                go_wp2_with fail
                go_quiet ((go_at_call 34; exact Calls.quiet_of_same (A8.out _)))
                go_wp2_with fail
                go_ret
                exact ⟨rfl, (HI.out.draw _).bel⟩
              | true =>
                have hb8 : Btw f1 0 2999 := B8.out.1 (by trivial)
                have HB8 := Lib.hid hb8
                clear hb8
                by_cases hj0 : j = 0
                · have hd : decide ((0 : Int) < (j : Int)) = false := by simp; omega
                  have hd2 : decide (0 < j) = false := by simp; omega
                  have Hj0 := Lib.hid hj0
                  have HOC : Hid (0 ≤ T.cells j ∧ T.cells j < 3000 ∧ (0 < j → T.cells (j - 1) < T.cells j)) := by
                    have := HB8.out
                    rw [Hf1.out] at this
                    exact ⟨this.1, by have := this.2; omega, fun h => by omega⟩
                  have hf3 := HF.out.2.2
                  clear hcc hj0
                  go_wp2_with fail
                  go_quiet ((go_at_call 34; exact Calls.quiet_of_same (A8.out _)))
                  go_wp2_with fail
                  go_roundg (T.nc - (j + 1))
                  case rel =>
                    refine ⟨j + 1, rfl, by go_num, by omega, HI.out.draw _, fun i hi => ?_⟩
                    by_cases hij : i = j
                    · subst hij; exact HOC.out
                    · exact HJ.out i (by omega)
                  case measure => have := Hg.out; omega
                · obtain ⟨p, hp⟩ : ∃ p, j = p + 1 := ⟨j - 1, by omega⟩
                  have cp := hcc p (by omega)
                  obtain ⟨f0, hf0⟩ : ∃ x, x = T.cells p := ⟨_, rfl⟩
                  rw [← hf0] at cp
                  have Hf0 := Lib.hid hf0
                  have hd : decide ((0 : Int) < (j : Int)) = true := by simp; omega
                  have hd2 : decide (0 < j) = true := by simp; omega
                  have hd' : (0 : Int) < (j : Int) := by omega
                  have hf3 := HF.out.2.2
                  have hpj : (j : Int) - 1 = (p : Int) := by omega
                  have hpw : wrap64 ((j : Int) - 1) = (p : Int) := by rw [hpj]; unfold wrap64; omega
                  have hpn : (p : Int) < (T.nc : Int) := by omega
                  have Hp := Lib.hid hp
                  clear hcc hf0 hp
                  by_cases hlf : f1 ≤ f0
                  · obtain rfl : b = false := Hno.out (fun h => by
                      have := h.2.2 (by have := Hp.out; omega)
                      rw [show j - 1 = p by have := Hp.out; omega, ← Hf0.out, ← Hf1.out] at this
                      omega)
                    have hdl : decide (f1 ≤ f0) = true := by simpa using hlf
                    go_wp2_with fail
                    go_quiet ((go_at_call 34; exact Calls.quiet_of_same (A8.out _)))
                    go_wp2_with fail
                    go_ret
                    exact ⟨rfl, (HI.out.draw _).bel⟩
                  · have hdl : decide (f1 ≤ f0) = false := by simpa using hlf
                    have HOC : Hid (0 ≤ T.cells j ∧ T.cells j < 3000 ∧ (0 < j → T.cells (j - 1) < T.cells j)) := by
                      have := HB8.out
                      rw [Hf1.out] at this
                      refine ⟨this.1, by have := this.2; omega, fun h => ?_⟩
                      rw [show j - 1 = p by have := Hp.out; omega, ← Hf0.out, ← Hf1.out]
                      omega
                    go_wp2_with fail
                    go_quiet ((go_at_call 34; exact Calls.quiet_of_same (A8.out _)))
                    go_wp2_with fail
                    go_roundg (T.nc - (j + 1))
                    case rel =>
                      refine ⟨j + 1, rfl, by go_num, by omega, HI.out.draw _, fun i hi => ?_⟩
                      by_cases hij : i = j
                      · subst hij; exact HOC.out
                      · exact HJ.out i (by omega)
                    case measure => have := Hg.out; omega
            · obtain rfl : j = T.nc := by omega
              obtain ⟨bn, hbn⟩ := bool_of (P := Named T T.last T.ni)
              have HBN := Lib.hid hbn
              clear hbn hj hlt
              go_wp2_with fail
              refine (rout_any T Ai Ao Ac ci co cc T.last T.ni B bn wr HI.out.at_.ins HI.out.at_.outs (Nat.le_trans HB.out HI.out.bel.size) (Int.le_refl _) HBN.out).mono ?_
              rintro e w3 ⟨rfl, hb3⟩
              have H3 := Lib.hid (HI.out.go HB.out hb3)
              clear HI hb3 k0 k1 k2 k3 k4 k5 k6 k7 k8
              have k0 : w3.cell? ⟨w.heap.size, 0, none⟩ = some (.int .i64 T.start) := (H3.out.blk).cell 0
              have k1 : w3.cell? ⟨w.heap.size, 1, none⟩ = some (.int .i64 T.slots) := (H3.out.blk).cell 1
              have k2 : w3.cell? ⟨w.heap.size, 2, none⟩ = some (.int .i64 T.backs) := (H3.out.blk).cell 2
              have k3 : w3.cell? ⟨w.heap.size, 3, none⟩ = some (.int .i64 T.grow) := (H3.out.blk).cell 3
              have k4 : w3.cell? ⟨w.heap.size, 4, none⟩ = some (.int .i64 T.growBack) := (H3.out.blk).cell 4
              have k5 : w3.cell? ⟨w.heap.size, 5, none⟩ = some (.slice Ai T.ni ci) := (H3.out.blk).cell 5
              have k6 : w3.cell? ⟨w.heap.size, 6, none⟩ = some (.slice Ao T.no co) := (H3.out.blk).cell 6
              have k7 : w3.cell? ⟨w.heap.size, 7, none⟩ = some (.int .i64 T.last) := (H3.out.blk).cell 7
              have k8 : w3.cell? ⟨w.heap.size, 8, none⟩ = some (.slice Ac T.nc cc) := (H3.out.blk).cell 8
              cases bn with
              | false =>
                obtain rfl : b = false := bfalse Hb.out (fun h => by have := HBN.out.2 h.2.2.1; cases this)
                go_wp2_with fail
                go_ret
                exact ⟨rfl, H3.out.bel⟩
              | true =>
                have hN : Named T T.last T.ni := HBN.out.1 (by trivial)
                have HN := Lib.hid hN
                obtain ⟨x, hx⟩ : ∃ x : Nat, T.last = x := ⟨T.last.toNat, by have := hN.1; omega⟩
                have hxl : x < T.no := by have := hN.2.1; omega
                have hxi : (x : Int) < (T.no : Int) := by omega
                obtain ⟨bo, offo, rfl, hbo, hoc⟩ := H3.out.at_.outs.resolve_left (by omega)
                obtain ⟨_, _, _, _, ⟨rfl, rfl, ⟨As, cs, rfl, hs⟩, ⟨Ab, cb, rfl, hk⟩, ls, lb⟩, o0, o1, o2, o3⟩ := hoc x hxl
                have HX := Lib.hid hx
                rw [hx] at k7
                have hbv : b = decide (1 ≤ (T.outs x).steps) := by
                  by_cases hs1 : 1 ≤ (T.outs x).steps
                  · rw [decide_eq_true hs1]
                    refine btrue Hb.out ⟨HH.out, HJ.out, HN.out, ?_, HJ2.out, HJ1.out⟩
                    rw [HX.out, show ((x : Int)).toNat = x by omega]
                    exact hs1
                  · rw [decide_eq_false hs1]
                    refine bfalse Hb.out fun h => hs1 ?_
                    have h4 := h.2.2.2.1
                    rw [HX.out, show ((x : Int)).toNat = x by omega] at h4
                    exact h4
                have Hbv := Lib.hid hbv
                clear hN hx hoc hs hk o0 o2 o3 HBN hbv
                generalize (T.outs x).steps = sx at *
                go_wp2_with fail
                go_ret
                exact ⟨by rw [Hbv.out]; rfl, H3.out.bel⟩
end Go.Proofs.YtoaidcjjjoafjaaGreatDoor.Ir
