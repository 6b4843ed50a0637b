/-
  Lemmas on the way, for every input that they name: OoW, OoN, OoP, OoQ, OoU.
-/
import Derived.Test.YtompdfpjmdnhoabGreatDoorQ06
import Derived.Test.YtompdfpjmdnhoabGreatDoorQ09
import Derived.Test.YtompdfpjmdnhoabGreatDoorQ12
import Derived.Test.YtompdfpjmdnhoabGreatDoorQ13
import Derived.Test.YtompdfpjmdnhoabGreatDoorQ29
import Derived.Test.YtompdfpjmdnhoabGreatDoorQ30
import Derived.Test.YtompdfpjmdnhoabGreatDoorQ31
set_option linter.unusedVariables false
set_option linter.unusedSimpArgs false
set_option linter.deprecated false
namespace Go.Proofs.YtompdfpjmdnhoabGreatDoor.Ou
open Go.RowKit Go.Proofs.YtompdfpjmdnhoabGreatDoor.Rs Go.Proofs.YtompdfpjmdnhoabGreatDoor.Src
set_option maxHeartbeats 4000000 in
set_option maxRecDepth 100000 in
theorem def_comma (B ob : Nat) (L : Lo) (o : OS) (w : World) (H : OIs w B ob L o) (W : Wo o) (hB : B ≤ w.heap.size) (hl : o.laid.length ≤ 1000000000) :
    Calls Tryz.prog 58 #[.pointer (some ⟨ob, 0, none⟩), .string ⟨#[44]⟩] w (Did w B ob L o (comma o)) := by
  have HP := Lib.hid (comma_any B ob L o w H W hB hl)
  clear H W hB hl
  go_enter Tryz.func58, Tryz.ntmps58
  go_wp2_with fail
  refine HP.out.mono ?_
  rintro e w2 ⟨rfl, N⟩
  have NN := Lib.hid N
  clear N
  go_wp2_with fail
  go_ret
  exact ⟨rfl, NN.out⟩
set_option maxHeartbeats 4000000 in
set_option maxRecDepth 100000 in
theorem def_allot (B ob : Nat) (L : Lo) (o : OS) (w : World) (H : OIs w B ob L o) (W : Wo o) (hB : B ≤ w.heap.size) :
    Calls Tryz.prog 58 #[.pointer (some ⟨ob, 0, none⟩), .string ⟨#[65, 76, 76, 79, 84]⟩] w (Did w B ob L o (allot o)) := by
  have HP := Lib.hid (allot_any B ob L o w H W hB)
  clear H W hB
  go_enter Tryz.func58, Tryz.ntmps58
  go_wp2_with fail
  refine HP.out.mono ?_
  rintro e w2 ⟨rfl, N⟩
  have NN := Lib.hid N
  clear N
  go_wp2_with fail
  go_ret
  exact ⟨rfl, NN.out⟩
set_option maxHeartbeats 4000000 in
set_option maxRecDepth 100000 in
theorem def_here (B ob : Nat) (L : Lo) (o : OS) (w : World) (H : OIs w B ob L o) (W : Wo o) (hB : B ≤ w.heap.size) :
    Calls Tryz.prog 58 #[.pointer (some ⟨ob, 0, none⟩), .string ⟨#[72, 69, 82, 69]⟩] w (Did w B ob L o (push o o.here)) := by
  have c11 := here_cell H
  have HP := Lib.hid (push_any B ob L o w H hB o.here W.m.ns)
  clear H W hB
  go_enter Tryz.func58, Tryz.ntmps58
  go_wp2_with fail
  refine HP.out.mono ?_
  rintro e w2 ⟨rfl, N⟩
  have NN := Lib.hid N
  clear N
  go_wp2_with fail
  go_ret
  exact ⟨rfl, NN.out⟩
set_option maxHeartbeats 4000000 in
set_option maxRecDepth 100000 in
theorem def_forget (B ob : Nat) (L : Lo) (o : OS) (w : World) (H : OIs w B ob L o) (W : Wo o) (hB : B ≤ w.heap.size) (hl : o.laid.length ≤ 1000000000) :
    Calls Tryz.prog 58 #[.pointer (some ⟨ob, 0, none⟩), .string ⟨#[70, 79, 82, 71, 69, 84]⟩] w (Did w B ob L o (forget o)) := by
  have HP := Lib.hid (forget_any B ob L o w H W hB hl)
  clear H W hB hl
  go_enter Tryz.func58, Tryz.ntmps58
  go_wp2_with fail
  refine HP.out.mono ?_
  rintro e w2 ⟨rfl, N⟩
  have NN := Lib.hid N
  clear N
  go_wp2_with fail
  go_ret
  exact ⟨rfl, NN.out⟩
set_option maxHeartbeats 4000000 in
set_option maxRecDepth 100000 in
theorem def_tick (B ob : Nat) (L : Lo) (o : OS) (w : World) (H : OIs w B ob L o) (W : Wo o) (hB : B ≤ w.heap.size) :
    Calls Tryz.prog 58 #[.pointer (some ⟨ob, 0, none⟩), .string ⟨#[39]⟩] w (Did w B ob L o (if (findO o).2.1 ≠ 0 then ((findO o).2.1, (findO o).2.2) else push (findO o).2.2 (findO o).1.xt)) := by
  generalize hT : (if (findO o).2.1 ≠ 0 then ((findO o).2.1, (findO o).2.2) else push (findO o).2.2 (findO o).1.xt) = T
  have HE := Lib.hid hT
  clear hT
  have HP := Lib.hid (findO_any B ob L o w H W)
  have HK := Lib.hid (findO_kept o W)
  have HB := Lib.hid hB
  unfold FindPost at HP
  clear H W hB
  generalize findO o = r at *
  obtain ⟨x, c, o2⟩ := r
  dsimp only at HP HK HE
  unfold wdC at HP
  go_enter Tryz.func58, Tryz.ntmps58
  go_wp2_with fail
  refine HP.out.mono ?_
  rintro e w2 ⟨rfl, L2, N2, K2, hda, hdb⟩
  have HN2 := Lib.hid N2
  have HK2 := Lib.hid K2
  have B2 := Lib.hid (Blk.new w2 62 #[.string x.name, .int .i64 x.xt, .int .i64 x.op, .bool x.imm])
  have HT := Lib.hid (N2.trans (Turns.lone N2.held (.cells #[.string x.name, .int .i64 x.xt, .int .i64 x.op, .bool x.imm] 62)))
  have HI2 : Hid (OIs (w2.alloc (.cells #[.string x.name, .int .i64 x.xt, .int .i64 x.op, .bool x.imm] 62)) B ob L2 o2) := ⟨HT.out.held, K2⟩
  have q1 := B2.out.cell 1
  simp only [List.getElem?_toArray, List.getElem?_cons_zero, List.getElem?_cons_succ] at q1
  by_cases hc : c = 0
  · subst hc
    have HA := Lib.hid (push_any B ob L2 o2 _ HI2.out (Nat.le_trans HB.out HT.out.size) x.xt HK.out.1.kept.wo.m.ns)
    clear N2 K2 hda hdb HP
    go_wp2_with fail
    refine HA.out.mono ?_
    rintro e w3 ⟨rfl, N3⟩
    have NN := Lib.hid (Nx.step HT.out N3)
    clear N3
    go_wp2_with fail
    go_ret
    rw [← HE.out, if_neg (show ¬ ((0 : Int) ≠ 0) from by simp)]
    exact ⟨rfl, NN.out⟩
  · have hcd : decide (c = 0) = false := by simpa using hc
    have hcb : (c == 0) = false := by simpa using hc
    have HC := Lib.hid hc
    clear N2 K2 hda hdb HP q1
    go_wp2_with fail
    go_ret
    rw [← HE.out, if_pos HC.out]
    exact ⟨rfl, L2, HT.out, HK2.out⟩
set_option maxHeartbeats 4000000 in
set_option maxRecDepth 100000 in
theorem def_immediate (B ob : Nat) (L : Lo) (o : OS) (w : World) (H : OIs w B ob L o) (W : Wo o) (hB : B ≤ w.heap.size) :
    Calls Tryz.prog 58 #[.pointer (some ⟨ob, 0, none⟩), .string ⟨#[73, 77, 77, 69, 68, 73, 65, 84, 69]⟩] w (Did w B ob L o (immediate o)) := by
  have c10 := words_cell H
  unfold immediate
  by_cases h0 : o.words.length = 0
  · rw [if_pos h0]
    have HL := Lib.hid (immediate_no L.wb B L.wv o.words w H.words h0)
    have HN := Lib.hid H.nx
    clear H W hB h0
    go_enter Tryz.func58, Tryz.ntmps58
    go_wp2_with fail
    refine HL.out.mono ?_
    rintro e w2 ⟨rfl, rfl⟩
    go_wp2_with fail
    go_ret
    exact ⟨rfl, HN.out⟩
  · rw [if_neg h0]
    have HL := Lib.hid (immediate_yes L.wb B L.wv o.words w H.words (Nat.pos_of_ne_zero h0) (Nat.le_trans W.wlen (by decide)))
    have HH := Lib.hid H
    clear H W hB h0
    go_enter Tryz.func58, Tryz.ntmps58
    go_wp2_with fail
    refine HL.out.mono ?_
    rintro e w2 ⟨rfl, N⟩
    have NN := Lib.hid (words_turns HH.out N)
    clear N
    go_wp2_with fail
    go_ret
    exact ⟨rfl, _, NN.out.1, NN.out.2⟩
set_option maxHeartbeats 4000000 in
set_option maxRecDepth 100000 in
theorem def_variable (B ob : Nat) (L : Lo) (o : OS) (w : World) (H : OIs w B ob L o) (W : Wo o) (hB : B ≤ w.heap.size) (hl : o.laid.length ≤ 1000000000) :
    Calls Tryz.prog 58 #[.pointer (some ⟨ob, 0, none⟩), .string ⟨#[86, 65, 82, 73, 65, 66, 76, 69]⟩] w (Did w B ob L o (if (name o).2.1 ≠ 0 then ((name o).2.1, (name o).2.2) else defX (name o).2.2 oVariable (name o).1)) := by
  have HP := Lib.hid (name_any B ob L o w H W)
  have HK := Lib.hid (name_kept o W)
  have HB := Lib.hid hB
  have HL := Lib.hid (show (name o).2.2.laid.length ≤ 1000000000 by rw [(name_kept o W).1.laid]; exact hl)
  have HX : Hid (defX (name o).2.2 oVariable (name o).1 = define (name o).2.2 (name o).1 [2, (name o).2.2.here + 3, 5, 0]) := rfl
  generalize hT : (if (name o).2.1 ≠ 0 then ((name o).2.1, (name o).2.2) else defX (name o).2.2 oVariable (name o).1) = T
  have HE := Lib.hid hT
  clear hT
  clear H W hB hl
  generalize name o = r at *
  obtain ⟨n, c, o2⟩ := r
  dsimp only at HP HK HL HE HX
  go_enter Tryz.func58, Tryz.ntmps58
  go_wp2_with fail
  refine HP.out.mono ?_
  rintro e w2 ⟨rfl, L2, N2, K2, _, _⟩
  have HN2 := Lib.hid N2
  have HK2 := Lib.hid K2
  have HI2 : Hid (OIs w2 B ob L2 o2) := ⟨N2.held, K2⟩
  have HB2 := Lib.hid (Nat.le_trans HB.out N2.size)
  clear N2 K2 HP
  by_cases hc : c = 0
  · subst hc
    have HE2 : Hid (_ = T) := Lib.hid ((HX.out.symm.trans (if_neg (show ¬ ((0 : Int) ≠ 0) from by simp)).symm).trans HE.out)
    have Wk := Lib.hid HK.out.1.kept.wo
    have Hn := Lib.hid (HK.out.2 rfl)
    have HD := Lib.hid (define_any B ob L2 o2 (w2.alloc (.cells (ints [2, (o2.here : Int) + 3, 5, 0]).toArray 3)) (HI2.out.alloc _) Wk.out (Nat.le_trans HB2.out (by simp)) n Hn.out [2, (o2.here : Int) + 3, 5, 0] 4 rfl (by simp) (by simp) w2.heap.size 4 (Blk.new _ _ _) (fun hk => absurd ((HI2.out.held.low hk).2) (Nat.lt_irrefl _)) HL.out)
    have HT := Lib.hid (HN2.out.trans (Turns.lone HN2.out.held (.cells (ints [2, (o2.here : Int) + 3, 5, 0]).toArray 3)))
    have c11 := here_cell HI2.out
    have hh3 : wrap64 ((o2.here : Int) + 3) = (o2.here : Int) + 3 := by have h1 := Wk.out.here; have h2 := Wk.out.m.nm; clear HD HT; unfold wrap64; omega
    go_wp2_with fail
    refine HD.out.mono ?_
    rintro e w4 ⟨rfl, N4⟩
    have NN := Lib.hid (Nx.step HT.out N4)
    clear N4
    go_wp2_with fail
    go_ret
    rw [← HE2.out]
    exact ⟨rfl, NN.out⟩
  · have hcd : decide (c = 0) = false := by simpa using hc
    have hcb : (c == 0) = false := by simpa using hc
    have HC := Lib.hid hc
    go_wp2_with fail
    go_ret
    rw [← HE.out, if_pos HC.out]
    exact ⟨rfl, L2, HN2.out, HK2.out⟩
set_option maxHeartbeats 4000000 in
set_option maxRecDepth 100000 in
theorem def_create (B ob : Nat) (L : Lo) (o : OS) (w : World) (H : OIs w B ob L o) (W : Wo o) (hB : B ≤ w.heap.size) (hl : o.laid.length ≤ 1000000000) :
    Calls Tryz.prog 58 #[.pointer (some ⟨ob, 0, none⟩), .string ⟨#[67, 82, 69, 65, 84, 69]⟩] w (Did w B ob L o (if (name o).2.1 ≠ 0 then ((name o).2.1, (name o).2.2) else defX (name o).2.2 oCreate (name o).1)) := by
  have HP := Lib.hid (name_any B ob L o w H W)
  have HK := Lib.hid (name_kept o W)
  have HB := Lib.hid hB
  have HL := Lib.hid (show (name o).2.2.laid.length ≤ 1000000000 by rw [(name_kept o W).1.laid]; exact hl)
  have HX : Hid (defX (name o).2.2 oCreate (name o).1 = define (name o).2.2 (name o).1 [2, (name o).2.2.here + 3, 5]) := rfl
  generalize hT : (if (name o).2.1 ≠ 0 then ((name o).2.1, (name o).2.2) else defX (name o).2.2 oCreate (name o).1) = T
  have HE := Lib.hid hT
  clear hT
  clear H W hB hl
  generalize name o = r at *
  obtain ⟨n, c, o2⟩ := r
  dsimp only at HP HK HL HE HX
  go_enter Tryz.func58, Tryz.ntmps58
  go_wp2_with fail
  refine HP.out.mono ?_
  rintro e w2 ⟨rfl, L2, N2, K2, _, _⟩
  have HN2 := Lib.hid N2
  have HK2 := Lib.hid K2
  have HI2 : Hid (OIs w2 B ob L2 o2) := ⟨N2.held, K2⟩
  have HB2 := Lib.hid (Nat.le_trans HB.out N2.size)
  clear N2 K2 HP
  by_cases hc : c = 0
  · subst hc
    have HE2 : Hid (_ = T) := Lib.hid ((HX.out.symm.trans (if_neg (show ¬ ((0 : Int) ≠ 0) from by simp)).symm).trans HE.out)
    have Wk := Lib.hid HK.out.1.kept.wo
    have Hn := Lib.hid (HK.out.2 rfl)
    have HD := Lib.hid (define_any B ob L2 o2 (w2.alloc (.cells (ints [2, (o2.here : Int) + 3, 5]).toArray 3)) (HI2.out.alloc _) Wk.out (Nat.le_trans HB2.out (by simp)) n Hn.out [2, (o2.here : Int) + 3, 5] 3 rfl (by simp) (by simp) w2.heap.size 3 (Blk.new _ _ _) (fun hk => absurd ((HI2.out.held.low hk).2) (Nat.lt_irrefl _)) HL.out)
    have HT := Lib.hid (HN2.out.trans (Turns.lone HN2.out.held (.cells (ints [2, (o2.here : Int) + 3, 5]).toArray 3)))
    have c11 := here_cell HI2.out
    have hh3 : wrap64 ((o2.here : Int) + 3) = (o2.here : Int) + 3 := by have h1 := Wk.out.here; have h2 := Wk.out.m.nm; clear HD HT; unfold wrap64; omega
    go_wp2_with fail
    refine HD.out.mono ?_
    rintro e w4 ⟨rfl, N4⟩
    have NN := Lib.hid (Nx.step HT.out N4)
    clear N4
    go_wp2_with fail
    go_ret
    rw [← HE2.out]
    exact ⟨rfl, NN.out⟩
  · have hcd : decide (c = 0) = false := by simpa using hc
    have hcb : (c == 0) = false := by simpa using hc
    have HC := Lib.hid hc
    go_wp2_with fail
    go_ret
    rw [← HE.out, if_pos HC.out]
    exact ⟨rfl, L2, HN2.out, HK2.out⟩
set_option maxHeartbeats 4000000 in
set_option maxRecDepth 100000 in
theorem def_constant (B ob : Nat) (L : Lo) (o : OS) (w : World) (H : OIs w B ob L o) (W : Wo o) (hB : B ≤ w.heap.size) (hl : o.laid.length ≤ 1000000000) :
    Calls Tryz.prog 58 #[.pointer (some ⟨ob, 0, none⟩), .string ⟨#[67, 79, 78, 83, 84, 65, 78, 84]⟩] w (Did w B ob L o (if (name o).2.1 ≠ 0 then ((name o).2.1, (name o).2.2) else defX (name o).2.2 oConstant (name o).1)) := by
  have HP := Lib.hid (name_any B ob L o w H W)
  have HK := Lib.hid (name_kept o W)
  have HB := Lib.hid hB
  have HL := Lib.hid (show (name o).2.2.laid.length ≤ 1000000000 by rw [(name_kept o W).1.laid]; exact hl)
  have HX : Hid (defX (name o).2.2 oConstant (name o).1 = if (pop (name o).2.2).2.1 ≠ 0 then ((pop (name o).2.2).2.1, (pop (name o).2.2).2.2) else define (pop (name o).2.2).2.2 (name o).1 [2, (pop (name o).2.2).1, 5]) := rfl
  generalize hT : (if (name o).2.1 ≠ 0 then ((name o).2.1, (name o).2.2) else defX (name o).2.2 oConstant (name o).1) = T
  have HE := Lib.hid hT
  clear hT
  clear H W hB hl
  generalize name o = r at *
  obtain ⟨n, c, o2⟩ := r
  dsimp only at HP HK HL HE HX
  go_enter Tryz.func58, Tryz.ntmps58
  go_wp2_with fail
  refine HP.out.mono ?_
  rintro e w2 ⟨rfl, L2, N2, K2, _, _⟩
  have HN2 := Lib.hid N2
  have HK2 := Lib.hid K2
  have HI2 : Hid (OIs w2 B ob L2 o2) := ⟨N2.held, K2⟩
  have HB2 := Lib.hid (Nat.le_trans HB.out N2.size)
  clear N2 K2 HP
  by_cases hc : c = 0
  · subst hc
    have HE2 : Hid (_ = T) := Lib.hid ((HX.out.symm.trans (if_neg (show ¬ ((0 : Int) ≠ 0) from by simp)).symm).trans HE.out)
    have Wk := Lib.hid HK.out.1.kept.wo
    have Hn := Lib.hid (HK.out.2 rfl)
    have HPp := Lib.hid (pop_any B ob L2 o2 w2 HI2.out Wk.out.m.ns)
    have HPk := Lib.hid (pop_kept o2 Wk.out)
    have HL3 : Hid ((pop o2).2.2.laid.length ≤ 1000000000) := by show _ ≤ _; rw [HPk.out.2.2.1]; exact HL.out
    generalize pop o2 = r at *
    obtain ⟨v, c, o3⟩ := r
    dsimp only at HPp HPk HL3 HE2
    go_wp2_with fail
    refine HPp.out.mono ?_
    rintro e w3 ⟨rfl, L3, N3, K3, _, _⟩
    have HN3 := Lib.hid (HN2.out.trans N3)
    have HK3 := Lib.hid K3
    have HI3 : Hid (OIs w3 B ob L3 o3) := ⟨N3.held, K3⟩
    have HB3 := Lib.hid (Nat.le_trans HB2.out N3.size)
    have Wk3 := Lib.hid HPk.out.1.wo
    clear N3 K3 HPp HI2
    by_cases hc : c = 0
    · subst hc
      have HE3 : Hid (define o3 n [2, v, 5] = T) := (if_neg (by simp)).symm.trans HE2.out
      have HD := Lib.hid (define_any B ob L3 o3 (w3.alloc (.cells (ints [2, v, 5]).toArray 3)) (HI3.out.alloc _) Wk3.out (Nat.le_trans HB3.out (by simp)) n Hn.out [2, v, 5] 3 rfl (by simp) (by simp) w3.heap.size 3 (Blk.new _ _ _) (fun hk => absurd ((HI3.out.held.low hk).2) (Nat.lt_irrefl _)) HL3.out)
      have HT := Lib.hid (HN3.out.trans (Turns.lone HN3.out.held (.cells (ints [2, v, 5]).toArray 3)))
      go_wp2_with fail
      refine HD.out.mono ?_
      rintro e w4 ⟨rfl, N4⟩
      have NN := Lib.hid (Nx.step HT.out N4)
      clear N4
      go_wp2_with fail
      go_ret
      rw [← HE3.out]
      exact ⟨rfl, NN.out⟩
    · have HE3 : Hid ((c, o3) = T) := (if_pos hc).symm.trans HE2.out
      have hcd : decide (c = 0) = false := by simpa using hc
      have hcb : (c == 0) = false := by simpa using hc
      go_wp2_with fail
      go_ret
      rw [← HE3.out]
      exact ⟨rfl, L3, HN3.out, HK3.out⟩
  · have hcd : decide (c = 0) = false := by simpa using hc
    have hcb : (c == 0) = false := by simpa using hc
    have HC := Lib.hid hc
    go_wp2_with fail
    go_ret
    rw [← HE.out, if_pos HC.out]
    exact ⟨rfl, L2, HN2.out, HK2.out⟩
theorem cells14_on (L : Lo) (o : OS) (b : Nat) (a : Wv.At) (d : Dr) : (oCells L o).setIfInBounds 14 (.pointer (some ⟨b, 0, none⟩)) = oCells { L with db := b, da := a } { o with draft := some d } := by simp [oCells, ptrIf]
theorem draft_on {w w1 : World} {B ob : Nat} {L : Lo} {o : OS} {a : Wv.At} {M : List Int} {h : Nat} (H : OIs w B ob L o) (hd : o.draft = none) (hB : B ≤ w.heap.size) (HW : Wv.WvIs w1 w.heap.size a M h []) (k : Below w.heap.size w w1) (n : ByteArray) (at_ : Nat) :
    Nx w B ob L o { o with draft := some ⟨⟨M, h, []⟩, n, at_⟩ } ((w1.alloc (.cells #[.pointer (some ⟨a.sb, 0, none⟩), .string n, .int .i64 at_] 96)).setCell ⟨ob, 14, none⟩ (.pointer (some ⟨w1.heap.size, 0, none⟩))) := by
  obtain ⟨h1, h2⟩ := wvRes_of (s := ⟨M, h, []⟩) HW
  have N0 : Turns w B [] (wvRes a ⟨M, h, []⟩) w1 := ⟨h1.mono hB, Touch.of_below k _, fun i hi => .inr (h1.low hi).1⟩
  have N1 := Turns.made H.held N0
  have N2 := N1.trans (Turns.new_st N1.held (Nat.le_trans hB k.size) 96 #[.pointer (some ⟨a.sb, 0, none⟩), .string n, .int .i64 at_])
  have e0 : oRes ob L o = oHead ob L o ++ lineRes L o.line := by unfold oRes; rw [hd]; show _ ++ (_ ++ []) = _; rw [List.append_nil]; rfl
  rw [e0] at N2
  have p : (.st w1.heap.size 96 #[.pointer (some ⟨a.sb, 0, none⟩), .string n, .int .i64 at_] :: (wvRes a ⟨M, h, []⟩ ++ (oHead ob L o ++ lineRes L o.line))).Perm (oHead ob L o ++ lineRes L o.line ++ (.st w1.heap.size 96 #[.pointer (some ⟨a.sb, 0, none⟩), .string n, .int .i64 at_] :: wvRes a ⟨M, h, []⟩)) := by
    rw [← List.cons_append]
    exact List.perm_append_comm
  have N3 := N2.perm p
  have N4 := N3.trans (Turns.set (b := ob) (T := 47) (vs := oCells L o) N3.held 14 (.pointer (some ⟨w1.heap.size, 0, none⟩)))
  refine ⟨{ L with db := w1.heap.size, da := a }, ?_, ⟨H.lok.line, fun d e => ?_, H.lok.pos⟩⟩
  · rw [cells14_on L o w1.heap.size a ⟨⟨M, h, []⟩, n, at_⟩] at N4
    have e1 : lineRes { L with db := w1.heap.size, da := a } o.line = lineRes L o.line := by cases o.line <;> rfl
    have e2 : oRes ob { L with db := w1.heap.size, da := a } { o with draft := some ⟨⟨M, h, []⟩, n, at_⟩ } = .st ob 47 (oCells { L with db := w1.heap.size, da := a } { o with draft := some ⟨⟨M, h, []⟩, n, at_⟩ }) :: ((oHead ob L o).tail ++ lineRes L o.line ++ (.st w1.heap.size 96 #[.pointer (some ⟨a.sb, 0, none⟩), .string n, .int .i64 at_] :: wvRes a ⟨M, h, []⟩)) := by
      rw [← e1, List.append_assoc]
      rfl
    rw [e2, e0]
    exact N4
  · injection e with e
    subst e
    exact h2
set_option maxHeartbeats 4000000 in
set_option maxRecDepth 100000 in
theorem def_colon (B ob : Nat) (L : Lo) (o : OS) (w : World) (H : OIs w B ob L o) (W : Wo o) (hB : B ≤ w.heap.size) (hl : o.laid.length ≤ 1000000000) (hdn : o.draft = none) :
    Calls Tryz.prog 58 #[.pointer (some ⟨ob, 0, none⟩), .string ⟨#[58]⟩] w (Did w B ob L o (if (name o).2.1 ≠ 0 then ((name o).2.1, (name o).2.2) else defX (name o).2.2 oColon (name o).1)) := by
  have HP := Lib.hid (name_any B ob L o w H W)
  have HK := Lib.hid (name_kept o W)
  have HB := Lib.hid hB
  have HL := Lib.hid (show (name o).2.2.laid.length ≤ 1000000000 by rw [(name_kept o W).1.laid]; exact hl)
  have HX : Hid (defX (name o).2.2 oColon (name o).1 = (0, { (name o).2.2 with draft := some ⟨⟨(name o).2.2.m.mem, (name o).2.2.here, []⟩, (name o).1, (name o).2.2.here⟩ })) := rfl
  generalize hT : (if (name o).2.1 ≠ 0 then ((name o).2.1, (name o).2.2) else defX (name o).2.2 oColon (name o).1) = T
  have HE := Lib.hid hT
  clear hT
  have HD0 := Lib.hid hdn
  clear H W hB hl hdn
  generalize name o = r at *
  obtain ⟨n, c, o2⟩ := r
  dsimp only at HP HK HL HE HX
  go_enter Tryz.func58, Tryz.ntmps58
  go_wp2_with fail
  refine HP.out.mono ?_
  rintro e w2 ⟨rfl, L2, N2, K2, _, _⟩
  have HN2 := Lib.hid N2
  have HK2 := Lib.hid K2
  have HI2 : Hid (OIs w2 B ob L2 o2) := ⟨N2.held, K2⟩
  have HB2 := Lib.hid (Nat.le_trans HB.out N2.size)
  clear N2 K2 HP
  by_cases hc : c = 0
  · subst hc
    have HE2 : Hid (_ = T) := Lib.hid ((HX.out.symm.trans (if_neg (show ¬ ((0 : Int) ≠ 0) from by simp)).symm).trans HE.out)
    have Wk := Lib.hid HK.out.1.kept.wo
    have Hn := Lib.hid (HK.out.2 rfl)
    have HE3 : Hid ((0, { o2 with draft := some ⟨⟨o2.m.mem, o2.here, []⟩, n, o2.here⟩ }) = T) := HE2.out
    obtain ⟨MA, mc, hmv, c4⟩ := mem_cell HI2.out
    have c11 := here_cell HI2.out
    have Hd2 : Hid (o2.draft = none) := HK.out.1.draft.trans HD0.out
    have c14 := draft_none HI2.out Hd2.out
    have f14 := HI2.out.frozen 14
    have hrow := HI2.out.rows.me
    rw [hmv] at hrow
    have HNw := Lib.hid (Wv.new_any B MA mc o2.m.mem o2.here (w2.drewN 1) (Mc.row_own (w := w2.drewN 1) hrow HK2.out.pos) (Nat.le_trans Wk.out.m.nm (by decide)) o2.here (by have h1 := Wk.out.here; omega))
    have HI2d := Lib.hid (HI2.out.drewN 1)
    have Hmv := Lib.hid hmv
    clear hrow hmv c14 f14
    go_upto_region 32 with fail
    have HS0 : (fun W : World => W.cell? ⟨ob, 4, none⟩ = some (.slice MA o2.m.mem.length mc) ∧ W.cell? ⟨ob, 11, none⟩ = some (.int .i64 o2.here)) w2.drew := ⟨c4, c11⟩
    refine Pb.wp_region_U (fun i => decide (i < 18)) (fun W : World => W.cell? ⟨ob, 4, none⟩ = some (.slice MA o2.m.mem.length mc) ∧ W.cell? ⟨ob, 11, none⟩ = some (.int .i64 o2.here)) (by kernel_rfl) ?_
    change Pb.wpU _ _ _ _ _ _ 21 #[false, false, false, false, false, false, false, false, false, false, false, false, false, false, false, false, false, false, false, false, false] _ _
    refine Pb.U_take (i := 0) (oi := { dst := some 100, op := .move (.tmp 0), type := 27, pos := "own.go:186", after := #[], guard := none }) (v := .pointer (some ⟨ob, 0, none⟩)) rfl (by kernel_rfl) (by kernel_rfl) (by kernel_rfl) (by kernel_rfl) (fun _ _ _ h => h) (Or.inl ⟨by rfl, ?_⟩) (by assumption) ?_
    · intro W hSw; (try dsimp only at hSw); go_simp
    simp only [Act.put, List.setIfInBounds_toArray, List.set_cons_zero, List.set_cons_succ]
    refine Pb.U_take (i := 1) (oi := { dst := some 101, op := .move (.tmp 0), type := 27, pos := "own.go:186", after := #[], guard := none }) (v := .pointer (some ⟨ob, 0, none⟩)) rfl (by kernel_rfl) (by kernel_rfl) (by kernel_rfl) (by kernel_rfl) (fun _ _ _ h => h) (Or.inl ⟨by rfl, ?_⟩) (by assumption) ?_
    · intro W hSw; (try dsimp only at hSw); go_simp
    simp only [Act.put, List.setIfInBounds_toArray, List.set_cons_zero, List.set_cons_succ]
    refine Pb.U_take (i := 2) (oi := { dst := some 102, op := .nilCheck (.tmp 101), type := 0, pos := "own.go:186", after := #[{ on := 1, ground := .data }], guard := none }) (v := .pointer (some ⟨ob, 0, none⟩)) rfl (by kernel_rfl) (by kernel_rfl) (by kernel_rfl) (by kernel_rfl) (fun _ _ _ h => h) (Or.inl ⟨by rfl, ?_⟩) (by assumption) ?_
    · intro W hSw; (try dsimp only at hSw); go_simp
    simp only [Act.put, List.setIfInBounds_toArray, List.set_cons_zero, List.set_cons_succ]
    refine Pb.U_take (i := 3) (oi := { dst := some 103, op := .fieldAddr 47 (.tmp 102) 0, type := 0, pos := "own.go:186", after := #[{ on := 2, ground := .data }], guard := none }) (v := .pointer (some ⟨ob, 0, none⟩)) rfl (by kernel_rfl) (by kernel_rfl) (by kernel_rfl) (by kernel_rfl) (fun _ _ _ h => h) (Or.inl ⟨by rfl, ?_⟩) (by assumption) ?_
    · intro W hSw; (try dsimp only at hSw); go_simp
    simp only [Act.put, List.setIfInBounds_toArray, List.set_cons_zero, List.set_cons_succ]
    refine Pb.U_take (i := 4) (oi := { dst := some 104, op := .fieldAddr 33 (.tmp 103) 4, type := 0, pos := "own.go:186", after := #[{ on := 3, ground := .data }], guard := none }) (v := .pointer (some ⟨ob, 4, none⟩)) rfl (by kernel_rfl) (by kernel_rfl) (by kernel_rfl) (by kernel_rfl) (fun _ _ _ h => h) (Or.inl ⟨by rfl, ?_⟩) (by assumption) ?_
    · intro W hSw; (try dsimp only at hSw); go_simp
    simp only [Act.put, List.setIfInBounds_toArray, List.set_cons_zero, List.set_cons_succ]
    refine Pb.U_take (i := 5) (oi := { dst := some 105, op := .load 31 (.tmp 104), type := 31, pos := "own.go:186", after := #[{ on := 4, ground := .data }], guard := none }) (v := .slice MA o2.m.mem.length mc) rfl (by kernel_rfl) (by kernel_rfl) (by kernel_rfl) (by kernel_rfl) (fun _ _ _ h => h) (Or.inl ⟨by rfl, ?_⟩) (by assumption) ?_
    · intro W hSw; (try dsimp only at hSw); go_simp
    simp only [Act.put, List.setIfInBounds_toArray, List.set_cons_zero, List.set_cons_succ]
    refine Pb.U_take (i := 6) (oi := { dst := some 106, op := .move (.tmp 0), type := 27, pos := "own.go:186", after := #[], guard := none }) (v := .pointer (some ⟨ob, 0, none⟩)) rfl (by kernel_rfl) (by kernel_rfl) (by kernel_rfl) (by kernel_rfl) (fun _ _ _ h => h) (Or.inl ⟨by rfl, ?_⟩) (by assumption) ?_
    · intro W hSw; (try dsimp only at hSw); go_simp
    simp only [Act.put, List.setIfInBounds_toArray, List.set_cons_zero, List.set_cons_succ]
    refine Pb.U_take (i := 7) (oi := { dst := some 107, op := .nilCheck (.tmp 106), type := 0, pos := "own.go:186", after := #[{ on := 6, ground := .data }], guard := none }) (v := .pointer (some ⟨ob, 0, none⟩)) rfl (by kernel_rfl) (by kernel_rfl) (by kernel_rfl) (by kernel_rfl) (fun _ _ _ h => h) (Or.inl ⟨by rfl, ?_⟩) (by assumption) ?_
    · intro W hSw; (try dsimp only at hSw); go_simp
    simp only [Act.put, List.setIfInBounds_toArray, List.set_cons_zero, List.set_cons_succ]
    refine Pb.U_take (i := 8) (oi := { dst := some 108, op := .fieldAddr 47 (.tmp 107) 2, type := 0, pos := "own.go:186", after := #[{ on := 7, ground := .data }], guard := none }) (v := .pointer (some ⟨ob, 11, none⟩)) rfl (by kernel_rfl) (by kernel_rfl) (by kernel_rfl) (by kernel_rfl) (fun _ _ _ h => h) (Or.inl ⟨by rfl, ?_⟩) (by assumption) ?_
    · intro W hSw; (try dsimp only at hSw); go_simp
    simp only [Act.put, List.setIfInBounds_toArray, List.set_cons_zero, List.set_cons_succ]
    refine Pb.U_take (i := 9) (oi := { dst := some 109, op := .load 3 (.tmp 108), type := 3, pos := "own.go:186", after := #[{ on := 8, ground := .data }], guard := none }) (v := .int .i64 o2.here) rfl (by kernel_rfl) (by kernel_rfl) (by kernel_rfl) (by kernel_rfl) (fun _ _ _ h => h) (Or.inl ⟨by rfl, ?_⟩) (by assumption) ?_
    · intro W hSw; (try dsimp only at hSw); go_simp
    simp only [Act.put, List.setIfInBounds_toArray, List.set_cons_zero, List.set_cons_succ]
    refine Pb.U_take (i := 11) (oi := { dst := some 111, op := .move (.tmp 7), type := 9, pos := "own.go:186", after := #[], guard := none }) (v := .string n) rfl (by kernel_rfl) (by kernel_rfl) (by kernel_rfl) (by kernel_rfl) (fun _ _ _ h => h) (Or.inl ⟨by rfl, ?_⟩) (by assumption) ?_
    · intro W hSw; (try dsimp only at hSw); go_simp
    simp only [Act.put, List.setIfInBounds_toArray, List.set_cons_zero, List.set_cons_succ]
    refine Pb.U_take (i := 12) (oi := { dst := some 112, op := .move (.tmp 0), type := 27, pos := "own.go:186", after := #[], guard := none }) (v := .pointer (some ⟨ob, 0, none⟩)) rfl (by kernel_rfl) (by kernel_rfl) (by kernel_rfl) (by kernel_rfl) (fun _ _ _ h => h) (Or.inl ⟨by rfl, ?_⟩) (by assumption) ?_
    · intro W hSw; (try dsimp only at hSw); go_simp
    simp only [Act.put, List.setIfInBounds_toArray, List.set_cons_zero, List.set_cons_succ]
    refine Pb.U_take (i := 13) (oi := { dst := some 113, op := .nilCheck (.tmp 112), type := 0, pos := "own.go:186", after := #[{ on := 12, ground := .data }], guard := none }) (v := .pointer (some ⟨ob, 0, none⟩)) rfl (by kernel_rfl) (by kernel_rfl) (by kernel_rfl) (by kernel_rfl) (fun _ _ _ h => h) (Or.inl ⟨by rfl, ?_⟩) (by assumption) ?_
    · intro W hSw; (try dsimp only at hSw); go_simp
    simp only [Act.put, List.setIfInBounds_toArray, List.set_cons_zero, List.set_cons_succ]
    refine Pb.U_take (i := 14) (oi := { dst := some 114, op := .fieldAddr 47 (.tmp 113) 2, type := 0, pos := "own.go:186", after := #[{ on := 13, ground := .data }], guard := none }) (v := .pointer (some ⟨ob, 11, none⟩)) rfl (by kernel_rfl) (by kernel_rfl) (by kernel_rfl) (by kernel_rfl) (fun _ _ _ h => h) (Or.inl ⟨by rfl, ?_⟩) (by assumption) ?_
    · intro W hSw; (try dsimp only at hSw); go_simp
    simp only [Act.put, List.setIfInBounds_toArray, List.set_cons_zero, List.set_cons_succ]
    refine Pb.U_take (i := 15) (oi := { dst := some 115, op := .load 3 (.tmp 114), type := 3, pos := "own.go:186", after := #[{ on := 14, ground := .data }], guard := none }) (v := .int .i64 o2.here) rfl (by kernel_rfl) (by kernel_rfl) (by kernel_rfl) (by kernel_rfl) (fun _ _ _ h => h) (Or.inl ⟨by rfl, ?_⟩) (by assumption) ?_
    · intro W hSw; (try dsimp only at hSw); go_simp
    simp only [Act.put, List.setIfInBounds_toArray, List.set_cons_zero, List.set_cons_succ]
    clear HS0
    refine Pb.U_ready (rs := [10]) (by kernel_rfl) (by simp) ?_
    refine Pb.AllReadyU.cons rfl (fun K hK => ?_) Pb.AllReadyU.nil
    go_simp
    refine HNw.out.mono ?_
    rintro e w3 ⟨a, rfl, HW3, k3⟩
    have HON := Lib.hid (draft_on HI2d.out Hd2.out (show B ≤ (w2.drewN 1).heap.size from HB2.out) HW3 k3 n o2.here)
    have HTB := Lib.hid (HI2d.out.next (Turns.of_below HI2d.out.held k3 (Nat.le_refl _)) HI2d.out.lok)
    have HS1 : (fun W : World => W.cell? ⟨ob, 4, none⟩ = some (.slice MA o2.m.mem.length mc) ∧ W.cell? ⟨ob, 11, none⟩ = some (.int .i64 o2.here)) w3 := ⟨by rw [← Hmv.out]; exact HTB.out.cell 4, here_cell HTB.out⟩
    have HSS1 := Lib.hid HS1
    have HSS2 : Hid ((fun W : World => W.cell? ⟨ob, 4, none⟩ = some (.slice MA o2.m.mem.length mc) ∧ W.cell? ⟨ob, 11, none⟩ = some (.int .i64 o2.here)) (w3.alloc (.cells #[.pointer (some ⟨a.sb, 0, none⟩), .string n, .int .i64 o2.here] 96))) := by
      have hb := HTB.out.alloc (.cells #[.pointer (some ⟨a.sb, 0, none⟩), .string n, .int .i64 (o2.here : Int)] 96)
      exact ⟨by rw [← Hmv.out]; exact hb.cell 4, here_cell hb⟩
    have HTA := Lib.hid (HTB.out.alloc (.cells #[.pointer (some ⟨a.sb, 0, none⟩), .string n, .int .i64 (o2.here : Int)] 96))
    clear HW3 k3 HNw
    refine hK.out _ _ (fun _ => HSS1.out) ?_
    clear hK K
    simp only [Act.put, List.setIfInBounds_toArray, List.set_cons_zero, List.set_cons_succ]
    refine Pb.U_take (i := 16) (oi := { dst := some 116, op := .build 96 #[(0, .tmp 110), (1, .tmp 111), (2, .tmp 115)], type := 96, pos := "own.go:186", after := #[{ on := 10, ground := .data }, { on := 11, ground := .data }, { on := 15, ground := .data }], guard := none }) (v := .agg #[.pointer (some ⟨a.sb, 0, none⟩), .string n, .int .i64 o2.here]) rfl (by kernel_rfl) (by kernel_rfl) (by kernel_rfl) (by kernel_rfl) (fun _ _ _ h => h) (Or.inl ⟨by rfl, ?_⟩) (by assumption) ?_
    · intro W hSw; (try dsimp only at hSw); go_simp
    simp only [Act.put, List.setIfInBounds_toArray, List.set_cons_zero, List.set_cons_succ]
    clear HS1
    refine Pb.U_ready (rs := [17]) (by kernel_rfl) (by simp) ?_
    refine Pb.AllReadyU.cons rfl (fun K hK => ?_) Pb.AllReadyU.nil
    go_simp
    refine hK.out _ _ (fun _ => HSS2.out) ?_
    clear hK K
    simp only [Act.put, List.setIfInBounds_toArray, List.set_cons_zero, List.set_cons_succ]
    have c14 := draft_none HTA.out Hd2.out
    have f14 := HTA.out.frozen 14
    refine Pb.U_pure (i := 18) (oi := { dst := some 118, op := .nilCheck (.tmp 100), type := 0, pos := "own.go:186", after := #[{ on := 0, ground := .data }, { on := 0, ground := .phase }, { on := 1, ground := .phase }, { on := 2, ground := .phase }, { on := 3, ground := .phase }, { on := 4, ground := .phase }, { on := 5, ground := .phase }, { on := 6, ground := .phase }, { on := 7, ground := .phase }, { on := 8, ground := .phase }, { on := 9, ground := .phase }, { on := 10, ground := .phase }, { on := 11, ground := .phase }, { on := 12, ground := .phase }, { on := 13, ground := .phase }, { on := 14, ground := .phase }, { on := 15, ground := .phase }, { on := 16, ground := .phase }, { on := 17, ground := .phase }], guard := none }) (v := .pointer (some ⟨ob, 0, none⟩)) rfl (by kernel_rfl) (by kernel_rfl) (by kernel_rfl) (by decide) (fun _ _ _ h => h) (Or.inl ⟨by rfl, ?_⟩) ?_
    · intro W hSw; (try dsimp only at hSw); go_simp
    simp only [Act.put, List.setIfInBounds_toArray, List.set_cons_zero, List.set_cons_succ]
    refine Pb.U_pure (i := 19) (oi := { dst := some 119, op := .fieldAddr 47 (.tmp 118) 5, type := 0, pos := "own.go:186", after := #[{ on := 18, ground := .data }, { on := 0, ground := .phase }, { on := 1, ground := .phase }, { on := 2, ground := .phase }, { on := 3, ground := .phase }, { on := 4, ground := .phase }, { on := 5, ground := .phase }, { on := 6, ground := .phase }, { on := 7, ground := .phase }, { on := 8, ground := .phase }, { on := 9, ground := .phase }, { on := 10, ground := .phase }, { on := 11, ground := .phase }, { on := 12, ground := .phase }, { on := 13, ground := .phase }, { on := 14, ground := .phase }, { on := 15, ground := .phase }, { on := 16, ground := .phase }, { on := 17, ground := .phase }], guard := none }) (v := .pointer (some ⟨ob, 14, none⟩)) rfl (by kernel_rfl) (by kernel_rfl) (by kernel_rfl) (by decide) (fun _ _ _ h => h) (Or.inl ⟨by rfl, ?_⟩) ?_
    · intro W hSw; (try dsimp only at hSw); go_simp
    simp only [Act.put, List.setIfInBounds_toArray, List.set_cons_zero, List.set_cons_succ]
    refine Pb.U_ready (rs := [20]) (by kernel_rfl) (by simp) ?_
    refine Pb.AllReadyU.cons rfl (fun K hK => ?_) Pb.AllReadyU.nil
    go_simp
    refine hK.out _ _ (fun h => absurd h (by decide)) ?_
    clear hK K
    simp only [Act.put, List.setIfInBounds_toArray, List.set_cons_zero, List.set_cons_succ]
    refine Pb.U_done (by kernel_rfl) ?_ _
    go_simp
    have TT := Lib.hid (Nx.step (HN2.out.drewN 1) HON.out)
    clear c14 f14 HTA HSS1 HSS2 HON HTB
    go_wp2_with fail
    go_ret
    rw [← HE3.out]
    exact ⟨rfl, TT.out⟩
  · have hcd : decide (c = 0) = false := by simpa using hc
    have hcb : (c == 0) = false := by simpa using hc
    have HC := Lib.hid hc
    go_wp2_with fail
    go_ret
    rw [← HE.out, if_pos HC.out]
    exact ⟨rfl, L2, HN2.out, HK2.out⟩
end Go.Proofs.YtompdfpjmdnhoabGreatDoor.Ou
namespace Go.Proofs.YtompdfpjmdnhoabGreatDoor.Ou
open Go.RowKit Go.Proofs.YtompdfpjmdnhoabGreatDoor.Rs Go.Proofs.YtompdfpjmdnhoabGreatDoor.Src
theorem untilB_at {o : OS} {l : List UInt8} (h : o.line = some l) (c : UInt8) : untilB o c = (⟨(l.takeWhile (fun x => x != c)).toArray⟩, { o with line := some ((l.dropWhile (fun x => x != c)).drop 1) }) := by unfold untilB; rw [h]
theorem until_text (s : ByteArray) (k : Nat) (c : UInt8) : s.extract k (findB c s.data.toList k) = ⟨((s.data.toList.drop k).takeWhile (fun x => x != c)).toArray⟩ := by
  rw [extract_list]
  unfold findB
  rw [Nat.add_sub_cancel_left, take_takeWhile]
theorem until_left (s : ByteArray) (k : Nat) (c : UInt8) : s.data.toList.drop (findB c s.data.toList k + 1) = ((s.data.toList.drop k).dropWhile (fun x => x != c)).drop 1 := by
  rw [dropWhile_eq, List.drop_drop, List.drop_drop]
  unfold findB
  rw [Nat.add_assoc]
theorem until_all (s : ByteArray) (k : Nat) (c : UInt8) (hk : k ≤ s.size) (h : ¬ findB c s.data.toList k < s.size) : (s.data.toList.drop k).takeWhile (fun x => x != c) = s.data.toList.drop k ∧ (s.data.toList.drop k).dropWhile (fun x => x != c) = [] ∧ s.extract k s.size = ⟨(s.data.toList.drop k).toArray⟩ := by
  have hs : s.data.toList.length = s.size := rfl
  have hl : (s.data.toList.drop k).length ≤ ((s.data.toList.drop k).takeWhile (fun x => x != c)).length := by
    unfold findB at h
    rw [List.length_drop, hs]
    omega
  have e : (s.data.toList.drop k).takeWhile (fun x => x != c) = s.data.toList.drop k := by
    have h1 := take_takeWhile (fun x => x != c) (s.data.toList.drop k)
    rw [List.take_of_length_le hl] at h1
    exact h1.symm
  refine ⟨e, ?_, ?_⟩
  · rw [dropWhile_eq, e, List.drop_length]
  · rw [extract_list, List.take_of_length_le (by rw [List.length_drop, hs]; omega)]
def UntilPost (w : World) (B ob : Nat) (L : Lo) (o : OS) (c : UInt8) (e : Ending) (w' : World) : Prop :=
  ∃ b, e = .returned (.tuple #[.string (untilB o c).1, .bool b]) ∧ Nx w B ob L o (untilB o c).2 w' ∧ (b = true → fuelW (untilB o c).2 + 1 ≤ fuelW o) ∧ (b = false → (untilB o c).2 = skipL o)
theorem until_any (B ob : Nat) (L : Lo) (o : OS) (w : World) (H : OIs w B ob L o) (ci : Int) (c : UInt8) (hc : c = ci.toNat.toUInt8) :
    ∃ p, w.cell? ⟨ob, 13, none⟩ = some (.pointer p) ∧ Calls Tryz.prog 77 #[.pointer p, .int .u8 ci] w (UntilPost w B ob L o c) := by
  subst hc
  cases hl : o.line with
  | none =>
    refine ⟨none, line_none H hl, ?_⟩
    refine (until_nil ci w).mono ?_
    rintro e w2 ⟨rfl, rfl⟩
    have e1 : untilB o ci.toNat.toUInt8 = (ByteArray.empty, o) := by unfold untilB; rw [hl]
    refine ⟨false, by rw [e1], by rw [e1]; exact H.nx, (fun h => by cases h), fun _ => ?_⟩
    rw [e1]
    unfold skipL
    rw [hl]
  | some l =>
    refine ⟨some ⟨L.lb, 0, none⟩, line_cell H hl, ?_⟩
    obtain ⟨hs, hb⟩ := H.src hl
    obtain ⟨hle, hk, _⟩ := H.lok.line l hl
    by_cases hq : findB ci.toNat.toUInt8 L.ls.data.toList L.lk < L.ls.size
    · refine (until_yes L.lb L.lk ci L.ls w hs hq).mono ?_
      rintro e w2 ⟨rfl, hs2, hg⟩
      obtain ⟨N, K⟩ := line_turns H hl hs2 hg
      rw [until_left, ← hle] at N K
      refine ⟨true, ?_, ?_, fun _ => ?_, (fun h => by cases h)⟩
      · rw [untilB_at hl, until_text, ← hle]
      · rw [untilB_at hl]
        exact ⟨_, N, K⟩
      · rw [untilB_at hl]
        unfold fuelW
        rw [hl]
        dsimp only
        rw [hle, ← until_left, List.length_drop, List.length_drop]
        have := find_ge ci.toNat.toUInt8 L.ls.data.toList L.lk
        have hz : L.ls.data.toList.length = L.ls.size := rfl
        omega
    · refine (until_no L.lb L.lk ci L.ls w hs hq).mono ?_
      rintro e w2 ⟨rfl, hs2, hg⟩
      obtain ⟨N, K⟩ := line_turns H hl hs2 hg
      obtain ⟨u1, u2, u3⟩ := until_all L.ls L.lk ci.toNat.toUInt8 hk hq
      have e0 : L.ls.data.toList.drop L.ls.size = [] := List.drop_length
      have e1 : untilB o ci.toNat.toUInt8 = (L.ls.extract L.lk L.ls.size, { o with line := some [] }) := by
        rw [untilB_at hl, hle, u1, u2, u3]
        rfl
      rw [e0] at N K
      refine ⟨false, by rw [e1], ?_, (fun h => by cases h), fun _ => ?_⟩
      · rw [e1]; exact ⟨_, N, K⟩
      · rw [e1]; unfold skipL; rw [hl]
theorem skip_skip (o : OS) (c : UInt8) : skipL (untilB o c).2 = skipL o := by
  cases h : o.line with
  | none =>
    have e1 : untilB o c = (ByteArray.empty, o) := by unfold untilB; rw [h]
    rw [e1]
  | some l =>
    rw [untilB_at h]
    unfold skipL
    rw [h]
end Go.Proofs.YtompdfpjmdnhoabGreatDoor.Ou
namespace Go.Proofs.YtompdfpjmdnhoabGreatDoor.Ou
open Go.RowKit Go.Proofs.YtompdfpjmdnhoabGreatDoor.Rs Go.Proofs.YtompdfpjmdnhoabGreatDoor.Src
section
variable {w w' w1 : World} {B ob : Nat} {L : Lo} {o : OS}
def restC (L : Lo) (o : OS) : List Value := [.pointer (some ⟨L.wb, 0, none⟩), .int .i64 o.here, .int .i64 o.base, ptrIf L.lb o.line.isSome, ptrIf L.db o.draft.isSome, .bool o.runs, .string o.last, L.lv]
theorem oCells_split : oCells L o = ((Mc.sCells L.sv L.bv L.mv o.m).toList ++ restC L o).toArray := rfl
theorem OIs.range (H : OIs w B ob L o) : w.rangeAt ob 0 (Mc.sCells L.sv L.bv L.mv o.m).toList := fun j v hj => by
  have h := H.cell j
  rw [oCells_split, List.getElem?_toArray, List.getElem?_append_left (List.getElem?_eq_some_iff.1 hj).1] at h
  rw [Nat.zero_add, h]
  exact hj
theorem blk_there (K : Blk w ob 47 (oCells L o)) : w.there ob 0 10 := fun j hj => by
  have h := K.cell j
  refine ⟨?_, K.frozen _⟩
  rw [Nat.zero_add, h]
  have : j < (oCells L o).size := Nat.lt_of_lt_of_le hj (show 10 ≤ 18 by decide)
  rw [Array.getElem?_eq_getElem this]
  rfl
theorem OIs.there (H : OIs w B ob L o) : w.there ob 0 10 := blk_there H.blk
theorem sCells_one (sv bv mv : Value) (m : Mc.S) (h1 : sv.oneCell' = true) (h2 : bv.oneCell' = true) (h3 : mv.oneCell' = true) : (Mc.sCells sv bv mv m).all (·.oneCell') = true := by
  simp only [Mc.sCells, List.all_toArray, List.all_cons, List.all_nil, h1, h2, h3, Bool.and_true, Bool.true_and]
  rfl
theorem slice_one {w : World} {B : Nat} {e : TypeId} {sz n : Nat} {v : Value} {xs : List Value} (h : Row w B e sz v n xs) : v.oneCell' = true := by
  obtain ⟨A, c, rfl⟩ := h.slice
  rfl
theorem rows_one {sv bv mv : Value} {m : Mc.S} (h : Held w B (Mc.stRows sv bv mv m)) : (Mc.sCells sv bv mv m).all (·.oneCell') = true :=
  sCells_one _ _ _ _ (slice_one (h.row (e := 3) (sz := 1) (n := m.stack.length) (xs := ints m.stack) (by simp [Mc.stRows]))) (slice_one (h.row (e := 3) (sz := 1) (n := m.back.length) (xs := ints m.back) (by simp [Mc.stRows]))) (slice_one (h.row (e := 3) (sz := 1) (n := m.mem.length) (xs := ints m.mem) (by simp [Mc.stRows])))
theorem sCells_info (sv bv mv : Value) (m : Mc.S) : (Tryz.prog.info? 33).map (·.size) = some (Mc.sCells sv bv mv m).size := by
  have : (Tryz.prog.info? 33).map (·.size) = some 10 := by kernel_rfl
  exact this
theorem Turns_pairs {b : Nat} {T : TypeId} {R : List Res} : ∀ (us : List (Nat × Value)) (vs : Array Value) (w : World), Held w B (.st b T vs :: R) →
    Turns w B (.st b T vs :: R) (.st b T (us.foldl (fun a p => a.setIfInBounds p.1 p.2) vs) :: R) (us.foldl (fun a p => a.setCell ⟨b, p.1, none⟩ p.2) w)
  | [], _, _, h => Turns.refl h
  | u :: us, vs, w, h => by
    have N := Turns.set h u.1 u.2
    exact N.trans (Turns_pairs us _ _ N.held)
def Lf (L : Lo) : Lo := { L with sv := .slice none 0 0, bv := .slice none 0 0 }
def faultSets : List (Nat × Value) := [(13, .pointer none), (14, .pointer none), (15, .bool false), (2, .slice none 0 0), (3, .slice none 0 0), (1, .int .i64 0), (8, .int .i64 1)]
theorem nil_rows (w : World) (B : Nat) : Turns w B [] [.row 3 1 (.slice none 0 0) 0 [], .row 3 1 (.slice none 0 0) 0 []] w :=
  ⟨⟨fun r hr => by simp only [List.mem_cons, List.not_mem_nil, or_false, or_self] at hr; subst hr; exact Row.nil _ _ _ _ _, (List.nodup_nil : ([] : List Nat).Nodup)⟩, Touch.refl _ _, fun k hk => by simp [blks, Res.blk, roomBlock] at hk⟩
theorem fault_rest (H : OIs w B ob L o) : Turns w B (oRes ob L o) (.st ob 47 (oCells L o) :: [.row 3 1 (.slice none 0 0) 0 [], .row 3 1 (.slice none 0 0) 0 [], .row 3 1 L.mv o.m.mem.length (ints o.m.mem), .st L.wb 59 #[L.wv], .row 62 4 L.wv o.words.length (wdsV o.words), .row 3 1 L.lv o.laid.length (ints o.laid)]) w := by
  have N1 := Turns.made H.held (nil_rows w B)
  have N2 : Turns w B (oRes ob L o) (.st ob 47 (oCells L o) :: ([.row 3 1 (.slice none 0 0) 0 [], .row 3 1 (.slice none 0 0) 0 []] ++ (oRes ob L o).tail)) w := N1.perm List.perm_middle
  refine N2.sub (List.Sublist.cons_cons _ (List.Sublist.cons_cons _ (List.Sublist.cons_cons _ (List.Sublist.cons _ (List.Sublist.cons _ ?_)))))
  exact List.sublist_append_left [.row 3 1 L.mv o.m.mem.length (ints o.m.mem), .st L.wb 59 #[L.wv], .row 62 4 L.wv o.words.length (wdsV o.words), .row 3 1 L.lv o.laid.length (ints o.laid)] (lineRes L o.line ++ draftRes L o.draft)
theorem fault_lok (H : OIs w B ob L o) : Lok (Lf L) (fault o) := ⟨(fun l e => by cases e), (fun d e => by cases e), H.lok.pos⟩
theorem fault_cells (L : Lo) (o : OS) : faultSets.foldl (fun a p => a.setIfInBounds p.1 p.2) (oCells L o) = oCells (Lf L) (fault o) := by
  simp [faultSets, oCells, Lf, fault, ptrIf]
theorem fault_turns (H : OIs w B ob L o) : Turns w B (oRes ob L o) (oRes ob (Lf L) (fault o)) (faultSets.foldl (fun a p => a.setCell ⟨ob, p.1, none⟩ p.2) w) := by
  have N := fault_rest H
  have N2 := Turns_pairs faultSets _ _ N.held
  rw [fault_cells] at N2
  have e : oRes ob (Lf L) (fault o) = .st ob 47 (oCells (Lf L) (fault o)) :: [.row 3 1 (.slice none 0 0) 0 [], .row 3 1 (.slice none 0 0) 0 [], .row 3 1 L.mv o.m.mem.length (ints o.m.mem), .st L.wb 59 #[L.wv], .row 62 4 L.wv o.words.length (wdsV o.words), .row 3 1 L.lv o.laid.length (ints o.laid)] := rfl
  rw [e]
  exact N.trans N2
end
end Go.Proofs.YtompdfpjmdnhoabGreatDoor.Ou
namespace Go.Proofs.YtompdfpjmdnhoabGreatDoor.Ou
open Go.RowKit Go.Proofs.YtompdfpjmdnhoabGreatDoor.Rs Go.Proofs.YtompdfpjmdnhoabGreatDoor.Src
set_option maxHeartbeats 2000000 in
set_option maxRecDepth 100000 in
theorem fault_any (B ob : Nat) (L : Lo) (o : OS) (w : World) (H : OIs w B ob L o) (c : Int) :
    Calls Tryz.prog 29 #[.pointer (some ⟨ob, 0, none⟩), .int .i64 c] w (Did w B ob L o (c, fault o)) := by
  have c13 : w.cell? ⟨ob, 13, none⟩ = some (ptrIf L.lb o.line.isSome) := H.cell 13
  have c14 : w.cell? ⟨ob, 14, none⟩ = some (ptrIf L.db o.draft.isSome) := H.cell 14
  have c15 : w.cell? ⟨ob, 15, none⟩ = some (.bool o.runs) := H.cell 15
  have c2 : w.cell? ⟨ob, 2, none⟩ = some L.sv := H.cell 2
  have c3 : w.cell? ⟨ob, 3, none⟩ = some L.bv := H.cell 3
  have c1 : w.cell? ⟨ob, 1, none⟩ = some (.int .i64 o.m.handler) := H.cell 1
  have c8 : w.cell? ⟨ob, 8, none⟩ = some (.int .i64 o.m.status) := H.cell 8
  have f13 := H.frozen 13
  have f14 := H.frozen 14
  have f15 := H.frozen 15
  have f2 := H.frozen 2
  have f3 := H.frozen 3
  have f1 := H.frozen 1
  have f8 := H.frozen 8
  have HN := Lib.hid (fault_turns H)
  have HK := Lib.hid (fault_lok H)
  clear H
  go_enter Tryz.func29, Tryz.ntmps29
  go_wp2_with fail
  go_ret
  exact ⟨rfl, _, HN.out, HK.out⟩
set_option maxHeartbeats 4000000 in
set_option maxRecDepth 100000 in
theorem back_any (B ob : Nat) (L : Lo) (o : OS) (w : World) (H : OIs w B ob L o) (hB : B ≤ w.heap.size) (B2 : Nat) (sv bv mv : Value) (m : Mc.S) (S : Mc.StRows w B2 sv bv mv m) (W : Mc.Wf m) (hp : 0 < m.mem.length) :
    Calls Tryz.prog 22 #[.pointer (some ⟨ob, 0, none⟩), .agg (Mc.sCells sv bv mv m)] w fun e w' => e = .returned (.tuple #[]) ∧ Nx w B ob L o { o with m := m } w' := by
  have hns := W.ns
  have hnb := W.nb
  have hnm := W.nm
  obtain ⟨SA, sc, rfl⟩ := S.st.slice
  obtain ⟨BA, bc, rfl⟩ := S.bk.slice
  obtain ⟨MA, mc, rfl⟩ := S.me.slice
  have k1 := (Below.refl w.heap.size w).alloc (Nat.le_refl _) (.cells (Mc.sCells (.slice SA m.stack.length sc) (.slice BA m.back.length bc) (.slice MA m.mem.length mc) m) 33)
  have HC := Lib.hid (Mc.copy_any B2 _ _ _ m _ (S.below k1 (Nat.le_refl _)) (by omega) (by omega) (by omega))
  have T1 := Turns.lone H.held (.cells (Mc.sCells (.slice SA m.stack.length sc) (.slice BA m.back.length bc) (.slice MA m.mem.length mc) m) 33)
  have H1 := Lib.hid (H.next T1 H.lok)
  have HT1 := Lib.hid T1
  have HB := Lib.hid (Nat.le_trans hB T1.size)
  have HP := Lib.hid hp
  clear hns hnb hnm k1 T1 H hB S W hp
  unfold Mc.sCells at HC H1 HT1 HB ⊢
  go_enter Tryz.func22, Tryz.ntmps22
  go_wp2_with fail
  generalize hw1 : w.alloc (.cells #[.int .i64 m.ip, .int .i64 m.handler, .slice SA m.stack.length sc, .slice BA m.back.length bc, .slice MA m.mem.length mc, .string m.out, .string m.inp, .int .i64 m.read, .int .i64 m.status, .int .i64 m.code] 33) = w1 at *
  clear hw1
  refine HC.out.mono ?_
  rintro e w2 ⟨sv1, bv1, mv1, rfl, H2, t2⟩
  obtain ⟨N, K, kb⟩ := machine_turns H1.out HB.out H2 t2 HP.out
  have HN := Lib.hid N
  have HK := Lib.hid K
  have HT := Lib.hid (blk_there kb)
  have HI := Lib.hid (sCells_info sv1 bv1 mv1 m)
  have HO := Lib.hid (rows_one H2)
  clear N K kb H2 t2 HC
  go_wp2_with (refine wpList_store_mid rfl _ _ _ rfl ob 0 (Mc.sCells sv1 bv1 mv1 m) rfl rfl HT.out HI.out HO.out ?_)
  go_wp2_with fail
  go_end0
  exact ⟨rfl, _, HT1.out.trans HN.out, HK.out⟩
theorem oHere_any (B ob : Nat) (L : Lo) (o : OS) (w : World) (H : OIs w B ob L o) :
    Calls Tryz.prog 14 #[.pointer (some ⟨ob, 0, none⟩)] w fun e w' => e = .returned (.int .i64 o.here) ∧ w = w' := by
  have c11 := here_cell H
  clear H
  go_enter Tryz.func14, Tryz.ntmps14
  go_wp2_with fail
  go_ret
  exact ⟨rfl, rfl⟩
end Go.Proofs.YtompdfpjmdnhoabGreatDoor.Ou
namespace Go.Proofs.YtompdfpjmdnhoabGreatDoor.Ou
open Go.RowKit Go.Proofs.YtompdfpjmdnhoabGreatDoor.Rs Go.Proofs.YtompdfpjmdnhoabGreatDoor.Src
set_option maxHeartbeats 2000000 in
set_option maxRecDepth 100000 in
theorem always_paren (B ob : Nat) (L : Lo) (o : OS) (w : World) (H : OIs w B ob L o) :
    Calls Tryz.prog 56 #[.pointer (some ⟨ob, 0, none⟩), .string ⟨#[40]⟩] w (Did w B ob L o (0, (untilB o 41).2)) := by
  obtain ⟨p, c13, HU⟩ := until_any B ob L o w H 41 41 rfl
  have HU := Lib.hid HU
  clear H
  go_enter Tryz.func56, Tryz.ntmps56
  go_wp2_with fail
  refine HU.out.mono ?_
  rintro e w2 ⟨b, rfl, N, _, _⟩
  have NN := Lib.hid N
  clear N
  go_wp2_with fail
  go_ret
  exact ⟨rfl, NN.out⟩
set_option maxHeartbeats 2000000 in
set_option maxRecDepth 100000 in
theorem always_back (B ob : Nat) (L : Lo) (o : OS) (w : World) (H : OIs w B ob L o) :
    Calls Tryz.prog 56 #[.pointer (some ⟨ob, 0, none⟩), .string ⟨#[92]⟩] w (Did w B ob L o (0, skipL o)) := by
  have T0 := Lib.hid (Turns.refl H.held)
  have K0 := Lib.hid H.lok
  clear H
  go_enter Tryz.func56, Tryz.ntmps56
  go_wp2_with fail
  go_loopg [5] (fuelW o + 1) (fun g v wr => ∃ (b : Bool) (oj : OS) (Lj : Lo), g = (if b = true then fuelW oj + 1 else 0) ∧ v = .bool b ∧ Hid (Turns w B (oRes ob L o) (oRes ob Lj oj) wr) ∧ Hid (Lok Lj oj) ∧ Hid (skipL oj = skipL o) ∧ Hid (b = false → oj = skipL o))
  case atStart => exact ⟨true, o, L, rfl, rfl, T0, K0, rfl, fun h => by cases h⟩
  case round =>
    obtain ⟨b, oj, Lj, hg, rfl, HT, HK, HS, HF⟩ := hrel
    have Hg := Lib.hid hg
    clear hg
    cases b with
    | false =>
      have HE := Lib.hid (HF.out rfl)
      go_wp2_with fail
      go_ret
      refine ⟨rfl, Lj, ?_⟩
      rw [← HE.out]
      exact ⟨HT.out, HK.out⟩
    | true =>
      obtain ⟨p, c13, HU⟩ := until_any B ob Lj oj wr ⟨HT.out.held, HK.out⟩ 10 10 rfl
      have HU := Lib.hid HU
      go_wp2_with fail
      refine HU.out.mono ?_
      rintro e w2 ⟨b, rfl, ⟨L2, N2, K2⟩, h1, h2⟩
      have HT2 := Lib.hid (HT.out.trans N2)
      have HK2 := Lib.hid K2
      have H1 := Lib.hid h1
      have H2 := Lib.hid h2
      clear N2 K2 h1 h2 HU c13
      go_wp2_with fail
      go_roundg (if b = true then fuelW (untilB oj 10).2 + 1 else 0)
      case rel => exact ⟨b, (untilB oj 10).2, L2, rfl, rfl, HT2, HK2, (skip_skip oj 10).trans HS.out, fun h => (H2.out h).trans HS.out⟩
      case measure =>
        rw [Hg.out, if_pos trivial]
        cases b with
        | false => rw [if_neg (by simp)]; omega
        | true => rw [if_pos rfl]; have := H1.out rfl; omega
set_option maxHeartbeats 2000000 in
set_option maxRecDepth 100000 in
theorem always_say (B ob : Nat) (L : Lo) (o : OS) (w : World) (H : OIs w B ob L o) (W : Wo o) (hB : B ≤ w.heap.size) :
    Calls Tryz.prog 56 #[.pointer (some ⟨ob, 0, none⟩), .string ⟨#[46, 34]⟩] w (Did w B ob L o (say (untilB o 34).2 (untilB o 34).1)) := by
  obtain ⟨p, c13, HU⟩ := until_any B ob L o w H 34 34 rfl
  have HU := Lib.hid HU
  have HK := Lib.hid (until_kept o 34 W)
  have HB := Lib.hid hB
  clear H W hB
  go_enter Tryz.func56, Tryz.ntmps56
  go_wp2_with fail
  refine HU.out.mono ?_
  rintro e w2 ⟨b, rfl, ⟨L2, N2, K2⟩, _, _⟩
  have HS := Lib.hid (say_any B ob L2 (untilB o 34).2 w2 ⟨N2.held, K2⟩ HK.out.1.kept.wo (Nat.le_trans HB.out N2.size) (untilB o 34).1 (Nat.le_trans HK.out.2 (by omega)))
  have HN := Lib.hid N2
  clear N2 K2 HU HK c13
  generalize untilB o 34 = r at *
  obtain ⟨t, o2⟩ := r
  go_wp2_with fail
  refine HS.out.mono ?_
  rintro e w3 ⟨rfl, N3⟩
  have NN := Lib.hid (Nx.step HN.out N3)
  clear N3
  go_wp2_with fail
  go_ret
  exact ⟨rfl, NN.out⟩
set_option maxHeartbeats 2000000 in
set_option maxRecDepth 100000 in
theorem always_base (B ob : Nat) (L : Lo) (o : OS) (w : World) (H : OIs w B ob L o) :
    Calls Tryz.prog 56 #[.pointer (some ⟨ob, 0, none⟩), .string ⟨#[72, 69, 88]⟩] w (Did w B ob L o (0, { o with base := 16 })) ∧
    Calls Tryz.prog 56 #[.pointer (some ⟨ob, 0, none⟩), .string ⟨#[68, 69, 67, 73, 77, 65, 76]⟩] w (Did w B ob L o (0, { o with base := 10 })) := by
  have c12 : w.cell? ⟨ob, 12, none⟩ = some (.int .i64 o.base) := H.cell 12
  have f12 := H.frozen 12
  have H16 := Lib.hid (o_base H 16)
  have H10 := Lib.hid (o_base H 10)
  clear H
  constructor
  · go_enter Tryz.func56, Tryz.ntmps56
    go_wp2_with fail
    go_ret
    exact ⟨rfl, H16.out⟩
  · go_enter Tryz.func56, Tryz.ntmps56
    go_wp2_with fail
    go_ret
    exact ⟨rfl, H10.out⟩
def charR (o : OS) : R := if (read o).2.1 = false then (-16, (read o).2.2) else literal (read o).2.2 (((read o).1.data.toList.getD 0 0).toNat : Int)
set_option maxHeartbeats 2000000 in
set_option maxRecDepth 100000 in
theorem always_char (B ob : Nat) (L : Lo) (o : OS) (w : World) (H : OIs w B ob L o) (W : Wo o) (hB : B ≤ w.heap.size) :
    Calls Tryz.prog 56 #[.pointer (some ⟨ob, 0, none⟩), .string ⟨#[67, 72, 65, 82]⟩] w (Did w B ob L o (charR o)) := by
  have HR := Lib.hid (read_any B ob L o w H)
  unfold ReadPost at HR
  have HK := Lib.hid (read_kept o W)
  have HB := Lib.hid hB
  have HE : Hid (charR o = if (read o).2.1 = false then (-16, (read o).2.2) else literal (read o).2.2 (((read o).1.data.toList.getD 0 0).toNat : Int)) := rfl
  clear H W hB
  generalize charR o = R at *
  generalize read o = r at *
  obtain ⟨n, b, o2⟩ := r
  go_enter Tryz.func56, Tryz.ntmps56
  go_wp2_with fail
  refine HR.out.mono ?_
  rintro e w2 ⟨rfl, L2, N2, K2, _⟩
  have HN := Lib.hid N2
  have HL := Lib.hid K2
  clear HR
  cases b with
  | false =>
    have HE := Lib.hid (HE.out.trans (if_pos rfl))
    clear N2 K2
    go_wp2_with fail
    go_ret
    rw [HE.out]
    exact ⟨rfl, L2, HN.out, HL.out⟩
  | true =>
    have HE := Lib.hid (HE.out.trans (if_neg (by simp)))
    obtain ⟨_, _, _, _, _, _, hpos⟩ := HK.out.2 rfl
    have Wk := HK.out.1.kept.wo
    have hn0 : (0 : Int) < (n.size : Int) := by omega
    have hg : (n.data.toList.getD 0 0) = n[0] := by
      have h2 : 0 < n.data.toList.length := hpos
      rw [List.getD_eq_getElem?_getD, List.getElem?_eq_getElem h2]
      rfl
    rw [hg] at HE
    have HLit := Lib.hid (literal_any B ob L2 o2 w2 ⟨N2.held, K2⟩ (Nat.le_trans HB.out N2.size) (n[0].toNat : Int) Wk.m.ns)
    have HW5 : Hid (wrap64 (n[0].toNat : Int) = (n[0].toNat : Int)) := by show wrap64 (n[0].toNat : Int) = (n[0].toNat : Int); have := n[0].toNat_lt; unfold wrap64; omega
    clear N2 K2 Wk hg
    go_wp2_with fail
    rw [HW5.out]
    refine HLit.out.mono ?_
    rintro e w3 ⟨rfl, N3⟩
    have NN := Lib.hid (Nx.step HN.out N3)
    clear N3
    go_wp2_with fail
    go_ret
    rw [HE.out]
    exact ⟨rfl, NN.out⟩
theorem always_any (B ob : Nat) (L : Lo) (o : OS) (w : World) (H : OIs w B ob L o) (W : Wo o) (hB : B ≤ w.heap.size) (u : List UInt8) (hu : ownC u = 3) :
    Calls Tryz.prog 56 #[.pointer (some ⟨ob, 0, none⟩), .string ⟨u.toArray⟩] w (Did w B ob L o (always o u)) := by
  have hm : u = oParen ∨ u = oBack ∨ u = oSay ∨ u = oChar ∨ u = oHex ∨ u = oDecimal := by
    unfold ownC at hu
    split at hu
    · omega
    split at hu
    · omega
    split at hu
    · rename_i h
      simpa [bothL] using h
    · omega
  rcases hm with rfl | rfl | rfl | rfl | rfl | rfl
  · exact always_paren B ob L o w H
  · exact always_back B ob L o w H
  · exact always_say B ob L o w H W hB
  · exact always_char B ob L o w H W hB
  · exact (always_base B ob L o w H).1
  · exact (always_base B ob L o w H).2
end Go.Proofs.YtompdfpjmdnhoabGreatDoor.Ou
