/-
  The document's book: are two lists of exits, two traces alike? (Printed by genirv.py.)
-/
import Derived.Test.YtoaidcjjjoafjaaGreatDoorIrU
import Derived.Test.YtoaidcjjjoafjaaGreatDoorIrM
set_option linter.unusedVariables false
set_option linter.unusedSimpArgs false
set_option linter.unnecessarySimpa false
set_option linter.deprecated false
namespace Go.Proofs.YtoaidcjjjoafjaaGreatDoor.Ir
open Go.RowKit

set_option maxHeartbeats 4000000 in
set_option maxRecDepth 100000 in
theorem same_exits (A A' : Option Addr) (n m c c' : Nat) (f f' : Nat → Ou) (B B' : Nat) (b : Bool) (w : World) (h : OutsAt w B A n f) (h' : OutsAt w B' A' m f') (hn : n ≤ 300000) (hm : m ≤ 300000) (hb : b = true ↔ EqO n f m f') :
    Calls Tryz.prog 42 #[.slice A n c, .slice A' m c'] w fun e w' => e = .returned (.bool b) ∧ ∃ q, w' = w.drewN q := by
  have HA := Lib.hid h
  have HA' := Lib.hid h'
  have Hb := Lib.hid hb
  clear h h' hb
  by_cases hnm : n = m
  case neg =>
    obtain rfl : b = false := bfalse Hb.out (fun k => hnm k.1)
    have e1 : ((n : Int) == (m : Int)) = false := by simp; omega
    have e2 : ¬ (n : Int) = (m : Int) := by omega
    clear HA HA' Hb
    go_enter Tryz.func42, Tryz.ntmps42
    go_wp2_with fail
    go_ret
    exact ⟨rfl, 0, rfl⟩
  subst hnm
  go_enter Tryz.func42, Tryz.ntmps42
  go_wp2_with fail
  go_loopg [5] n (fun g vj wr => ∃ j q : Nat, g = n - j ∧ vj = .int .i64 j ∧ j ≤ n ∧ Hid (∀ i, i < j → Alike (f i) (f' i)) ∧ wr = w.drewN q)
  case atStart => exact ⟨0, 0, rfl, rfl, by omega, fun i hi => by omega, rfl⟩
  case round =>
    obtain ⟨j, q, hg, rfl, hj, HJ, rfl⟩ := hrel
    have Hg := Lib.hid hg
    clear hg
    by_cases hlt : j < n
    · have hlt' : (j : Int) < (n : Int) := by omega
      obtain ⟨b1, o1, rfl, _, h1⟩ := HA.out.resolve_left (by omega)
      obtain ⟨b2, o2, rfl, _, h2⟩ := HA'.out.resolve_left (by omega)
      obtain ⟨_, _, _, _, ⟨rfl, rfl, ⟨As, cs, rfl, hs⟩, ⟨Ab, cb, rfl, hk⟩, ls, lb⟩, x0, x1, x2, x3⟩ := h1 j hlt
      obtain ⟨_, _, _, _, ⟨rfl, rfl, ⟨As', cs', rfl, hs'⟩, ⟨Ab', cb', rfl, hk'⟩, ls', lb'⟩, y0, y1, y2, y3⟩ := h2 j hlt
      clear h1 h2
      obtain ⟨bs, hbs⟩ := bool_of2 (P := EqL (f j).ns (f j).st (f' j).ns (f' j).st)
      obtain ⟨bk, hbk⟩ := bool_of2 (P := EqL (f j).nb (f j).bk (f' j).nb (f' j).bk)
      have HSI : Hid (∀ m, Calls Tryz.prog 20 #[.slice As (f j).ns cs, .slice As' (f' j).ns cs'] (w.drewN m) fun e w' => e = .returned (.bool bs) ∧ ∃ q, w' = (w.drewN m).drewN q) := fun m => same_ints As As' _ _ cs cs' _ _ B B' bs (w.drewN m) hs hs' ls ls' hbs
      have HKI : Hid (∀ m, Calls Tryz.prog 20 #[.slice Ab (f j).nb cb, .slice Ab' (f' j).nb cb'] (w.drewN m) fun e w' => e = .returned (.bool bk) ∧ ∃ q, w' = (w.drewN m).drewN q) := fun m => same_ints Ab Ab' _ _ cb cb' _ _ B B' bk (w.drewN m) hk hk' lb lb' hbk
      have HE : Hid (∀ i, i < n → b = true → Alike (f i) (f' i)) := fun i hi k => (Hb.out.1 k).2 i hi
      have Hbs := Lib.hid hbs
      have Hbk := Lib.hid hbk
      have Ej : Hid (b = true → Alike (f j) (f' j)) := HE.out j hlt
      have Hup : Hid (Alike (f j) (f' j) → ∀ i, i < j + 1 → Alike (f i) (f' i)) := fun k i hi => by
        by_cases hij : i = j
        · subst hij; exact k
        · exact HJ.out i (by omega)
      have Hal : Hid (Alike (f j) (f' j) ↔ (f j).ip = (f' j).ip ∧ (f j).steps = (f' j).steps ∧ bs = true ∧ bk = true) := by
        refine Lib.hid ?_
        rw [hbs, hbk]
        exact Iff.rfl
      clear hs hk hs' hk' ls lb ls' lb' hbs hbk HE Hbs Hbk
      generalize Alike (f j) (f' j) = PA at *
      generalize (f j).ip = ip1 at *
      generalize (f' j).ip = ip2 at *
      generalize (f j).steps = st1 at *
      generalize (f' j).steps = st2 at *
      generalize (f j).ns = n1 at *
      generalize (f' j).ns = n2 at *
      generalize (f j).nb = m1 at *
      generalize (f' j).nb = m2 at *
      obtain ⟨p0, hp0⟩ : ∃ x, x = (ip1 == ip2) := ⟨_, rfl⟩
      obtain ⟨p1, hp1⟩ : ∃ x, x = (st1 == st2) := ⟨_, rfl⟩
      have Hdec : Hid (PA ↔ p0 = true ∧ p1 = true ∧ bs = true ∧ bk = true) := by
        refine Lib.hid ?_
        rw [Hal.out, hp0, hp1, beq_iff_eq, beq_iff_eq]
      have q0 := hp0.symm
      have q1 := hp1.symm
      clear hp0 hp1 Hal
      cases p0 with
      | false =>
        obtain rfl : b = false := bfalse (b := b) (P := b = true) Iff.rfl (fun k => by have := (Hdec.out.1 (Ej.out k)).1; cases this)
        clear Hup Hdec Ej HJ
        go_upto_region 6 with fail
        go_quiet ((first | (go_at_call_of 20 (Value.slice As n1 cs); exact quiet_add (HSI.out _)) | (go_at_call_of 20 (Value.slice Ab m1 cb); exact quiet_add (HKI.out _))))
        go_wp2_with fail
        go_ret
        exact ⟨rfl, _, World.drewN_drewN _ _ _⟩
      | true =>
      cases p1 with
      | false =>
        obtain rfl : b = false := bfalse (b := b) (P := b = true) Iff.rfl (fun k => by have := (Hdec.out.1 (Ej.out k)).2.1; cases this)
        clear Hup Hdec Ej HJ
        go_upto_region 6 with fail
        go_quiet ((first | (go_at_call_of 20 (Value.slice As n1 cs); exact quiet_add (HSI.out _)) | (go_at_call_of 20 (Value.slice Ab m1 cb); exact quiet_add (HKI.out _))))
        go_wp2_with fail
        go_ret
        exact ⟨rfl, _, World.drewN_drewN _ _ _⟩
      | true =>
      cases bs with
      | false =>
        obtain rfl : b = false := bfalse (b := b) (P := b = true) Iff.rfl (fun k => by have := (Hdec.out.1 (Ej.out k)).2.2.1; cases this)
        clear Hup Hdec Ej HJ
        go_upto_region 6 with fail
        go_quiet ((first | (go_at_call_of 20 (Value.slice As n1 cs); exact quiet_add (HSI.out _)) | (go_at_call_of 20 (Value.slice Ab m1 cb); exact quiet_add (HKI.out _))))
        go_wp2_with fail
        go_ret
        exact ⟨rfl, _, World.drewN_drewN _ _ _⟩
      | true =>
      cases bk with
      | false =>
        obtain rfl : b = false := bfalse (b := b) (P := b = true) Iff.rfl (fun k => by have := (Hdec.out.1 (Ej.out k)).2.2.2; cases this)
        clear Hup Hdec Ej HJ
        go_upto_region 6 with fail
        go_quiet ((first | (go_at_call_of 20 (Value.slice As n1 cs); exact quiet_add (HSI.out _)) | (go_at_call_of 20 (Value.slice Ab m1 cb); exact quiet_add (HKI.out _))))
        go_wp2_with fail
        go_ret
        exact ⟨rfl, _, World.drewN_drewN _ _ _⟩
      | true =>
        have HN := Lib.hid (Hup.out (Hdec.out.2 ⟨by trivial, by trivial, by trivial, by trivial⟩))
        clear Hup Hdec Ej
        go_upto_region 6 with fail
        go_quiet ((first | (go_at_call_of 20 (Value.slice As n1 cs); exact quiet_add (HSI.out _)) | (go_at_call_of 20 (Value.slice Ab m1 cb); exact quiet_add (HKI.out _))))
        go_wp2_with fail
        go_roundg (n - (j + 1))
        case rel => exact ⟨j + 1, _, rfl, by go_num, by omega, HN, rfl⟩
        case measure => have := Hg.out; omega
    · obtain rfl : j = n := by omega
      obtain rfl : b = true := btrue Hb.out ⟨rfl, HJ.out⟩
      go_wp2_with fail
      go_ret
      exact ⟨rfl, q, rfl⟩

set_option maxHeartbeats 4000000 in
set_option maxRecDepth 100000 in
theorem same_trace (T U : Tr) (Ai Ao Ac Bi Bo Bc : Option Addr) (ci co cc di do_ dc : Nat) (B B' : Nat) (b : Bool) (w : World) (hB : B ≤ w.heap.size) (hB' : B' ≤ w.heap.size) (h : TrAt w B T Ai Ao Ac) (h' : TrAt w B' U Bi Bo Bc) (hb : b = true ↔ SameT T U) :
    Calls Tryz.prog 10 #[.agg (trCells T Ai ci Ao co Ac cc), .agg (trCells U Bi di Bo do_ Bc dc)] w fun e w' => e = .returned (.bool b) ∧ Below w.heap.size w w' := by
  have hbel := bel2 w (.cells (trCells T Ai ci Ao co Ac cc) 26) (.cells (trCells U Bi di Bo do_ Bc dc) 26)
  have ka : Blk (w.alloc (.cells (trCells T Ai ci Ao co Ac cc) 26)) w.heap.size 26 (trCells T Ai ci Ao co Ac cc) := Blk.new _ _ _
  have kb0 : Blk ((w.alloc (.cells (trCells T Ai ci Ao co Ac cc) 26)).alloc (.cells (trCells U Bi di Bo do_ Bc dc) 26)) (w.alloc (.cells (trCells T Ai ci Ao co Ac cc) 26)).heap.size 26 (trCells U Bi di Bo do_ Bc dc) := Blk.new _ _ _
  have ka := ka.below ((Below.refl _ _).alloc (Nat.le_refl _) (.cells (trCells U Bi di Bo do_ Bc dc) 26)) ka.lt
  have hsz : (w.alloc (.cells (trCells T Ai ci Ao co Ac cc) 26)).heap.size = w.heap.size + 1 := by simp
  rw [hsz] at kb0
  obtain ⟨b1, hb1⟩ := bool_of2 (P := EqL T.ni T.ins U.ni U.ins)
  obtain ⟨b2, hb2⟩ := bool_of2 (P := EqO T.no T.outs U.no U.outs)
  obtain ⟨b3, hb3⟩ := bool_of2 (P := EqL T.nc T.cells U.nc U.cells)
  have H1 : Hid (∀ W, Below w.heap.size w W → Calls Tryz.prog 41 #[.slice Ai T.ni ci, .slice Bi U.ni di] W fun e w' => e = .returned (.bool b1) ∧ ∃ q, w' = W.drewN q) := fun W hW => same_codes Ai Bi T.ni U.ni ci di T.ins U.ins B B' b1 W (h.ins.below (hW.mono hB)) (h'.ins.below (hW.mono hB')) h.fewI h'.fewI hb1
  have H2 : Hid (∀ W, Below w.heap.size w W → Calls Tryz.prog 42 #[.slice Ao T.no co, .slice Bo U.no do_] W fun e w' => e = .returned (.bool b2) ∧ Below W.heap.size W w') := fun W hW =>
    (fun h => h.mono fun e w' k => ⟨k.1, by obtain ⟨q, rfl⟩ := k.2; exact below_of_draw (Below.refl _ _) q⟩) <| same_exits Ao Bo T.no U.no co do_ T.outs U.outs B B' b2 W (h.outs.below (hW.mono hB)) (h'.outs.below (hW.mono hB')) h.fewO h'.fewO hb2
  have H3 : Hid (∀ W, Below w.heap.size w W → Calls Tryz.prog 20 #[.slice Ac T.nc cc, .slice Bc U.nc dc] W fun e w' => e = .returned (.bool b3) ∧ ∃ q, w' = W.drewN q) := fun W hW => same_ints Ac Bc T.nc U.nc cc dc T.cells U.cells B B' b3 W (h.cells.below (hW.mono hB)) (h'.cells.below (hW.mono hB')) h.fewC h'.fewC hb3
  have HB := Lib.hid hbel
  have Hb := Lib.hid hb
  have Hb1 := Lib.hid hb1
  have Hb2 := Lib.hid hb2
  have Hb3 := Lib.hid hb3
  have KA := Lib.hid ka
  have KB := Lib.hid kb0
  clear hbel ka kb0 hsz hb1 hb2 hb3 h h' hb hB hB'
  unfold trCells at *
  go_enter Tryz.func10, Tryz.ntmps10
  go_upto_region 1 with fail
  generalize ((w.alloc (.cells #[.int .i64 T.start, .int .i64 T.slots, .int .i64 T.backs, .int .i64 T.grow, .int .i64 T.growBack, .slice Ai T.ni ci, .slice Ao T.no co, .int .i64 T.last, .slice Ac T.nc cc] 26)).alloc (.cells #[.int .i64 U.start, .int .i64 U.slots, .int .i64 U.backs, .int .i64 U.grow, .int .i64 U.growBack, .slice Bi U.ni di, .slice Bo U.no do_, .int .i64 U.last, .slice Bc U.nc dc] 26)) = w2 at *
  have k0 : w2.cell? ⟨w.heap.size, 0, none⟩ = some (.int .i64 T.start) := KA.out.cell 0
  have k1 : w2.cell? ⟨w.heap.size, 1, none⟩ = some (.int .i64 T.slots) := KA.out.cell 1
  have k2 : w2.cell? ⟨w.heap.size, 2, none⟩ = some (.int .i64 T.backs) := KA.out.cell 2
  have k3 : w2.cell? ⟨w.heap.size, 3, none⟩ = some (.int .i64 T.grow) := KA.out.cell 3
  have k4 : w2.cell? ⟨w.heap.size, 4, none⟩ = some (.int .i64 T.growBack) := KA.out.cell 4
  have k5 : w2.cell? ⟨w.heap.size, 5, none⟩ = some (.slice Ai T.ni ci) := KA.out.cell 5
  have k6 : w2.cell? ⟨w.heap.size, 6, none⟩ = some (.slice Ao T.no co) := KA.out.cell 6
  have k7 : w2.cell? ⟨w.heap.size, 7, none⟩ = some (.int .i64 T.last) := KA.out.cell 7
  have k8 : w2.cell? ⟨w.heap.size, 8, none⟩ = some (.slice Ac T.nc cc) := KA.out.cell 8
  have l0 : w2.cell? ⟨w.heap.size + 1, 0, none⟩ = some (.int .i64 U.start) := KB.out.cell 0
  have l1 : w2.cell? ⟨w.heap.size + 1, 1, none⟩ = some (.int .i64 U.slots) := KB.out.cell 1
  have l2 : w2.cell? ⟨w.heap.size + 1, 2, none⟩ = some (.int .i64 U.backs) := KB.out.cell 2
  have l3 : w2.cell? ⟨w.heap.size + 1, 3, none⟩ = some (.int .i64 U.grow) := KB.out.cell 3
  have l4 : w2.cell? ⟨w.heap.size + 1, 4, none⟩ = some (.int .i64 U.growBack) := KB.out.cell 4
  have l5 : w2.cell? ⟨w.heap.size + 1, 5, none⟩ = some (.slice Bi U.ni di) := KB.out.cell 5
  have l6 : w2.cell? ⟨w.heap.size + 1, 6, none⟩ = some (.slice Bo U.no do_) := KB.out.cell 6
  have l7 : w2.cell? ⟨w.heap.size + 1, 7, none⟩ = some (.int .i64 U.last) := KB.out.cell 7
  have l8 : w2.cell? ⟨w.heap.size + 1, 8, none⟩ = some (.slice Bc U.nc dc) := KB.out.cell 8
  by_cases h0 : T.start = U.start
  case neg =>
    obtain rfl : b = false := bfalse Hb.out (fun h => h0 h.1)
    have e0 : (T.start == U.start) = false := by simpa using h0
    go_wp2_with fail
    go_ret
    exact ⟨rfl, HB.out⟩
  have e0 : (T.start == U.start) = true := by simpa using h0
  have Hh0 := Lib.hid h0
  clear h0
  by_cases h1 : T.slots = U.slots
  case neg =>
    obtain rfl : b = false := bfalse Hb.out (fun h => h1 h.2.1)
    have e1 : (T.slots == U.slots) = false := by simpa using h1
    go_wp2_with fail
    go_ret
    exact ⟨rfl, HB.out⟩
  have e1 : (T.slots == U.slots) = true := by simpa using h1
  have Hh1 := Lib.hid h1
  clear h1
  by_cases h2 : T.backs = U.backs
  case neg =>
    obtain rfl : b = false := bfalse Hb.out (fun h => h2 h.2.2.1)
    have e2 : (T.backs == U.backs) = false := by simpa using h2
    go_wp2_with fail
    go_ret
    exact ⟨rfl, HB.out⟩
  have e2 : (T.backs == U.backs) = true := by simpa using h2
  have Hh2 := Lib.hid h2
  clear h2
  by_cases h3 : T.grow = U.grow
  case neg =>
    obtain rfl : b = false := bfalse Hb.out (fun h => h3 h.2.2.2.1)
    have e3 : (T.grow == U.grow) = false := by simpa using h3
    go_wp2_with fail
    go_ret
    exact ⟨rfl, HB.out⟩
  have e3 : (T.grow == U.grow) = true := by simpa using h3
  have Hh3 := Lib.hid h3
  clear h3
  by_cases h4 : T.growBack = U.growBack
  case neg =>
    obtain rfl : b = false := bfalse Hb.out (fun h => h4 h.2.2.2.2.1)
    have e4 : (T.growBack == U.growBack) = false := by simpa using h4
    go_wp2_with fail
    go_ret
    exact ⟨rfl, HB.out⟩
  have e4 : (T.growBack == U.growBack) = true := by simpa using h4
  have Hh4 := Lib.hid h4
  clear h4
  by_cases h5 : T.last = U.last
  case neg =>
    obtain rfl : b = false := bfalse Hb.out (fun h => h5 h.2.2.2.2.2.1)
    have e5 : (T.last == U.last) = false := by simpa using h5
    go_wp2_with fail
    go_ret
    exact ⟨rfl, HB.out⟩
  have e5 : (T.last == U.last) = true := by simpa using h5
  have Hh5 := Lib.hid h5
  clear h5
  have HN := Lib.hid (And.intro Hh0.out (And.intro Hh1.out (And.intro Hh2.out (And.intro Hh3.out (And.intro Hh4.out Hh5.out)))))
  go_wp2_with fail
  refine (H1.out w2 HB.out).mono ?_
  rintro e w' ⟨rfl, q, rfl⟩
  have HB1 := Lib.hid (below_of_draw HB.out q)
  cases b1 with
  | false =>
    obtain rfl : b = false := bfalse Hb.out (fun h => by have := Hb1.out.2 h.2.2.2.2.2.2.1; cases this)
    go_wp2_with fail
    go_ret
    exact ⟨rfl, HB1.out⟩
  | true =>
  go_wp2_with fail
  refine (H2.out (w2.drewN q) HB1.out).mono ?_
  rintro e w3 ⟨rfl, hb3⟩
  have HB3 := Lib.hid (HB1.out.trans (hb3.mono HB1.out.size))
  have KA3 := Lib.hid ((KA.out.drewN q).below hb3 KA.out.lt)
  have KB3 := Lib.hid ((KB.out.drewN q).below hb3 KB.out.lt)
  clear hb3 k0 k1 k2 k3 k4 k5 k6 k7 k8 l0 l1 l2 l3 l4 l5 l6 l7 l8
  cases b2 with
  | false =>
    obtain rfl : b = false := bfalse Hb.out (fun h => by have := Hb2.out.2 h.2.2.2.2.2.2.2.1; cases this)
    go_wp2_with fail
    go_ret
    exact ⟨rfl, HB3.out⟩
  | true =>
  have k8 : w3.cell? ⟨w.heap.size, 8, none⟩ = some (.slice Ac T.nc cc) := KA3.out.cell 8
  have l8 : w3.cell? ⟨w.heap.size + 1, 8, none⟩ = some (.slice Bc U.nc dc) := KB3.out.cell 8
  go_wp2_with fail
  refine (H3.out w3 HB3.out).mono ?_
  rintro e w' ⟨rfl, q2, rfl⟩
  have HB4 := Lib.hid (below_of_draw HB3.out q2)
  have hbe : b = b3 := by
    refine bool_is2 Hb.out ?_
    rw [Hb3.out]
    exact ⟨fun h => ⟨HN.out.1, HN.out.2.1, HN.out.2.2.1, HN.out.2.2.2.1, HN.out.2.2.2.2.1, HN.out.2.2.2.2.2, Hb1.out.1 (by trivial), Hb2.out.1 (by trivial), h⟩, fun h => h.2.2.2.2.2.2.2.2⟩
  subst hbe
  go_wp2_with fail
  go_ret
  exact ⟨rfl, HB4.out⟩
end Go.Proofs.YtoaidcjjjoafjaaGreatDoor.Ir
