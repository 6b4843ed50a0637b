/-
  IrTells: of every trace whether it may be; of every instruction what it names, and its text; whether two traces are alike. (Printed by gentells.py.)
-/
import Derived.Test.YtoaidcjjjoafjaaGreatDoorItA
import Derived.Test.YtoaidcjjjoafjaaGreatDoorIrH
import Derived.Test.YtoaidcjjjoafjaaGreatDoorIrJ
import Derived.Test.YtoaidcjjjoafjaaGreatDoorIrW
import Derived.Test.YtoaidcjjjoafjaaGreatDoorPb
import Derived.Deep.Onto
namespace Go.Proofs.YtoaidcjjjoafjaaGreatDoor.Ir
open Go.RowKit

/-- What lies below the book, and stays. -/
structure Env (w : World) (T : Tr) (Ai Ao Ac : Option Addr) (ci co cc bm nb gi mi go mo gc mc B : Nat) (W : World) : Prop where
  kt : Blk W w.heap.size 26 (trCells T Ai ci Ao co Ac cc)
  km : Blk W bm 26 (trCells T (some ⟨gi, 0, none⟩) mi (some ⟨go, 0, none⟩) mo (some ⟨gc, 0, none⟩) mc)
  kn : Blk W nb 9 nameCells
  lent : Lent W B T gi mi go mo gc mc
  at_ : TrAt W w.heap.size T Ai Ao Ac
  bel : Below w.heap.size w W
  lt : w.heap.size < B
  lm : bm < B
  ln : nb < B
theorem Env.go {w : World} {T : Tr} {Ai Ao Ac : Option Addr} {ci co cc bm nb gi mi go mo gc mc B : Nat} {W W' : World} (h : Env w T Ai Ao Ac ci co cc bm nb gi mi go mo gc mc B W) (k : Below B W W') : Env w T Ai Ao Ac ci co cc bm nb gi mi go mo gc mc B W' :=
  ⟨h.kt.below k h.lt, h.km.below k h.lm, h.kn.below k h.ln, h.lent.below k, h.at_.below (k.mono (Nat.le_of_lt h.lt)), h.bel.trans (k.mono (Nat.le_of_lt h.lt)), h.lt, h.lm, h.ln⟩
theorem Lent.mono {w : World} {B B' : Nat} {T : Tr} {gi ci go co gc cc : Nat} (h : Lent w B T gi ci go co gc cc) (hB : B ≤ B') : Lent w B' T gi ci go co gc cc :=
  { h with at_ := h.at_.mono hB, li := by have := h.li; omega, lo := by have := h.lo; omega, lc := by have := h.lc; omega }

theorem vals_ise (l : List Int) : ∀ u ∈ l.map (Value.int .i64), BkI.IsE u := by
  intro u hu
  obtain ⟨y, _, rfl⟩ := List.mem_map.1 hu
  exact ⟨y, rfl⟩
theorem block_of {A : Option Addr} {n c k : Nat} (h : (Value.slice A n c).ownBlock = some k) : A.map (·.block) = some k := by
  cases A with
  | none => simp [Value.ownBlock] at h
  | some a => simpa [Value.ownBlock] using h
theorem own_blk {W : World} {B k n c : Nat} {A : Option Addr} {xs : List Value} (h : Bk.Own W B 3 (.slice A n c) xs) (hk : A.map (·.block) = some k) : ∃ cs, Blk W k 3 cs := by
  rcases h.2 with ⟨h0, _⟩ | ⟨g, cap, cur, hv, _, hg, _⟩
  · injection h0 with h0 _ _
    subst h0
    cases hk
  · injection hv with hA _ _
    subst hA
    injection hk with hk
    subst hk
    exact ⟨cur, hg⟩
theorem uses_two (i : Ins) : (usesL i).length ≤ 2 := by
  unfold usesL
  repeat' split
  all_goals simp
theorem book_cut2 {w : World} {B b : Nat} {F : Nat → Prop} (H : BkI.Is w B b F) : BkI.Is w B b (fun k => F k ∧ B ≤ k ∧ k < w.heap.size) := by
  obtain ⟨v, v', n, R, R', L, h⟩ := H
  exact ⟨v, v', n, R, R', L, { h with
    fb := ⟨h.fb, h.low, h.blk.lt⟩
    fv := fun k hk => ⟨h.fv k hk, h.rows.out.lt k hk⟩
    fv' := fun k hk => ⟨h.fv' k hk, h.copies.out.lt k hk⟩
    fr := fun i hi k hk => ⟨h.fr i hi k hk, (h.rows.inn i hi).lt hk⟩
    fr' := fun i hi k hk => ⟨h.fr' i hi k hk, (h.copies.inn i hi).lt hk⟩ }⟩
theorem args_small {i : Ins} (h : In4 i) : ∀ n ∈ argL i, (Dg.numB n).size ≤ 20 := by
  intro n hn
  simp [argL] at hn
  obtain ⟨h1, h2, h3, h4⟩ := h
  rcases hn with rfl | rfl | rfl | rfl
  · exact Dg.numB_size _ h1
  · exact Dg.numB_size _ h2
  · exact Dg.numB_size _ h3
  · exact Dg.numB_size _ h4
theorem args_itoa {i : Ins} (h : In4 i) {w : World} (ht : Dg.Tab w) : ∀ n ∈ argL i, ∀ W, Below w.drew.heap.size w.drew W → Calls Tryz.prog 47 #[.int .i64 n] W fun e w' => e = .returned (.string (Dg.numB n)) ∧ Below W.heap.size W w' := by
  intro n hn W hW
  have hb : Below w.heap.size w W := ⟨hW.os, hW.tape, hW.output, hW.size, hW.block⟩
  simp [argL] at hn
  obtain ⟨h1, h2, h3, h4⟩ := h
  rcases hn with rfl | rfl | rfl | rfl
  · exact Dg.itoa_any _ h1 _ (ht.below hb)
  · exact Dg.itoa_any _ h2 _ (ht.below hb)
  · exact Dg.itoa_any _ h3 _ (ht.below hb)
  · exact Dg.itoa_any _ h4 _ (ht.below hb)
theorem name_at (k : Nat) (h : k < 13) : nameCells[k]? = some (.string (nameL.getD k ⟨#[]⟩)) := by
  have hl : k < nameL.length := by show k < 13; exact h
  simp [nameCells, List.getElem?_eq_getElem hl, List.getD_eq_getElem?_getD]

set_option maxHeartbeats 16000000 in
set_option maxRecDepth 100000 in
theorem tells_any (T U : Tr) (Ai Ao Ac Bi Bo Bc : Option Addr) (ci co cc di do_ dc : Nat) (w : World) (hT : TrBig w w.heap.size T Ai Ao Ac) (hU : TrBig w w.heap.size U Bi Bo Bc) (hR : ∀ i, i < T.ni → In4 (T.ins i)) (hF : Dg.Tab w) :
    Calls Tryz.prog 3 #[.agg (trCells T Ai ci Ao co Ac cc), .agg (trCells U Bi di Bo do_ Bc dc)] w fun e w' => e = .returned (.bool true) ∧ Below w.heap.size w w' := by
  have hbel := bel2 w (.cells (trCells T Ai ci Ao co Ac cc) 26) (.cells (trCells U Bi di Bo do_ Bc dc) 26)
  have kt := (Blk.new w 26 (trCells T Ai ci Ao co Ac cc)).alloc (.cells (trCells U Bi di Bo do_ Bc dc) 26)
  have ku : Blk ((w.alloc (.cells (trCells T Ai ci Ao co Ac cc) 26)).alloc (.cells (trCells U Bi di Bo do_ Bc dc) 26)) (w.heap.size + 1) 26 (trCells U Bi di Bo do_ Bc dc) := by
    have := Blk.new (w.alloc (.cells (trCells T Ai ci Ao co Ac cc) 26)) 26 (trCells U Bi di Bo do_ Bc dc)
    simpa using this
  have HT : Hid (∀ W, Below w.heap.size w W → TrBig W w.heap.size T Ai Ao Ac) := fun W h => hT.below h
  have HU : Hid (∀ W, Below w.heap.size w W → TrBig W w.heap.size U Bi Bo Bc) := fun W h => hU.below h
  have HR := Lib.hid hR
  have HF : Hid (∀ W, Below w.heap.size w W → Dg.Tab W) := fun W h => hF.below h
  have HB1 := Lib.hid hbel
  have KT1 := Lib.hid kt
  have KU1 := Lib.hid ku
  clear hT hU hR hF hbel kt ku
  unfold trCells at *
  go_enter Tryz.func3, Tryz.ntmps3
  go_wp2_with fail
  generalize (w.alloc (.cells #[.int .i64 T.start, .int .i64 T.slots, .int .i64 T.backs, .int .i64 T.grow, .int .i64 T.growBack, .slice Ai T.ni ci, .slice Ao T.no co, .int .i64 T.last, .slice Ac T.nc cc] 26)).alloc (.cells #[.int .i64 U.start, .int .i64 U.slots, .int .i64 U.backs, .int .i64 U.grow, .int .i64 U.growBack, .slice Bi U.ni di, .slice Bo U.no do_, .int .i64 U.last, .slice Bc U.nc dc] 26) = w1 at *
  have k0 : w1.cell? ⟨w.heap.size, 0, none⟩ = some (.int .i64 T.start) := KT1.out.cell 0
  have k1 : w1.cell? ⟨w.heap.size, 1, none⟩ = some (.int .i64 T.slots) := KT1.out.cell 1
  have k2 : w1.cell? ⟨w.heap.size, 2, none⟩ = some (.int .i64 T.backs) := KT1.out.cell 2
  have k3 : w1.cell? ⟨w.heap.size, 3, none⟩ = some (.int .i64 T.grow) := KT1.out.cell 3
  have k4 : w1.cell? ⟨w.heap.size, 4, none⟩ = some (.int .i64 T.growBack) := KT1.out.cell 4
  have k5 : w1.cell? ⟨w.heap.size, 5, none⟩ = some (.slice Ai T.ni ci) := KT1.out.cell 5
  have k6 : w1.cell? ⟨w.heap.size, 6, none⟩ = some (.slice Ao T.no co) := KT1.out.cell 6
  have k7 : w1.cell? ⟨w.heap.size, 7, none⟩ = some (.int .i64 T.last) := KT1.out.cell 7
  have k8 : w1.cell? ⟨w.heap.size, 8, none⟩ = some (.slice Ac T.nc cc) := KT1.out.cell 8
  go_wp2_with fail
  refine (light_any T Ai Ao Ac ci co cc w.heap.size w1 (HT.out w1 HB1.out) HB1.out.size).mono ?_
  rintro e w2 ⟨bl, rfl, hl, hb2⟩
  have HB2 := Lib.hid (HB1.out.trans (hb2.mono HB1.out.size))
  have KT2 := Lib.hid (KT1.out.below hb2 KT1.out.lt)
  have KU2 := Lib.hid (KU1.out.below hb2 KU1.out.lt)
  clear hb2 k0 k1 k2 k3 k4 k5 k6 k7 k8 KT1 KU1 HB1
  cases bl with
  | false =>
    clear hl
    go_wp2_with fail
    refine (alive_any w2).mono ?_
    rintro e w3 ⟨rfl, hb3⟩
    go_wp2_with fail
    go_ret
    exact ⟨rfl, HB2.out.trans (hb3.mono HB2.out.size)⟩
  | true =>
  have HLt := Lib.hid (hl rfl)
  clear hl
  have k0 : w2.cell? ⟨w.heap.size + 1, 0, none⟩ = some (.int .i64 U.start) := KU2.out.cell 0
  have k1 : w2.cell? ⟨w.heap.size + 1, 1, none⟩ = some (.int .i64 U.slots) := KU2.out.cell 1
  have k2 : w2.cell? ⟨w.heap.size + 1, 2, none⟩ = some (.int .i64 U.backs) := KU2.out.cell 2
  have k3 : w2.cell? ⟨w.heap.size + 1, 3, none⟩ = some (.int .i64 U.grow) := KU2.out.cell 3
  have k4 : w2.cell? ⟨w.heap.size + 1, 4, none⟩ = some (.int .i64 U.growBack) := KU2.out.cell 4
  have k5 : w2.cell? ⟨w.heap.size + 1, 5, none⟩ = some (.slice Bi U.ni di) := KU2.out.cell 5
  have k6 : w2.cell? ⟨w.heap.size + 1, 6, none⟩ = some (.slice Bo U.no do_) := KU2.out.cell 6
  have k7 : w2.cell? ⟨w.heap.size + 1, 7, none⟩ = some (.int .i64 U.last) := KU2.out.cell 7
  have k8 : w2.cell? ⟨w.heap.size + 1, 8, none⟩ = some (.slice Bc U.nc dc) := KU2.out.cell 8
  go_wp2_with fail
  refine (light_any U Bi Bo Bc di do_ dc w.heap.size w2 (HU.out w2 HB2.out) HB2.out.size).mono ?_
  rintro e w3 ⟨bl, rfl, hl, hb3⟩
  have HB3 := Lib.hid (HB2.out.trans (hb3.mono HB2.out.size))
  have KT3 := Lib.hid (KT2.out.below hb3 KT2.out.lt)
  have KU3 := Lib.hid (KU2.out.below hb3 KU2.out.lt)
  clear hb3 k0 k1 k2 k3 k4 k5 k6 k7 k8 KT2 KU2 HB2
  cases bl with
  | false =>
    clear hl
    go_wp2_with fail
    refine (alive_any w3).mono ?_
    rintro e w4 ⟨rfl, hb4⟩
    go_wp2_with fail
    go_ret
    exact ⟨rfl, HB3.out.trans (hb4.mono HB3.out.size)⟩
  | true =>
  have HLu := Lib.hid (hl rfl)
  clear hl
  go_wp2_with fail
  refine (alive_any w3).mono ?_
  rintro e w4 ⟨rfl, hb4⟩
  have HB4 := Lib.hid (HB3.out.trans (hb4.mono HB3.out.size))
  have KT4 := Lib.hid (KT3.out.below hb4 KT3.out.lt)
  have KU4 := Lib.hid (KU3.out.below hb4 KU3.out.lt)
  clear hb4 KT3 KU3 HB3
  have k0 : w4.cell? ⟨w.heap.size, 0, none⟩ = some (.int .i64 T.start) := KT4.out.cell 0
  have k1 : w4.cell? ⟨w.heap.size, 1, none⟩ = some (.int .i64 T.slots) := KT4.out.cell 1
  have k2 : w4.cell? ⟨w.heap.size, 2, none⟩ = some (.int .i64 T.backs) := KT4.out.cell 2
  have k3 : w4.cell? ⟨w.heap.size, 3, none⟩ = some (.int .i64 T.grow) := KT4.out.cell 3
  have k4 : w4.cell? ⟨w.heap.size, 4, none⟩ = some (.int .i64 T.growBack) := KT4.out.cell 4
  have k5 : w4.cell? ⟨w.heap.size, 5, none⟩ = some (.slice Ai T.ni ci) := KT4.out.cell 5
  have k6 : w4.cell? ⟨w.heap.size, 6, none⟩ = some (.slice Ao T.no co) := KT4.out.cell 6
  have k7 : w4.cell? ⟨w.heap.size, 7, none⟩ = some (.int .i64 T.last) := KT4.out.cell 7
  have k8 : w4.cell? ⟨w.heap.size, 8, none⟩ = some (.slice Ac T.nc cc) := KT4.out.cell 8
  go_wp2_with fail
  refine (lent_trace T Ai Ao Ac ci co cc w4 (((HT.out w4 HB4.out).light HLt.out).mono HB4.out.size) HLt.out).mono ?_
  rintro e w5 ⟨gi, mi, go, mo, gc, mc, rfl, hlent, hb5⟩
  have HB5 := Lib.hid (HB4.out.trans (hb5.mono HB4.out.size))
  have KT5 := Lib.hid (KT4.out.below hb5 KT4.out.lt)
  have KU5 := Lib.hid (KU4.out.below hb5 KU4.out.lt)
  have HM5 := Lib.hid hlent
  clear hb5 hlent k0 k1 k2 k3 k4 k5 k6 k7 k8 KT4 KU4 HB4
  unfold trCells
  go_upto_region 4 with fail
  have hk : Blk (w5.alloc (.cells #[.int .i64 T.start, .int .i64 T.slots, .int .i64 T.backs, .int .i64 T.grow, .int .i64 T.growBack, .slice (some ⟨gi, 0, none⟩) T.ni mi, .slice (some ⟨go, 0, none⟩) T.no mo, .int .i64 T.last, .slice (some ⟨gc, 0, none⟩) T.nc mc] 26)) w5.heap.size 26 #[.int .i64 T.start, .int .i64 T.slots, .int .i64 T.backs, .int .i64 T.grow, .int .i64 T.growBack, .slice (some ⟨gi, 0, none⟩) T.ni mi, .slice (some ⟨go, 0, none⟩) T.no mo, .int .i64 T.last, .slice (some ⟨gc, 0, none⟩) T.nc mc] := Blk.new _ _ _
  have hx : Below w5.heap.size w5 (w5.alloc (.cells #[.int .i64 T.start, .int .i64 T.slots, .int .i64 T.backs, .int .i64 T.grow, .int .i64 T.growBack, .slice (some ⟨gi, 0, none⟩) T.ni mi, .slice (some ⟨go, 0, none⟩) T.no mo, .int .i64 T.last, .slice (some ⟨gc, 0, none⟩) T.nc mc] 26)) := (Below.refl _ _).alloc (Nat.le_refl _) _
  have HB6 := Lib.hid (HB5.out.trans (hx.mono HB5.out.size))
  have KT6 := Lib.hid (KT5.out.below hx KT5.out.lt)
  have KU6 := Lib.hid (KU5.out.below hx KU5.out.lt)
  have KM6 := Lib.hid hk
  have HM6 := Lib.hid ((HM5.out.below hx).mono hx.size)
  clear hk hx KT5 KU5 HB5 HM5
  generalize w5.alloc (.cells #[.int .i64 T.start, .int .i64 T.slots, .int .i64 T.backs, .int .i64 T.grow, .int .i64 T.growBack, .slice (some ⟨gi, 0, none⟩) T.ni mi, .slice (some ⟨go, 0, none⟩) T.no mo, .int .i64 T.last, .slice (some ⟨gc, 0, none⟩) T.nc mc] 26) = w6 at *
  generalize w5.heap.size = bm at *
  obtain ⟨br, hbr⟩ := bool_of (P := Right T)
  obtain ⟨bs, hbs⟩ := bool_of (P := SameT T U)
  have HBr := Lib.hid hbr
  have HBs := Lib.hid hbs
  clear hbr hbs
  have HS6 : (fun W : World => W.cell? ⟨w.heap.size, 0, none⟩ = some (.int .i64 T.start) ∧ W.cell? ⟨w.heap.size, 1, none⟩ = some (.int .i64 T.slots) ∧ W.cell? ⟨w.heap.size, 2, none⟩ = some (.int .i64 T.backs) ∧ W.cell? ⟨w.heap.size, 3, none⟩ = some (.int .i64 T.grow) ∧ W.cell? ⟨w.heap.size, 4, none⟩ = some (.int .i64 T.growBack) ∧ W.cell? ⟨w.heap.size, 5, none⟩ = some (.slice Ai T.ni ci) ∧ W.cell? ⟨w.heap.size, 6, none⟩ = some (.slice Ao T.no co) ∧ W.cell? ⟨w.heap.size, 7, none⟩ = some (.int .i64 T.last) ∧ W.cell? ⟨w.heap.size, 8, none⟩ = some (.slice Ac T.nc cc) ∧ W.cell? ⟨w.heap.size + 1, 0, none⟩ = some (.int .i64 U.start) ∧ W.cell? ⟨w.heap.size + 1, 1, none⟩ = some (.int .i64 U.slots) ∧ W.cell? ⟨w.heap.size + 1, 2, none⟩ = some (.int .i64 U.backs) ∧ W.cell? ⟨w.heap.size + 1, 3, none⟩ = some (.int .i64 U.grow) ∧ W.cell? ⟨w.heap.size + 1, 4, none⟩ = some (.int .i64 U.growBack) ∧ W.cell? ⟨w.heap.size + 1, 5, none⟩ = some (.slice Bi U.ni di) ∧ W.cell? ⟨w.heap.size + 1, 6, none⟩ = some (.slice Bo U.no do_) ∧ W.cell? ⟨w.heap.size + 1, 7, none⟩ = some (.int .i64 U.last) ∧ W.cell? ⟨w.heap.size + 1, 8, none⟩ = some (.slice Bc U.nc dc) ∧ W.cell? ⟨bm, 0, none⟩ = some (.int .i64 T.start) ∧ W.cell? ⟨bm, 1, none⟩ = some (.int .i64 T.slots) ∧ W.cell? ⟨bm, 2, none⟩ = some (.int .i64 T.backs) ∧ W.cell? ⟨bm, 3, none⟩ = some (.int .i64 T.grow) ∧ W.cell? ⟨bm, 4, none⟩ = some (.int .i64 T.growBack) ∧ W.cell? ⟨bm, 5, none⟩ = some (.slice (some ⟨gi, 0, none⟩) T.ni mi) ∧ W.cell? ⟨bm, 6, none⟩ = some (.slice (some ⟨go, 0, none⟩) T.no mo) ∧ W.cell? ⟨bm, 7, none⟩ = some (.int .i64 T.last) ∧ W.cell? ⟨bm, 8, none⟩ = some (.slice (some ⟨gc, 0, none⟩) T.nc mc)) w6.drew := ⟨KT6.out.cell 0, KT6.out.cell 1, KT6.out.cell 2, KT6.out.cell 3, KT6.out.cell 4, KT6.out.cell 5, KT6.out.cell 6, KT6.out.cell 7, KT6.out.cell 8, KU6.out.cell 0, KU6.out.cell 1, KU6.out.cell 2, KU6.out.cell 3, KU6.out.cell 4, KU6.out.cell 5, KU6.out.cell 6, KU6.out.cell 7, KU6.out.cell 8, KM6.out.cell 0, KM6.out.cell 1, KM6.out.cell 2, KM6.out.cell 3, KM6.out.cell 4, KM6.out.cell 5, KM6.out.cell 6, KM6.out.cell 7, KM6.out.cell 8⟩
  refine Pb.wp_region_U ((fun _ => true)) (fun W : World => W.cell? ⟨w.heap.size, 0, none⟩ = some (.int .i64 T.start) ∧ W.cell? ⟨w.heap.size, 1, none⟩ = some (.int .i64 T.slots) ∧ W.cell? ⟨w.heap.size, 2, none⟩ = some (.int .i64 T.backs) ∧ W.cell? ⟨w.heap.size, 3, none⟩ = some (.int .i64 T.grow) ∧ W.cell? ⟨w.heap.size, 4, none⟩ = some (.int .i64 T.growBack) ∧ W.cell? ⟨w.heap.size, 5, none⟩ = some (.slice Ai T.ni ci) ∧ W.cell? ⟨w.heap.size, 6, none⟩ = some (.slice Ao T.no co) ∧ W.cell? ⟨w.heap.size, 7, none⟩ = some (.int .i64 T.last) ∧ W.cell? ⟨w.heap.size, 8, none⟩ = some (.slice Ac T.nc cc) ∧ W.cell? ⟨w.heap.size + 1, 0, none⟩ = some (.int .i64 U.start) ∧ W.cell? ⟨w.heap.size + 1, 1, none⟩ = some (.int .i64 U.slots) ∧ W.cell? ⟨w.heap.size + 1, 2, none⟩ = some (.int .i64 U.backs) ∧ W.cell? ⟨w.heap.size + 1, 3, none⟩ = some (.int .i64 U.grow) ∧ W.cell? ⟨w.heap.size + 1, 4, none⟩ = some (.int .i64 U.growBack) ∧ W.cell? ⟨w.heap.size + 1, 5, none⟩ = some (.slice Bi U.ni di) ∧ W.cell? ⟨w.heap.size + 1, 6, none⟩ = some (.slice Bo U.no do_) ∧ W.cell? ⟨w.heap.size + 1, 7, none⟩ = some (.int .i64 U.last) ∧ W.cell? ⟨w.heap.size + 1, 8, none⟩ = some (.slice Bc U.nc dc) ∧ W.cell? ⟨bm, 0, none⟩ = some (.int .i64 T.start) ∧ W.cell? ⟨bm, 1, none⟩ = some (.int .i64 T.slots) ∧ W.cell? ⟨bm, 2, none⟩ = some (.int .i64 T.backs) ∧ W.cell? ⟨bm, 3, none⟩ = some (.int .i64 T.grow) ∧ W.cell? ⟨bm, 4, none⟩ = some (.int .i64 T.growBack) ∧ W.cell? ⟨bm, 5, none⟩ = some (.slice (some ⟨gi, 0, none⟩) T.ni mi) ∧ W.cell? ⟨bm, 6, none⟩ = some (.slice (some ⟨go, 0, none⟩) T.no mo) ∧ W.cell? ⟨bm, 7, none⟩ = some (.int .i64 T.last) ∧ W.cell? ⟨bm, 8, none⟩ = some (.slice (some ⟨gc, 0, none⟩) T.nc mc)) (by kernel_rfl) ?_
  change Pb.wpU _ _ _ _ _ _ 20 #[false, false, false, false, false, false, false, false, false, false, false, false, false, false, false, false, false, false, false, false] _ _
  refine Pb.U_take (i := 0) (oi := { dst := some 28, op := .load 26 (.tmp 5), type := 26, pos := "law.go:34", after := #[], guard := none }) (v := .agg #[.int .i64 T.start, .int .i64 T.slots, .int .i64 T.backs, .int .i64 T.grow, .int .i64 T.growBack, .slice (some ⟨gi, 0, none⟩) T.ni mi, .slice (some ⟨go, 0, none⟩) T.no mo, .int .i64 T.last, .slice (some ⟨gc, 0, none⟩) T.nc mc]) rfl (by kernel_rfl) (by kernel_rfl) (by kernel_rfl) (by kernel_rfl) (fun _ _ _ h => h) (Or.inl ⟨by rfl, ?_⟩) (by assumption) ?_
  · intro W hSw; (try dsimp only at hSw); go_simp
  simp only [Act.put, List.setIfInBounds_toArray, List.set_cons_zero, List.set_cons_succ]
  refine Pb.U_take (i := 2) (oi := { dst := some 30, op := .load 26 (.tmp 2), type := 26, pos := "law.go:34", after := #[], guard := none }) (v := .agg #[.int .i64 T.start, .int .i64 T.slots, .int .i64 T.backs, .int .i64 T.grow, .int .i64 T.growBack, .slice Ai T.ni ci, .slice Ao T.no co, .int .i64 T.last, .slice Ac T.nc cc]) rfl (by kernel_rfl) (by kernel_rfl) (by kernel_rfl) (by kernel_rfl) (fun _ _ _ h => h) (Or.inl ⟨by rfl, ?_⟩) (by assumption) ?_
  · intro W hSw; (try dsimp only at hSw); go_simp
  simp only [Act.put, List.setIfInBounds_toArray, List.set_cons_zero, List.set_cons_succ]
  refine Pb.U_ready (rs := [1]) (by kernel_rfl) (by simp) ?_
  refine Pb.AllReadyU.cons rfl (fun K hK => ?_) Pb.AllReadyU.nil
  go_simp
  refine (right_any T (some ⟨gi, 0, none⟩) (some ⟨go, 0, none⟩) (some ⟨gc, 0, none⟩) mi mo mc w6.heap.size br w6.drew (by have h := HM6.out.at_; exact ⟨h.ins, h.outs, h.cells, h.fewI, h.fewO, h.fewC⟩) (Nat.le_refl _) HBr.out).mono ?_
  rintro e w7 ⟨rfl, hb⟩
  have hb' : Below w6.heap.size w6 w7 := ⟨hb.os, hb.tape, hb.output, hb.size, hb.block⟩
  have HB7 := Lib.hid (HB6.out.trans (hb'.mono HB6.out.size))
  have KT7 := Lib.hid (KT6.out.below hb' KT6.out.lt)
  have KU7 := Lib.hid (KU6.out.below hb' KU6.out.lt)
  have KM7 := Lib.hid (KM6.out.below hb' KM6.out.lt)
  have HM7 := Lib.hid ((HM6.out.below hb').mono hb'.size)
  have HS7 : (fun W : World => W.cell? ⟨w.heap.size, 0, none⟩ = some (.int .i64 T.start) ∧ W.cell? ⟨w.heap.size, 1, none⟩ = some (.int .i64 T.slots) ∧ W.cell? ⟨w.heap.size, 2, none⟩ = some (.int .i64 T.backs) ∧ W.cell? ⟨w.heap.size, 3, none⟩ = some (.int .i64 T.grow) ∧ W.cell? ⟨w.heap.size, 4, none⟩ = some (.int .i64 T.growBack) ∧ W.cell? ⟨w.heap.size, 5, none⟩ = some (.slice Ai T.ni ci) ∧ W.cell? ⟨w.heap.size, 6, none⟩ = some (.slice Ao T.no co) ∧ W.cell? ⟨w.heap.size, 7, none⟩ = some (.int .i64 T.last) ∧ W.cell? ⟨w.heap.size, 8, none⟩ = some (.slice Ac T.nc cc) ∧ W.cell? ⟨w.heap.size + 1, 0, none⟩ = some (.int .i64 U.start) ∧ W.cell? ⟨w.heap.size + 1, 1, none⟩ = some (.int .i64 U.slots) ∧ W.cell? ⟨w.heap.size + 1, 2, none⟩ = some (.int .i64 U.backs) ∧ W.cell? ⟨w.heap.size + 1, 3, none⟩ = some (.int .i64 U.grow) ∧ W.cell? ⟨w.heap.size + 1, 4, none⟩ = some (.int .i64 U.growBack) ∧ W.cell? ⟨w.heap.size + 1, 5, none⟩ = some (.slice Bi U.ni di) ∧ W.cell? ⟨w.heap.size + 1, 6, none⟩ = some (.slice Bo U.no do_) ∧ W.cell? ⟨w.heap.size + 1, 7, none⟩ = some (.int .i64 U.last) ∧ W.cell? ⟨w.heap.size + 1, 8, none⟩ = some (.slice Bc U.nc dc) ∧ W.cell? ⟨bm, 0, none⟩ = some (.int .i64 T.start) ∧ W.cell? ⟨bm, 1, none⟩ = some (.int .i64 T.slots) ∧ W.cell? ⟨bm, 2, none⟩ = some (.int .i64 T.backs) ∧ W.cell? ⟨bm, 3, none⟩ = some (.int .i64 T.grow) ∧ W.cell? ⟨bm, 4, none⟩ = some (.int .i64 T.growBack) ∧ W.cell? ⟨bm, 5, none⟩ = some (.slice (some ⟨gi, 0, none⟩) T.ni mi) ∧ W.cell? ⟨bm, 6, none⟩ = some (.slice (some ⟨go, 0, none⟩) T.no mo) ∧ W.cell? ⟨bm, 7, none⟩ = some (.int .i64 T.last) ∧ W.cell? ⟨bm, 8, none⟩ = some (.slice (some ⟨gc, 0, none⟩) T.nc mc)) w7 := ⟨KT7.out.cell 0, KT7.out.cell 1, KT7.out.cell 2, KT7.out.cell 3, KT7.out.cell 4, KT7.out.cell 5, KT7.out.cell 6, KT7.out.cell 7, KT7.out.cell 8, KU7.out.cell 0, KU7.out.cell 1, KU7.out.cell 2, KU7.out.cell 3, KU7.out.cell 4, KU7.out.cell 5, KU7.out.cell 6, KU7.out.cell 7, KU7.out.cell 8, KM7.out.cell 0, KM7.out.cell 1, KM7.out.cell 2, KM7.out.cell 3, KM7.out.cell 4, KM7.out.cell 5, KM7.out.cell 6, KM7.out.cell 7, KM7.out.cell 8⟩
  clear hb hb' HS6 KT6 KU6 KM6 HM6 HB6
  refine hK.out _ _ (fun _ => HS7) ?_
  clear hK K
  simp only [Act.put, List.setIfInBounds_toArray, List.set_cons_zero, List.set_cons_succ]
  refine Pb.U_ready (rs := [3]) (by kernel_rfl) (by simp) ?_
  refine Pb.AllReadyU.cons rfl (fun K hK => ?_) Pb.AllReadyU.nil
  go_simp
  refine (rright_any T Ai Ao Ac ci co cc w.heap.size br w7 ((HT.out w7 HB7.out).light HLt.out) HB7.out.size HBr.out).mono ?_
  rintro e w8 ⟨rfl, hb⟩
  have hb' : Below w7.heap.size w7 w8 := ⟨hb.os, hb.tape, hb.output, hb.size, hb.block⟩
  have HB8 := Lib.hid (HB7.out.trans (hb'.mono HB7.out.size))
  have KT8 := Lib.hid (KT7.out.below hb' KT7.out.lt)
  have KU8 := Lib.hid (KU7.out.below hb' KU7.out.lt)
  have KM8 := Lib.hid (KM7.out.below hb' KM7.out.lt)
  have HM8 := Lib.hid ((HM7.out.below hb').mono hb'.size)
  have HS8 : (fun W : World => W.cell? ⟨w.heap.size, 0, none⟩ = some (.int .i64 T.start) ∧ W.cell? ⟨w.heap.size, 1, none⟩ = some (.int .i64 T.slots) ∧ W.cell? ⟨w.heap.size, 2, none⟩ = some (.int .i64 T.backs) ∧ W.cell? ⟨w.heap.size, 3, none⟩ = some (.int .i64 T.grow) ∧ W.cell? ⟨w.heap.size, 4, none⟩ = some (.int .i64 T.growBack) ∧ W.cell? ⟨w.heap.size, 5, none⟩ = some (.slice Ai T.ni ci) ∧ W.cell? ⟨w.heap.size, 6, none⟩ = some (.slice Ao T.no co) ∧ W.cell? ⟨w.heap.size, 7, none⟩ = some (.int .i64 T.last) ∧ W.cell? ⟨w.heap.size, 8, none⟩ = some (.slice Ac T.nc cc) ∧ W.cell? ⟨w.heap.size + 1, 0, none⟩ = some (.int .i64 U.start) ∧ W.cell? ⟨w.heap.size + 1, 1, none⟩ = some (.int .i64 U.slots) ∧ W.cell? ⟨w.heap.size + 1, 2, none⟩ = some (.int .i64 U.backs) ∧ W.cell? ⟨w.heap.size + 1, 3, none⟩ = some (.int .i64 U.grow) ∧ W.cell? ⟨w.heap.size + 1, 4, none⟩ = some (.int .i64 U.growBack) ∧ W.cell? ⟨w.heap.size + 1, 5, none⟩ = some (.slice Bi U.ni di) ∧ W.cell? ⟨w.heap.size + 1, 6, none⟩ = some (.slice Bo U.no do_) ∧ W.cell? ⟨w.heap.size + 1, 7, none⟩ = some (.int .i64 U.last) ∧ W.cell? ⟨w.heap.size + 1, 8, none⟩ = some (.slice Bc U.nc dc) ∧ W.cell? ⟨bm, 0, none⟩ = some (.int .i64 T.start) ∧ W.cell? ⟨bm, 1, none⟩ = some (.int .i64 T.slots) ∧ W.cell? ⟨bm, 2, none⟩ = some (.int .i64 T.backs) ∧ W.cell? ⟨bm, 3, none⟩ = some (.int .i64 T.grow) ∧ W.cell? ⟨bm, 4, none⟩ = some (.int .i64 T.growBack) ∧ W.cell? ⟨bm, 5, none⟩ = some (.slice (some ⟨gi, 0, none⟩) T.ni mi) ∧ W.cell? ⟨bm, 6, none⟩ = some (.slice (some ⟨go, 0, none⟩) T.no mo) ∧ W.cell? ⟨bm, 7, none⟩ = some (.int .i64 T.last) ∧ W.cell? ⟨bm, 8, none⟩ = some (.slice (some ⟨gc, 0, none⟩) T.nc mc)) w8 := ⟨KT8.out.cell 0, KT8.out.cell 1, KT8.out.cell 2, KT8.out.cell 3, KT8.out.cell 4, KT8.out.cell 5, KT8.out.cell 6, KT8.out.cell 7, KT8.out.cell 8, KU8.out.cell 0, KU8.out.cell 1, KU8.out.cell 2, KU8.out.cell 3, KU8.out.cell 4, KU8.out.cell 5, KU8.out.cell 6, KU8.out.cell 7, KU8.out.cell 8, KM8.out.cell 0, KM8.out.cell 1, KM8.out.cell 2, KM8.out.cell 3, KM8.out.cell 4, KM8.out.cell 5, KM8.out.cell 6, KM8.out.cell 7, KM8.out.cell 8⟩
  clear hb hb' HS7 KT7 KU7 KM7 HM7 HB7
  refine hK.out _ _ (fun _ => HS8) ?_
  clear hK K
  simp only [Act.put, List.setIfInBounds_toArray, List.set_cons_zero, List.set_cons_succ]
  refine Pb.U_take (i := 4) (oi := { dst := some 32, op := .binOp BinOp.neq 4 (.tmp 29) (.tmp 31) 4, type := 4, pos := "law.go:34", after := #[{ on := 1, ground := .data }, { on := 3, ground := .data }], guard := none }) (v := .bool false) rfl (by kernel_rfl) (by kernel_rfl) (by kernel_rfl) (by kernel_rfl) (fun _ _ _ h => h) (Or.inl ⟨by rfl, ?_⟩) (by assumption) ?_
  · intro W hSw; (try dsimp only at hSw); go_simp
  simp only [Act.put, List.setIfInBounds_toArray, List.set_cons_zero, List.set_cons_succ]
  refine Pb.U_take (i := 5) (oi := { dst := some 33, op := .move (.tmp 32), type := 4, pos := "law.go:34", after := #[{ on := 4, ground := .data }, { on := 3, ground := .chain }], guard := none }) (v := .bool false) rfl (by kernel_rfl) (by kernel_rfl) (by kernel_rfl) (by kernel_rfl) (fun _ _ _ h => h) (Or.inl ⟨by rfl, ?_⟩) (by assumption) ?_
  · intro W hSw; (try dsimp only at hSw); go_simp
  simp only [Act.put, List.setIfInBounds_toArray, List.set_cons_zero, List.set_cons_succ]
  refine Pb.U_take (i := 6) (oi := { dst := some 34, op := .load 26 (.tmp 5), type := 26, pos := "law.go:34", after := #[{ on := 5, ground := .guard }], guard := some (5, false) }) (v := .agg #[.int .i64 T.start, .int .i64 T.slots, .int .i64 T.backs, .int .i64 T.grow, .int .i64 T.growBack, .slice (some ⟨gi, 0, none⟩) T.ni mi, .slice (some ⟨go, 0, none⟩) T.no mo, .int .i64 T.last, .slice (some ⟨gc, 0, none⟩) T.nc mc]) rfl (by kernel_rfl) (by kernel_rfl) (by kernel_rfl) (by kernel_rfl) (fun _ _ _ h => h) (Or.inl ⟨by rfl, ?_⟩) (by assumption) ?_
  · intro W hSw; (try dsimp only at hSw); go_simp
  simp only [Act.put, List.setIfInBounds_toArray, List.set_cons_zero, List.set_cons_succ]
  refine Pb.U_take (i := 7) (oi := { dst := some 35, op := .load 26 (.tmp 3), type := 26, pos := "law.go:34", after := #[{ on := 5, ground := .guard }], guard := some (5, false) }) (v := .agg #[.int .i64 U.start, .int .i64 U.slots, .int .i64 U.backs, .int .i64 U.grow, .int .i64 U.growBack, .slice Bi U.ni di, .slice Bo U.no do_, .int .i64 U.last, .slice Bc U.nc dc]) rfl (by kernel_rfl) (by kernel_rfl) (by kernel_rfl) (by kernel_rfl) (fun _ _ _ h => h) (Or.inl ⟨by rfl, ?_⟩) (by assumption) ?_
  · intro W hSw; (try dsimp only at hSw); go_simp
  simp only [Act.put, List.setIfInBounds_toArray, List.set_cons_zero, List.set_cons_succ]
  refine Pb.U_take (i := 9) (oi := { dst := some 37, op := .load 26 (.tmp 2), type := 26, pos := "law.go:34", after := #[{ on := 5, ground := .guard }], guard := some (5, false) }) (v := .agg #[.int .i64 T.start, .int .i64 T.slots, .int .i64 T.backs, .int .i64 T.grow, .int .i64 T.growBack, .slice Ai T.ni ci, .slice Ao T.no co, .int .i64 T.last, .slice Ac T.nc cc]) rfl (by kernel_rfl) (by kernel_rfl) (by kernel_rfl) (by kernel_rfl) (fun _ _ _ h => h) (Or.inl ⟨by rfl, ?_⟩) (by assumption) ?_
  · intro W hSw; (try dsimp only at hSw); go_simp
  simp only [Act.put, List.setIfInBounds_toArray, List.set_cons_zero, List.set_cons_succ]
  refine Pb.U_take (i := 10) (oi := { dst := some 38, op := .load 26 (.tmp 3), type := 26, pos := "law.go:34", after := #[{ on := 5, ground := .guard }], guard := some (5, false) }) (v := .agg #[.int .i64 U.start, .int .i64 U.slots, .int .i64 U.backs, .int .i64 U.grow, .int .i64 U.growBack, .slice Bi U.ni di, .slice Bo U.no do_, .int .i64 U.last, .slice Bc U.nc dc]) rfl (by kernel_rfl) (by kernel_rfl) (by kernel_rfl) (by kernel_rfl) (fun _ _ _ h => h) (Or.inl ⟨by rfl, ?_⟩) (by assumption) ?_
  · intro W hSw; (try dsimp only at hSw); go_simp
  simp only [Act.put, List.setIfInBounds_toArray, List.set_cons_zero, List.set_cons_succ]
  refine Pb.U_ready (rs := [8]) (by kernel_rfl) (by simp) ?_
  refine Pb.AllReadyU.cons rfl (fun K hK => ?_) Pb.AllReadyU.nil
  go_simp
  refine (same_any T U (some ⟨gi, 0, none⟩) (some ⟨go, 0, none⟩) (some ⟨gc, 0, none⟩) Bi Bo Bc mi mo mc di do_ dc w8.heap.size w.heap.size bs w8 (Nat.le_refl _) HB8.out.size HM8.out.at_ ((HU.out w8 HB8.out).light HLu.out) HBs.out).mono ?_
  rintro e w9 ⟨rfl, hb⟩
  have hb' : Below w8.heap.size w8 w9 := ⟨hb.os, hb.tape, hb.output, hb.size, hb.block⟩
  have HB9 := Lib.hid (HB8.out.trans (hb'.mono HB8.out.size))
  have KT9 := Lib.hid (KT8.out.below hb' KT8.out.lt)
  have KU9 := Lib.hid (KU8.out.below hb' KU8.out.lt)
  have KM9 := Lib.hid (KM8.out.below hb' KM8.out.lt)
  have HM9 := Lib.hid ((HM8.out.below hb').mono hb'.size)
  have HS9 : (fun W : World => W.cell? ⟨w.heap.size, 0, none⟩ = some (.int .i64 T.start) ∧ W.cell? ⟨w.heap.size, 1, none⟩ = some (.int .i64 T.slots) ∧ W.cell? ⟨w.heap.size, 2, none⟩ = some (.int .i64 T.backs) ∧ W.cell? ⟨w.heap.size, 3, none⟩ = some (.int .i64 T.grow) ∧ W.cell? ⟨w.heap.size, 4, none⟩ = some (.int .i64 T.growBack) ∧ W.cell? ⟨w.heap.size, 5, none⟩ = some (.slice Ai T.ni ci) ∧ W.cell? ⟨w.heap.size, 6, none⟩ = some (.slice Ao T.no co) ∧ W.cell? ⟨w.heap.size, 7, none⟩ = some (.int .i64 T.last) ∧ W.cell? ⟨w.heap.size, 8, none⟩ = some (.slice Ac T.nc cc) ∧ W.cell? ⟨w.heap.size + 1, 0, none⟩ = some (.int .i64 U.start) ∧ W.cell? ⟨w.heap.size + 1, 1, none⟩ = some (.int .i64 U.slots) ∧ W.cell? ⟨w.heap.size + 1, 2, none⟩ = some (.int .i64 U.backs) ∧ W.cell? ⟨w.heap.size + 1, 3, none⟩ = some (.int .i64 U.grow) ∧ W.cell? ⟨w.heap.size + 1, 4, none⟩ = some (.int .i64 U.growBack) ∧ W.cell? ⟨w.heap.size + 1, 5, none⟩ = some (.slice Bi U.ni di) ∧ W.cell? ⟨w.heap.size + 1, 6, none⟩ = some (.slice Bo U.no do_) ∧ W.cell? ⟨w.heap.size + 1, 7, none⟩ = some (.int .i64 U.last) ∧ W.cell? ⟨w.heap.size + 1, 8, none⟩ = some (.slice Bc U.nc dc) ∧ W.cell? ⟨bm, 0, none⟩ = some (.int .i64 T.start) ∧ W.cell? ⟨bm, 1, none⟩ = some (.int .i64 T.slots) ∧ W.cell? ⟨bm, 2, none⟩ = some (.int .i64 T.backs) ∧ W.cell? ⟨bm, 3, none⟩ = some (.int .i64 T.grow) ∧ W.cell? ⟨bm, 4, none⟩ = some (.int .i64 T.growBack) ∧ W.cell? ⟨bm, 5, none⟩ = some (.slice (some ⟨gi, 0, none⟩) T.ni mi) ∧ W.cell? ⟨bm, 6, none⟩ = some (.slice (some ⟨go, 0, none⟩) T.no mo) ∧ W.cell? ⟨bm, 7, none⟩ = some (.int .i64 T.last) ∧ W.cell? ⟨bm, 8, none⟩ = some (.slice (some ⟨gc, 0, none⟩) T.nc mc)) w9 := ⟨KT9.out.cell 0, KT9.out.cell 1, KT9.out.cell 2, KT9.out.cell 3, KT9.out.cell 4, KT9.out.cell 5, KT9.out.cell 6, KT9.out.cell 7, KT9.out.cell 8, KU9.out.cell 0, KU9.out.cell 1, KU9.out.cell 2, KU9.out.cell 3, KU9.out.cell 4, KU9.out.cell 5, KU9.out.cell 6, KU9.out.cell 7, KU9.out.cell 8, KM9.out.cell 0, KM9.out.cell 1, KM9.out.cell 2, KM9.out.cell 3, KM9.out.cell 4, KM9.out.cell 5, KM9.out.cell 6, KM9.out.cell 7, KM9.out.cell 8⟩
  clear hb hb' HS8 KT8 KU8 KM8 HM8 HB8
  refine hK.out _ _ (fun _ => HS9) ?_
  clear hK K
  simp only [Act.put, List.setIfInBounds_toArray, List.set_cons_zero, List.set_cons_succ]
  refine Pb.U_ready (rs := [11]) (by kernel_rfl) (by simp) ?_
  refine Pb.AllReadyU.cons rfl (fun K hK => ?_) Pb.AllReadyU.nil
  go_simp
  refine (same_trace T U Ai Ao Ac Bi Bo Bc ci co cc di do_ dc w.heap.size w.heap.size bs w9 HB9.out.size HB9.out.size ((HT.out w9 HB9.out).light HLt.out) ((HU.out w9 HB9.out).light HLu.out) HBs.out).mono ?_
  rintro e w10 ⟨rfl, hb⟩
  have hb' : Below w9.heap.size w9 w10 := ⟨hb.os, hb.tape, hb.output, hb.size, hb.block⟩
  have HB10 := Lib.hid (HB9.out.trans (hb'.mono HB9.out.size))
  have KT10 := Lib.hid (KT9.out.below hb' KT9.out.lt)
  have KU10 := Lib.hid (KU9.out.below hb' KU9.out.lt)
  have KM10 := Lib.hid (KM9.out.below hb' KM9.out.lt)
  have HM10 := Lib.hid ((HM9.out.below hb').mono hb'.size)
  have HS10 : (fun W : World => W.cell? ⟨w.heap.size, 0, none⟩ = some (.int .i64 T.start) ∧ W.cell? ⟨w.heap.size, 1, none⟩ = some (.int .i64 T.slots) ∧ W.cell? ⟨w.heap.size, 2, none⟩ = some (.int .i64 T.backs) ∧ W.cell? ⟨w.heap.size, 3, none⟩ = some (.int .i64 T.grow) ∧ W.cell? ⟨w.heap.size, 4, none⟩ = some (.int .i64 T.growBack) ∧ W.cell? ⟨w.heap.size, 5, none⟩ = some (.slice Ai T.ni ci) ∧ W.cell? ⟨w.heap.size, 6, none⟩ = some (.slice Ao T.no co) ∧ W.cell? ⟨w.heap.size, 7, none⟩ = some (.int .i64 T.last) ∧ W.cell? ⟨w.heap.size, 8, none⟩ = some (.slice Ac T.nc cc) ∧ W.cell? ⟨w.heap.size + 1, 0, none⟩ = some (.int .i64 U.start) ∧ W.cell? ⟨w.heap.size + 1, 1, none⟩ = some (.int .i64 U.slots) ∧ W.cell? ⟨w.heap.size + 1, 2, none⟩ = some (.int .i64 U.backs) ∧ W.cell? ⟨w.heap.size + 1, 3, none⟩ = some (.int .i64 U.grow) ∧ W.cell? ⟨w.heap.size + 1, 4, none⟩ = some (.int .i64 U.growBack) ∧ W.cell? ⟨w.heap.size + 1, 5, none⟩ = some (.slice Bi U.ni di) ∧ W.cell? ⟨w.heap.size + 1, 6, none⟩ = some (.slice Bo U.no do_) ∧ W.cell? ⟨w.heap.size + 1, 7, none⟩ = some (.int .i64 U.last) ∧ W.cell? ⟨w.heap.size + 1, 8, none⟩ = some (.slice Bc U.nc dc) ∧ W.cell? ⟨bm, 0, none⟩ = some (.int .i64 T.start) ∧ W.cell? ⟨bm, 1, none⟩ = some (.int .i64 T.slots) ∧ W.cell? ⟨bm, 2, none⟩ = some (.int .i64 T.backs) ∧ W.cell? ⟨bm, 3, none⟩ = some (.int .i64 T.grow) ∧ W.cell? ⟨bm, 4, none⟩ = some (.int .i64 T.growBack) ∧ W.cell? ⟨bm, 5, none⟩ = some (.slice (some ⟨gi, 0, none⟩) T.ni mi) ∧ W.cell? ⟨bm, 6, none⟩ = some (.slice (some ⟨go, 0, none⟩) T.no mo) ∧ W.cell? ⟨bm, 7, none⟩ = some (.int .i64 T.last) ∧ W.cell? ⟨bm, 8, none⟩ = some (.slice (some ⟨gc, 0, none⟩) T.nc mc)) w10 := ⟨KT10.out.cell 0, KT10.out.cell 1, KT10.out.cell 2, KT10.out.cell 3, KT10.out.cell 4, KT10.out.cell 5, KT10.out.cell 6, KT10.out.cell 7, KT10.out.cell 8, KU10.out.cell 0, KU10.out.cell 1, KU10.out.cell 2, KU10.out.cell 3, KU10.out.cell 4, KU10.out.cell 5, KU10.out.cell 6, KU10.out.cell 7, KU10.out.cell 8, KM10.out.cell 0, KM10.out.cell 1, KM10.out.cell 2, KM10.out.cell 3, KM10.out.cell 4, KM10.out.cell 5, KM10.out.cell 6, KM10.out.cell 7, KM10.out.cell 8⟩
  clear hb hb' HS9 KT9 KU9 KM9 HM9 HB9
  refine hK.out _ _ (fun _ => HS10) ?_
  clear hK K
  simp only [Act.put, List.setIfInBounds_toArray, List.set_cons_zero, List.set_cons_succ]
  refine Pb.U_take (i := 12) (oi := { dst := some 40, op := .binOp BinOp.neq 4 (.tmp 36) (.tmp 39) 4, type := 4, pos := "law.go:34", after := #[{ on := 8, ground := .data }, { on := 11, ground := .data }, { on := 5, ground := .guard }], guard := some (5, false) }) (v := .bool false) rfl (by kernel_rfl) (by kernel_rfl) (by kernel_rfl) (by kernel_rfl) (fun _ _ _ h => h) (Or.inl ⟨by rfl, ?_⟩) (by assumption) ?_
  · intro W hSw; (try dsimp only at hSw); go_simp
  simp only [Act.put, List.setIfInBounds_toArray, List.set_cons_zero, List.set_cons_succ]
  refine Pb.U_take (i := 13) (oi := { dst := some 41, op := .pick (.tmp 33) (.const (Value.bool true)) (.tmp 40), type := 4, pos := "law.go:34", after := #[{ on := 5, ground := .data }, { on := 12, ground := .data }], guard := none }) (v := .bool false) rfl (by kernel_rfl) (by kernel_rfl) (by kernel_rfl) (by kernel_rfl) (fun _ _ _ h => h) (Or.inl ⟨by rfl, ?_⟩) (by assumption) ?_
  · intro W hSw; (try dsimp only at hSw); go_simp
  simp only [Act.put, List.setIfInBounds_toArray, List.set_cons_zero, List.set_cons_succ]
  refine Pb.U_take (i := 14) (oi := { dst := some 42, op := .move (.tmp 41), type := 4, pos := "law.go:34", after := #[{ on := 13, ground := .data }, { on := 11, ground := .chain }], guard := none }) (v := .bool false) rfl (by kernel_rfl) (by kernel_rfl) (by kernel_rfl) (by kernel_rfl) (fun _ _ _ h => h) (Or.inl ⟨by rfl, ?_⟩) (by assumption) ?_
  · intro W hSw; (try dsimp only at hSw); go_simp
  simp only [Act.put, List.setIfInBounds_toArray, List.set_cons_zero, List.set_cons_succ]
  refine Pb.U_take (i := 15) (oi := { dst := some 43, op := .load 26 (.tmp 5), type := 26, pos := "law.go:34", after := #[{ on := 14, ground := .guard }], guard := some (14, false) }) (v := .agg #[.int .i64 T.start, .int .i64 T.slots, .int .i64 T.backs, .int .i64 T.grow, .int .i64 T.growBack, .slice (some ⟨gi, 0, none⟩) T.ni mi, .slice (some ⟨go, 0, none⟩) T.no mo, .int .i64 T.last, .slice (some ⟨gc, 0, none⟩) T.nc mc]) rfl (by kernel_rfl) (by kernel_rfl) (by kernel_rfl) (by kernel_rfl) (fun _ _ _ h => h) (Or.inl ⟨by rfl, ?_⟩) (by assumption) ?_
  · intro W hSw; (try dsimp only at hSw); go_simp
  simp only [Act.put, List.setIfInBounds_toArray, List.set_cons_zero, List.set_cons_succ]
  refine Pb.U_take (i := 16) (oi := { dst := some 44, op := .load 26 (.tmp 2), type := 26, pos := "law.go:34", after := #[{ on := 14, ground := .guard }], guard := some (14, false) }) (v := .agg #[.int .i64 T.start, .int .i64 T.slots, .int .i64 T.backs, .int .i64 T.grow, .int .i64 T.growBack, .slice Ai T.ni ci, .slice Ao T.no co, .int .i64 T.last, .slice Ac T.nc cc]) rfl (by kernel_rfl) (by kernel_rfl) (by kernel_rfl) (by kernel_rfl) (fun _ _ _ h => h) (Or.inl ⟨by rfl, ?_⟩) (by assumption) ?_
  · intro W hSw; (try dsimp only at hSw); go_simp
  simp only [Act.put, List.setIfInBounds_toArray, List.set_cons_zero, List.set_cons_succ]
  refine Pb.U_ready (rs := [17]) (by kernel_rfl) (by simp) ?_
  refine Pb.AllReadyU.cons rfl (fun K hK => ?_) Pb.AllReadyU.nil
  go_simp
  refine (same_any T T (some ⟨gi, 0, none⟩) (some ⟨go, 0, none⟩) (some ⟨gc, 0, none⟩) Ai Ao Ac mi mo mc ci co cc w10.heap.size w.heap.size true w10 (Nat.le_refl _) HB10.out.size HM10.out.at_ ((HT.out w10 HB10.out).light HLt.out) ⟨fun _ => same_refl T, fun _ => rfl⟩).mono ?_
  rintro e w11 ⟨rfl, hb⟩
  have hb' : Below w10.heap.size w10 w11 := ⟨hb.os, hb.tape, hb.output, hb.size, hb.block⟩
  have HB11 := Lib.hid (HB10.out.trans (hb'.mono HB10.out.size))
  have KT11 := Lib.hid (KT10.out.below hb' KT10.out.lt)
  have KU11 := Lib.hid (KU10.out.below hb' KU10.out.lt)
  have KM11 := Lib.hid (KM10.out.below hb' KM10.out.lt)
  have HM11 := Lib.hid ((HM10.out.below hb').mono hb'.size)
  have HS11 : (fun W : World => W.cell? ⟨w.heap.size, 0, none⟩ = some (.int .i64 T.start) ∧ W.cell? ⟨w.heap.size, 1, none⟩ = some (.int .i64 T.slots) ∧ W.cell? ⟨w.heap.size, 2, none⟩ = some (.int .i64 T.backs) ∧ W.cell? ⟨w.heap.size, 3, none⟩ = some (.int .i64 T.grow) ∧ W.cell? ⟨w.heap.size, 4, none⟩ = some (.int .i64 T.growBack) ∧ W.cell? ⟨w.heap.size, 5, none⟩ = some (.slice Ai T.ni ci) ∧ W.cell? ⟨w.heap.size, 6, none⟩ = some (.slice Ao T.no co) ∧ W.cell? ⟨w.heap.size, 7, none⟩ = some (.int .i64 T.last) ∧ W.cell? ⟨w.heap.size, 8, none⟩ = some (.slice Ac T.nc cc) ∧ W.cell? ⟨w.heap.size + 1, 0, none⟩ = some (.int .i64 U.start) ∧ W.cell? ⟨w.heap.size + 1, 1, none⟩ = some (.int .i64 U.slots) ∧ W.cell? ⟨w.heap.size + 1, 2, none⟩ = some (.int .i64 U.backs) ∧ W.cell? ⟨w.heap.size + 1, 3, none⟩ = some (.int .i64 U.grow) ∧ W.cell? ⟨w.heap.size + 1, 4, none⟩ = some (.int .i64 U.growBack) ∧ W.cell? ⟨w.heap.size + 1, 5, none⟩ = some (.slice Bi U.ni di) ∧ W.cell? ⟨w.heap.size + 1, 6, none⟩ = some (.slice Bo U.no do_) ∧ W.cell? ⟨w.heap.size + 1, 7, none⟩ = some (.int .i64 U.last) ∧ W.cell? ⟨w.heap.size + 1, 8, none⟩ = some (.slice Bc U.nc dc) ∧ W.cell? ⟨bm, 0, none⟩ = some (.int .i64 T.start) ∧ W.cell? ⟨bm, 1, none⟩ = some (.int .i64 T.slots) ∧ W.cell? ⟨bm, 2, none⟩ = some (.int .i64 T.backs) ∧ W.cell? ⟨bm, 3, none⟩ = some (.int .i64 T.grow) ∧ W.cell? ⟨bm, 4, none⟩ = some (.int .i64 T.growBack) ∧ W.cell? ⟨bm, 5, none⟩ = some (.slice (some ⟨gi, 0, none⟩) T.ni mi) ∧ W.cell? ⟨bm, 6, none⟩ = some (.slice (some ⟨go, 0, none⟩) T.no mo) ∧ W.cell? ⟨bm, 7, none⟩ = some (.int .i64 T.last) ∧ W.cell? ⟨bm, 8, none⟩ = some (.slice (some ⟨gc, 0, none⟩) T.nc mc)) w11 := ⟨KT11.out.cell 0, KT11.out.cell 1, KT11.out.cell 2, KT11.out.cell 3, KT11.out.cell 4, KT11.out.cell 5, KT11.out.cell 6, KT11.out.cell 7, KT11.out.cell 8, KU11.out.cell 0, KU11.out.cell 1, KU11.out.cell 2, KU11.out.cell 3, KU11.out.cell 4, KU11.out.cell 5, KU11.out.cell 6, KU11.out.cell 7, KU11.out.cell 8, KM11.out.cell 0, KM11.out.cell 1, KM11.out.cell 2, KM11.out.cell 3, KM11.out.cell 4, KM11.out.cell 5, KM11.out.cell 6, KM11.out.cell 7, KM11.out.cell 8⟩
  clear hb hb' HS10 KT10 KU10 KM10 HM10 HB10
  refine hK.out _ _ (fun _ => HS11) ?_
  clear hK K
  simp only [Act.put, List.setIfInBounds_toArray, List.set_cons_zero, List.set_cons_succ]
  refine Pb.U_take (i := 18) (oi := { dst := some 46, op := .unOp UnOp.not 4 (.tmp 45), type := 4, pos := "law.go:34", after := #[{ on := 17, ground := .data }, { on := 14, ground := .guard }], guard := some (14, false) }) (v := .bool false) rfl (by kernel_rfl) (by kernel_rfl) (by kernel_rfl) (by kernel_rfl) (fun _ _ _ h => h) (Or.inl ⟨by rfl, ?_⟩) (by assumption) ?_
  · intro W hSw; (try dsimp only at hSw); go_simp
  simp only [Act.put, List.setIfInBounds_toArray, List.set_cons_zero, List.set_cons_succ]
  refine Pb.U_take (i := 19) (oi := { dst := some 47, op := .pick (.tmp 42) (.const (Value.bool true)) (.tmp 46), type := 4, pos := "law.go:34", after := #[{ on := 14, ground := .data }, { on := 18, ground := .data }], guard := none }) (v := .bool false) rfl (by kernel_rfl) (by kernel_rfl) (by kernel_rfl) (by kernel_rfl) (fun _ _ _ h => h) (Or.inl ⟨by rfl, ?_⟩) (by assumption) ?_
  · intro W hSw; (try dsimp only at hSw); go_simp
  simp only [Act.put, List.setIfInBounds_toArray, List.set_cons_zero, List.set_cons_succ]
  refine Pb.U_done (by kernel_rfl) ?_ _
  go_simp
  clear HS11
  go_upto_region 7 with fail
  have hx : Below w11.heap.size w11 (w11.alloc (.cells #[.string ⟨#[]⟩, .string ⟨#[99, 111, 110, 115, 116]⟩, .string ⟨#[115, 108, 111, 116]⟩, .string ⟨#[98, 101, 104, 105, 110, 100]⟩, .string ⟨#[99, 97, 108, 99]⟩, .string ⟨#[108, 111, 97, 100]⟩, .string ⟨#[112, 117, 116]⟩, .string ⟨#[109, 117, 115, 116]⟩, .string ⟨#[109, 117, 115, 116, 110, 111, 116]⟩, .string ⟨#[115, 97, 109, 101]⟩, .string ⟨#[115, 97, 121]⟩, .string ⟨#[116, 101, 108, 108]⟩, .string ⟨#[97, 115, 107]⟩] 9)) := (Below.refl _ _).alloc (Nat.le_refl _) _
  have kn : Blk (w11.alloc (.cells #[.string ⟨#[]⟩, .string ⟨#[99, 111, 110, 115, 116]⟩, .string ⟨#[115, 108, 111, 116]⟩, .string ⟨#[98, 101, 104, 105, 110, 100]⟩, .string ⟨#[99, 97, 108, 99]⟩, .string ⟨#[108, 111, 97, 100]⟩, .string ⟨#[112, 117, 116]⟩, .string ⟨#[109, 117, 115, 116]⟩, .string ⟨#[109, 117, 115, 116, 110, 111, 116]⟩, .string ⟨#[115, 97, 109, 101]⟩, .string ⟨#[115, 97, 121]⟩, .string ⟨#[116, 101, 108, 108]⟩, .string ⟨#[97, 115, 107]⟩] 9)) w11.heap.size 9 nameCells := Blk.new _ _ _
  have hsz : (w11.alloc (.cells #[.string ⟨#[]⟩, .string ⟨#[99, 111, 110, 115, 116]⟩, .string ⟨#[115, 108, 111, 116]⟩, .string ⟨#[98, 101, 104, 105, 110, 100]⟩, .string ⟨#[99, 97, 108, 99]⟩, .string ⟨#[108, 111, 97, 100]⟩, .string ⟨#[112, 117, 116]⟩, .string ⟨#[109, 117, 115, 116]⟩, .string ⟨#[109, 117, 115, 116, 110, 111, 116]⟩, .string ⟨#[115, 97, 109, 101]⟩, .string ⟨#[115, 97, 121]⟩, .string ⟨#[116, 101, 108, 108]⟩, .string ⟨#[97, 115, 107]⟩] 9)).heap.size = w11.heap.size + 1 := by simp
  have HE12 : Hid (Env w T Ai Ao Ac ci co cc bm w11.heap.size gi mi go mo gc mc (w11.heap.size + 1) (w11.alloc (.cells #[.string ⟨#[]⟩, .string ⟨#[99, 111, 110, 115, 116]⟩, .string ⟨#[115, 108, 111, 116]⟩, .string ⟨#[98, 101, 104, 105, 110, 100]⟩, .string ⟨#[99, 97, 108, 99]⟩, .string ⟨#[108, 111, 97, 100]⟩, .string ⟨#[112, 117, 116]⟩, .string ⟨#[109, 117, 115, 116]⟩, .string ⟨#[109, 117, 115, 116, 110, 111, 116]⟩, .string ⟨#[115, 97, 109, 101]⟩, .string ⟨#[115, 97, 121]⟩, .string ⟨#[116, 101, 108, 108]⟩, .string ⟨#[97, 115, 107]⟩] 9))) :=
    ⟨KT11.out.below hx KT11.out.lt, KM11.out.below hx KM11.out.lt, kn, (HM11.out.below hx).mono (by omega), ((HT.out _ (HB11.out.trans (hx.mono HB11.out.size))).light HLt.out), HB11.out.trans (hx.mono HB11.out.size), by have := KT11.out.lt; omega, by have := KM11.out.lt; omega, by omega⟩
  have HZ12 := Lib.hid hsz
  clear hx kn hsz KT11 KU11 KM11 HM11 HB11 HBr HBs HU HLu
  generalize w11.alloc (.cells #[.string ⟨#[]⟩, .string ⟨#[99, 111, 110, 115, 116]⟩, .string ⟨#[115, 108, 111, 116]⟩, .string ⟨#[98, 101, 104, 105, 110, 100]⟩, .string ⟨#[99, 97, 108, 99]⟩, .string ⟨#[108, 111, 97, 100]⟩, .string ⟨#[112, 117, 116]⟩, .string ⟨#[109, 117, 115, 116]⟩, .string ⟨#[109, 117, 115, 116, 110, 111, 116]⟩, .string ⟨#[115, 97, 109, 101]⟩, .string ⟨#[115, 97, 121]⟩, .string ⟨#[116, 101, 108, 108]⟩, .string ⟨#[97, 115, 107]⟩] 9) = w12 at *
  generalize w11.heap.size = nb at *
  have HI12 : Hid (BkI.Is (w12.alloc (.cells #[.slice none 0 0, .slice none 0 0, .slice none 0 0, .slice none 0 0, .slice none 0 0, .slice none 0 0, .slice none 0 0, .slice none 0 0, .slice none 0 0, .slice none 0 0, .slice none 0 0, .slice none 0 0] 40)) (nb + 1) w12.heap.size (fun k => k = w12.heap.size)) := BkI.Is.new w12 (nb + 1) (Nat.le_of_eq HZ12.out.symm)
  have hx : Below w12.heap.size w12 (w12.alloc (.cells #[.slice none 0 0, .slice none 0 0, .slice none 0 0, .slice none 0 0, .slice none 0 0, .slice none 0 0, .slice none 0 0, .slice none 0 0, .slice none 0 0, .slice none 0 0, .slice none 0 0, .slice none 0 0] 40)) := (Below.refl _ _).alloc (Nat.le_refl _) _
  have HE13 := Lib.hid (HE12.out.go (hx.mono (Nat.le_of_eq HZ12.out.symm)))
  have HL13 : Hid (nb + 1 < (w12.alloc (.cells #[.slice none 0 0, .slice none 0 0, .slice none 0 0, .slice none 0 0, .slice none 0 0, .slice none 0 0, .slice none 0 0, .slice none 0 0, .slice none 0 0, .slice none 0 0, .slice none 0 0, .slice none 0 0] 40)).heap.size) := by
    have h := HZ12.out
    refine Lib.hid ?_
    simp
    omega
  have hbb : w12.heap.size = nb + 1 := HZ12.out
  rw [hbb] at HI12
  clear hx HE12
  go_upto_region 8 with fail
  clear hbb HZ12
  generalize w12.alloc (.cells #[.slice none 0 0, .slice none 0 0, .slice none 0 0, .slice none 0 0, .slice none 0 0, .slice none 0 0, .slice none 0 0, .slice none 0 0, .slice none 0 0, .slice none 0 0, .slice none 0 0, .slice none 0 0] 40) = w13 at *
  go_cut [8] (fun v wc => v = .int .i64 0 ∧ wc = w13)
  case first =>
    go_wp2_with fail
    go_meet
    exact ⟨rfl, rfl⟩
  case rest =>
  obtain ⟨rfl, rfl⟩ := hcut
  go_wp2_with fail
  go_loopg [8] T.ni (fun g vk wr => ∃ (j : Nat) (F : Nat → Prop), g = T.ni - j ∧ vk = .int .i64 (j : Int) ∧ j ≤ T.ni ∧ Hid (BkI.Is wr (nb + 1) (nb + 1) F) ∧ Hid (∀ k, F k → nb + 1 ≤ k ∧ k < wr.heap.size) ∧ Hid (Env w T Ai Ao Ac ci co cc bm nb gi mi go mo gc mc (nb + 1) wr) ∧ Hid (nb + 1 < wr.heap.size))
  case atStart => exact ⟨0, _, rfl, rfl, by omega, HI12.out, fun k hk => by subst hk; exact ⟨Nat.le_refl _, HL13.out⟩, HE13.out, HL13.out⟩
  case round =>
    obtain ⟨j, F, hg, rfl, hj, HI, HFl, HE, HSz⟩ := hrel
    have Hg := Lib.hid hg
    clear hg HI12 HE13 HL13
    have k5 : wr.cell? ⟨w.heap.size, 5, none⟩ = some (.slice Ai T.ni ci) := HE.out.kt.cell 5
    by_cases hlt : j < T.ni
    case neg =>
      obtain rfl : j = T.ni := by omega
      have HKm : Hid (Blk wr bm 26 #[.int .i64 T.start, .int .i64 T.slots, .int .i64 T.backs, .int .i64 T.grow, .int .i64 T.growBack, .slice (some ⟨gi, 0, none⟩) T.ni mi, .slice (some ⟨go, 0, none⟩) T.no mo, .int .i64 T.last, .slice (some ⟨gc, 0, none⟩) T.nc mc]) := HE.out.km
      have HKt : Hid (Blk wr w.heap.size 26 #[.int .i64 T.start, .int .i64 T.slots, .int .i64 T.backs, .int .i64 T.grow, .int .i64 T.growBack, .slice Ai T.ni ci, .slice Ao T.no co, .int .i64 T.last, .slice Ac T.nc cc]) := HE.out.kt
      have m0 : wr.cell? ⟨bm, 0, none⟩ = some (.int .i64 T.start) := HKm.out.cell 0
      have m1 : wr.cell? ⟨bm, 1, none⟩ = some (.int .i64 T.slots) := HKm.out.cell 1
      have m2 : wr.cell? ⟨bm, 2, none⟩ = some (.int .i64 T.backs) := HKm.out.cell 2
      have m3 : wr.cell? ⟨bm, 3, none⟩ = some (.int .i64 T.grow) := HKm.out.cell 3
      have m4 : wr.cell? ⟨bm, 4, none⟩ = some (.int .i64 T.growBack) := HKm.out.cell 4
      have m5 : wr.cell? ⟨bm, 5, none⟩ = some (.slice (some ⟨gi, 0, none⟩) T.ni mi) := HKm.out.cell 5
      have m6 : wr.cell? ⟨bm, 6, none⟩ = some (.slice (some ⟨go, 0, none⟩) T.no mo) := HKm.out.cell 6
      have m7 : wr.cell? ⟨bm, 7, none⟩ = some (.int .i64 T.last) := HKm.out.cell 7
      have m8 : wr.cell? ⟨bm, 8, none⟩ = some (.slice (some ⟨gc, 0, none⟩) T.nc mc) := HKm.out.cell 8
      have k0 : wr.cell? ⟨w.heap.size, 0, none⟩ = some (.int .i64 T.start) := HKt.out.cell 0
      have k1 : wr.cell? ⟨w.heap.size, 1, none⟩ = some (.int .i64 T.slots) := HKt.out.cell 1
      have k2 : wr.cell? ⟨w.heap.size, 2, none⟩ = some (.int .i64 T.backs) := HKt.out.cell 2
      have k3 : wr.cell? ⟨w.heap.size, 3, none⟩ = some (.int .i64 T.grow) := HKt.out.cell 3
      have k4 : wr.cell? ⟨w.heap.size, 4, none⟩ = some (.int .i64 T.growBack) := HKt.out.cell 4
      have k5 : wr.cell? ⟨w.heap.size, 5, none⟩ = some (.slice Ai T.ni ci) := HKt.out.cell 5
      have k6 : wr.cell? ⟨w.heap.size, 6, none⟩ = some (.slice Ao T.no co) := HKt.out.cell 6
      have k7 : wr.cell? ⟨w.heap.size, 7, none⟩ = some (.int .i64 T.last) := HKt.out.cell 7
      have k8 : wr.cell? ⟨w.heap.size, 8, none⟩ = some (.slice Ac T.nc cc) := HKt.out.cell 8
      go_wp2_with fail
      refine (stays_trace T gi mi go mo gc mc Ai Ao Ac ci co cc (nb + 1) wr HE.out.lent (Nat.le_of_lt HSz.out) (HE.out.at_.mono (Nat.le_of_lt HE.out.lt)) HLt.out).mono ?_
      rintro e w14 ⟨rfl, hb14⟩
      have HB14 := Lib.hid (HE.out.bel.trans (hb14.mono HE.out.bel.size))
      have HI14 := Lib.hid (HI.out.below hb14)
      have HS14 : Hid (nb + 1 ≤ w14.heap.size) := Nat.le_trans (Nat.le_of_lt HSz.out) hb14.size
      have HLw : Hid (w.heap.size ≤ nb + 1) := Nat.le_of_lt HE.out.lt
      clear hb14 HKm HKt HI HE HFl k0 k1 k2 k3 k4 k5 k6 k7 k8 m0 m1 m2 m3 m4 m5 m6 m7 m8
      go_wp2_with fail
      refine (BkI.apart_any (nb + 1) (nb + 1) F w14 HI14.out HS14.out).mono ?_
      rintro e w15 ⟨rfl, hb15⟩
      have HB15 := Lib.hid (HB14.out.trans (hb15.mono HLw.out))
      go_wp2_with fail
      go_ret
      exact ⟨rfl, HB15.out⟩
    have hlt' : (j : Int) < (T.ni : Int) := by omega
    have hni : T.ni ≤ 120 := HLt.out.1
    obtain ⟨bi, oi, rfl, hbi, hci⟩ := HE.out.at_.ins.resolve_left (by omega)
    obtain ⟨x0, x1, x2, x3, x4⟩ := hci j hlt
    have hi4 := HR.out j hlt
    generalize T.ins j = i at *
    obtain ⟨op, a, b, c, x⟩ := i
    dsimp only at x0 x1 x2 x3 x4
    have HI4 := Lib.hid hi4
    clear hci hi4 hbi
    go_upto_region 12 with fail
    have kb : Blk (wr.alloc (.cells #[.int .i64 op, .int .i64 a, .int .i64 b, .int .i64 c, .int .i64 x] 42)) wr.heap.size 42 #[.int .i64 op, .int .i64 a, .int .i64 b, .int .i64 c, .int .i64 x] := Blk.new _ _ _
    have hx : Below wr.heap.size wr (wr.alloc (.cells #[.int .i64 op, .int .i64 a, .int .i64 b, .int .i64 c, .int .i64 x] 42)) := (Below.refl _ _).alloc (Nat.le_refl _) _
    have hsz : (wr.alloc (.cells #[.int .i64 op, .int .i64 a, .int .i64 b, .int .i64 c, .int .i64 x] 42)).heap.size = wr.heap.size + 1 := by simp
    have HIb := Lib.hid (HI.out.below hx)
    have HEb := Lib.hid (HE.out.go (hx.mono (Nat.le_of_lt HSz.out)))
    have HKb := Lib.hid kb
    have HSb : Hid (nb + 1 < (wr.alloc (.cells #[.int .i64 op, .int .i64 a, .int .i64 b, .int .i64 c, .int .i64 x] 42)).heap.size) := by rw [hsz]; exact Nat.lt_succ_of_lt HSz.out
    have HZb := Lib.hid hsz
    clear kb hx hsz HI HE HSz x0 x1 x2 x3 x4 k5
    generalize wr.alloc (.cells #[.int .i64 op, .int .i64 a, .int .i64 b, .int .i64 c, .int .i64 x] 42) = wb at *
    generalize wr.heap.size = bx at *
    by_cases hop : 1 ≤ op ∧ op ≤ 12
    case pos =>
      obtain ⟨p, rfl⟩ : ∃ p : Nat, op = p := ⟨op.toNat, by omega⟩
      have hp1 : 1 ≤ p := by omega
      have hp2 : p ≤ 12 := by omega
      have r1 : (1 : Int) ≤ (p : Int) := by omega
      have r2 : (p : Int) ≤ 12 := by omega
      have r3 : (p : Int) < 13 := by omega
      have r4 : p < 13 := by omega
      have hnm : wb.cell? ⟨nb, p, none⟩ = some (.string (nameL.getD p ⟨#[]⟩)) := (HEb.out.kn.cell p).trans (name_at p (by omega))
      have hsn := name_size p
      have hj := Dg.joined_text ⟨p, a, b, c, x⟩ ⟨by show (1 : Int) ≤ p; omega, by show (p : Int) ≤ 12; omega⟩
      unfold Dg.joined Dg.sp at hj
      simp only [Int.toNat_natCast] at hj
      have s1 := Dg.numB_size a HI4.out.1
      have s2 := Dg.numB_size b HI4.out.2.1
      have s3 := Dg.numB_size c HI4.out.2.2.1
      have s4 := Dg.numB_size x HI4.out.2.2.2
      have P1 : Hid (∀ W, Calls Tryz.prog 11 #[.int .i64 a, .int .i64 10] W fun e w' => e = .returned (.string (Dg.numB a)) ∧ w' = W) := fun W => (Dg.rput_num a HI4.out.1 W).mono fun _ _ h => ⟨h.1, h.2.symm⟩
      have P2 : Hid (∀ W, Calls Tryz.prog 11 #[.int .i64 b, .int .i64 10] W fun e w' => e = .returned (.string (Dg.numB b)) ∧ w' = W) := fun W => (Dg.rput_num b HI4.out.2.1 W).mono fun _ _ h => ⟨h.1, h.2.symm⟩
      have P3 : Hid (∀ W, Calls Tryz.prog 11 #[.int .i64 c, .int .i64 10] W fun e w' => e = .returned (.string (Dg.numB c)) ∧ w' = W) := fun W => (Dg.rput_num c HI4.out.2.2.1 W).mono fun _ _ h => ⟨h.1, h.2.symm⟩
      have P4 : Hid (∀ W, Calls Tryz.prog 11 #[.int .i64 x, .int .i64 10] W fun e w' => e = .returned (.string (Dg.numB x)) ∧ w' = W) := fun W => (Dg.rput_num x HI4.out.2.2.2 W).mono fun _ _ h => ⟨h.1, h.2.symm⟩
      have Hj := Lib.hid hj
      clear hj
      generalize nameL.getD p ⟨#[]⟩ = nm at *
      generalize Dg.numB a = na at *
      generalize Dg.numB b = nb' at *
      generalize Dg.numB c = nc at *
      generalize Dg.numB x = nx at *
      have t1 : ¬ 9223372036854775807 < nm.size + 1 := by omega
      have t2 : ¬ 9223372036854775807 < nm.size + 1 + na.size := by omega
      have t3 : ¬ 9223372036854775807 < nm.size + 1 + na.size + 1 := by omega
      have t4 : ¬ 9223372036854775807 < nm.size + 1 + na.size + 1 + nb'.size := by omega
      have t5 : ¬ 9223372036854775807 < nm.size + 1 + na.size + 1 + nb'.size + 1 := by omega
      have t6 : ¬ 9223372036854775807 < nm.size + 1 + na.size + 1 + nb'.size + 1 + nc.size := by omega
      have t7 : ¬ 9223372036854775807 < nm.size + 1 + na.size + 1 + nb'.size + 1 + nc.size + 1 := by omega
      have t8 : ¬ 9223372036854775807 < nm.size + 1 + na.size + 1 + nb'.size + 1 + nc.size + 1 + nx.size := by omega
      have p0 : wb.cell? ⟨bx, 0, none⟩ = some (.int .i64 (p : Int)) := HKb.out.cell 0
      have p1 : wb.cell? ⟨bx, 1, none⟩ = some (.int .i64 a) := HKb.out.cell 1
      have p2 : wb.cell? ⟨bx, 2, none⟩ = some (.int .i64 b) := HKb.out.cell 2
      have p3 : wb.cell? ⟨bx, 3, none⟩ = some (.int .i64 c) := HKb.out.cell 3
      have p4 : wb.cell? ⟨bx, 4, none⟩ = some (.int .i64 x) := HKb.out.cell 4
      go_upto_region 14 with fail
      go_quiet ((first | (go_at_call_of 11 (Value.int .i64 a); exact Calls.quiet_of_same (P1.out _)) | (go_at_call_of 11 (Value.int .i64 b); exact Calls.quiet_of_same (P2.out _)) | (go_at_call_of 11 (Value.int .i64 c); exact Calls.quiet_of_same (P3.out _)) | (go_at_call_of 11 (Value.int .i64 x); exact Calls.quiet_of_same (P4.out _))))
      clear P1 P2 P3 P4 t1 t2 t3 t4 t5 t6 t7 t8 s1 s2 s3 s4 hsn r1 r2 r3 r4 hp1 hp2 hnm p0 p1 p2 p3 p4
      have HEc := Lib.hid (HEb.out.go (below_of_draw (Below.refl (nb + 1) wb) nq))
      have HIc : Hid (BkI.Is (wb.drewN nq) (nb + 1) (nb + 1) F) := HIb.out.below (below_of_draw (Below.refl _ wb) nq)
      have HKc := Lib.hid (HKb.out.drewN nq)
      have HSc : Hid (nb + 1 < (wb.drewN nq).heap.size) := HSb.out
      have HZc : Hid ((wb.drewN nq).heap.size = bx + 1) := HZb.out
      clear HEb HIb HKb HSb HZb
      generalize wb.drewN nq = wc at *
      generalize nm ++ ⟨#[32]⟩ ++ na ++ ⟨#[32]⟩ ++ nb' ++ ⟨#[32]⟩ ++ nc ++ ⟨#[32]⟩ ++ nx = tx at *
      generalize hop0 : (p : Int) = op at *
      clear hop0
      have HS0 : (fun W : World => W.cell? ⟨bx, 0, none⟩ = some (.int .i64 op) ∧ W.cell? ⟨bx, 1, none⟩ = some (.int .i64 a) ∧ W.cell? ⟨bx, 2, none⟩ = some (.int .i64 b) ∧ W.cell? ⟨bx, 3, none⟩ = some (.int .i64 c) ∧ W.cell? ⟨bx, 4, none⟩ = some (.int .i64 x)) wc.drew := ⟨HKc.out.cell 0, HKc.out.cell 1, HKc.out.cell 2, HKc.out.cell 3, HKc.out.cell 4⟩
      go_upto_region 15 with fail
      refine Pb.wp_region_U ((fun _ => true)) (fun W : World => W.cell? ⟨bx, 0, none⟩ = some (.int .i64 op) ∧ W.cell? ⟨bx, 1, none⟩ = some (.int .i64 a) ∧ W.cell? ⟨bx, 2, none⟩ = some (.int .i64 b) ∧ W.cell? ⟨bx, 3, none⟩ = some (.int .i64 c) ∧ W.cell? ⟨bx, 4, none⟩ = some (.int .i64 x)) (by kernel_rfl) ?_
      change Pb.wpU _ _ _ _ _ _ 6 #[false, false, false, false, false, false] _ _
      refine Pb.U_take (i := 0) (oi := { dst := some 96, op := .load 42 (.tmp 9), type := 42, pos := "law.go:45", after := #[], guard := none }) (v := .agg #[.int .i64 op, .int .i64 a, .int .i64 b, .int .i64 c, .int .i64 x]) rfl (by kernel_rfl) (by kernel_rfl) (by kernel_rfl) (by kernel_rfl) (fun _ _ _ h => h) (Or.inl ⟨by rfl, ?_⟩) (by assumption) ?_
      · intro W hSw; (try dsimp only at hSw); go_simp
      simp only [Act.put, List.setIfInBounds_toArray, List.set_cons_zero, List.set_cons_succ]
      refine Pb.U_take (i := 2) (oi := { dst := some 98, op := .load 42 (.tmp 9), type := 42, pos := "law.go:45", after := #[], guard := none }) (v := .agg #[.int .i64 op, .int .i64 a, .int .i64 b, .int .i64 c, .int .i64 x]) rfl (by kernel_rfl) (by kernel_rfl) (by kernel_rfl) (by kernel_rfl) (fun _ _ _ h => h) (Or.inl ⟨by rfl, ?_⟩) (by assumption) ?_
      · intro W hSw; (try dsimp only at hSw); go_simp
      simp only [Act.put, List.setIfInBounds_toArray, List.set_cons_zero, List.set_cons_succ]
      refine Pb.U_ready (rs := [1]) (by kernel_rfl) (by simp) ?_
      refine Pb.AllReadyU.cons rfl (fun K hK => ?_) Pb.AllReadyU.nil
      go_simp
      refine (uses_own ⟨op, a, b, c, x⟩ wc.drew).mono ?_
      rintro e w1 ⟨A1, c1, rfl, ha1, hb1⟩
      have hb1' : Below wc.heap.size wc w1 := ⟨hb1.os, hb1.tape, hb1.output, hb1.size, hb1.block⟩
      have HK1 := Lib.hid (HKc.out.below hb1' HKc.out.lt)
      have HS1 : (fun W : World => W.cell? ⟨bx, 0, none⟩ = some (.int .i64 op) ∧ W.cell? ⟨bx, 1, none⟩ = some (.int .i64 a) ∧ W.cell? ⟨bx, 2, none⟩ = some (.int .i64 b) ∧ W.cell? ⟨bx, 3, none⟩ = some (.int .i64 c) ∧ W.cell? ⟨bx, 4, none⟩ = some (.int .i64 x)) w1 := ⟨HK1.out.cell 0, HK1.out.cell 1, HK1.out.cell 2, HK1.out.cell 3, HK1.out.cell 4⟩
      have HA1 : Hid (w1.ownsRow wc.heap.size 3 1 (.slice A1 (usesL ⟨op, a, b, c, x⟩).length c1) (usesL ⟨op, a, b, c, x⟩).length ((usesL ⟨op, a, b, c, x⟩).map (Value.int .i64))) := ha1
      have HB1 := Lib.hid hb1'
      clear ha1 hb1 hb1' HS0
      refine hK.out _ _ (fun _ => HS1) ?_
      clear hK K
      simp only [Act.put, List.setIfInBounds_toArray, List.set_cons_zero, List.set_cons_succ]
      refine Pb.U_ready (rs := [3]) (by kernel_rfl) (by simp) ?_
      refine Pb.AllReadyU.cons rfl (fun K hK => ?_) Pb.AllReadyU.nil
      go_simp
      refine (outs_own ⟨op, a, b, c, x⟩ w1).mono ?_
      rintro e w2 ⟨A2, c2, rfl, ha2, hb2⟩
      have HK2 := Lib.hid (HK1.out.below hb2 HK1.out.lt)
      have HS2 : (fun W : World => W.cell? ⟨bx, 0, none⟩ = some (.int .i64 op) ∧ W.cell? ⟨bx, 1, none⟩ = some (.int .i64 a) ∧ W.cell? ⟨bx, 2, none⟩ = some (.int .i64 b) ∧ W.cell? ⟨bx, 3, none⟩ = some (.int .i64 c) ∧ W.cell? ⟨bx, 4, none⟩ = some (.int .i64 x)) w2 := ⟨HK2.out.cell 0, HK2.out.cell 1, HK2.out.cell 2, HK2.out.cell 3, HK2.out.cell 4⟩
      have HA2 := Lib.hid ha2
      have HB2 := Lib.hid (HB1.out.trans (hb2.mono HB1.out.size))
      have HA1b := Lib.hid (own_touch HA1.out (Touch.of_below hb2 (fun _ => False)) (fun _ _ h => h))
      have Hlt1 : Hid (∀ k, A1.map (·.block) = some k → wc.heap.size ≤ k ∧ k < w1.heap.size) := fun k hk => own_block HA1.out hk
      have Hlt2 : Hid (∀ k, A2.map (·.block) = some k → w1.heap.size ≤ k ∧ k < w2.heap.size) := fun k hk => own_block ha2 hk
      have Hsz1 : Hid (wc.heap.size ≤ w1.heap.size) := HB1.out.size
      have Hsz2 : Hid (w1.heap.size ≤ w2.heap.size) := hb2.size
      clear ha2 hb2 HS1 HA1 HK1 HB1
      refine hK.out _ _ (fun _ => HS2) ?_
      clear hK K
      simp only [Act.put, List.setIfInBounds_toArray, List.set_cons_zero, List.set_cons_succ]
      refine Pb.U_ready (rs := [4]) (by kernel_rfl) (by simp) ?_
      refine Pb.AllReadyU.cons rfl (fun K hK => ?_) Pb.AllReadyU.nil
      go_simp
      refine hK.out _ _ (fun _ => HS2) ?_
      clear hK K
      simp only [Act.put, List.setIfInBounds_toArray, List.set_cons_zero, List.set_cons_succ]
      refine Pb.U_ready (rs := [5]) (by kernel_rfl) (by simp) ?_
      refine Pb.AllReadyU.cons rfl (fun K hK => ?_) Pb.AllReadyU.nil
      go_simp
      refine hK.out _ _ (fun _ => HS2) ?_
      clear hK K
      simp only [Act.put, List.setIfInBounds_toArray, List.set_cons_zero, List.set_cons_succ]
      refine Pb.U_done (by kernel_rfl) ?_ _
      clear HS2
      have HE2 := Lib.hid (HEc.out.go (HB2.out.mono (Nat.le_of_lt HSc.out)))
      have HI2 := Lib.hid (HIc.out.below HB2.out)
      have HFc : Hid (∀ k, F k → k < bx) := fun k h => (HFl.out k h).2
      have HFo : Hid (∀ k, F k → nb + 1 ≤ k) := fun k h => (HFl.out k h).1
      have HSz2 : Hid (nb + 1 < w2.heap.size) := Nat.lt_of_lt_of_le HSc.out HB2.out.size
      have HU2 : Hid ((usesL ⟨op, a, b, c, x⟩).length ≤ 2) := uses_two _
      have HO2 : Hid ((outsL ⟨op, a, b, c, x⟩).length ≤ 2) := outs_few _
      have HUf : Hid ((usesL ⟨op, a, b, c, x⟩).length ≤ 300000) := by have := HU2.out; refine Lib.hid ?_; omega
      have HOf : Hid ((outsL ⟨op, a, b, c, x⟩).length ≤ 300000) := by have := HO2.out; refine Lib.hid ?_; omega
      have HA1c : Hid (Bk.Own w2 (nb + 1) 3 (.slice A1 (usesL ⟨op, a, b, c, x⟩).length c1) ((usesL ⟨op, a, b, c, x⟩).map (Value.int .i64))) := by
        refine Lib.hid ?_
        unfold Bk.Own
        rw [List.length_map]
        exact HA1b.out.mono (Nat.le_of_lt HSc.out)
      have HA2c : Hid (Bk.Own w2 (nb + 1) 3 (.slice A2 (outsL ⟨op, a, b, c, x⟩).length c2) ((outsL ⟨op, a, b, c, x⟩).map (Value.int .i64))) := by
        refine Lib.hid ?_
        unfold Bk.Own
        rw [List.length_map]
        exact HA2.out.mono (Nat.le_trans (Nat.le_of_lt HSc.out) Hsz1.out)
      clear HEc HIc HKc HFl HSc HB2 HA1b HA2
      go_wp2_with fail
      refine (BkI.keep_any (nb + 1) (nb + 1) F (.slice A1 (usesL ⟨op, a, b, c, x⟩).length c1) _ w2 HI2.out (Nat.le_of_lt HSz2.out) HA1c.out (by rw [List.length_map]; have := HU2.out; omega) (vals_ise _) (fun k hk hF => by have h1 := Hlt1.out k (block_of hk); have h2 := HFc.out k hF; have h3 := HZc.out; omega)).mono ?_
      rintro e w3 ⟨rfl, F1, hI3, hF3, hT3⟩
      have HA2d : Hid (Bk.Own w3 (nb + 1) 3 (.slice A2 (outsL ⟨op, a, b, c, x⟩).length c2) ((outsL ⟨op, a, b, c, x⟩).map (Value.int .i64))) := own_touch HA2c.out hT3 (fun k hk h => by have h1 := Hlt2.out k hk; have h2 := HFc.out k h.1; have h3 := HZc.out; have h4 := Hsz1.out; omega)
      have HA1d : Hid (Bk.Own w3 (nb + 1) 3 (.slice A1 (usesL ⟨op, a, b, c, x⟩).length c1) ((usesL ⟨op, a, b, c, x⟩).map (Value.int .i64))) := own_touch HA1c.out hT3 (fun k hk h => by have h1 := Hlt1.out k hk; have h2 := HFc.out k h.1; have h3 := HZc.out; omega)
      have HB3 : Hid (Below (nb + 1) w2 w3) := hT3.below (fun k h => HFo.out k h.1) (Nat.le_of_lt HSz2.out)
      have HK3 : Hid (Blk w3 bx 42 #[.int .i64 op, .int .i64 a, .int .i64 b, .int .i64 c, .int .i64 x]) := (hT3.block bx HK2.out.lt (fun h => by have h2 := HFc.out bx h.1; omega)).trans HK2.out
      have HE3 := Lib.hid (HE2.out.go HB3.out)
      have HI3 := Lib.hid (book_cut2 hI3)
      have HF3 : Hid (∀ k, F1 k ∧ nb + 1 ≤ k ∧ k < w3.heap.size → k < bx ∨ (Value.slice A1 (usesL ⟨op, a, b, c, x⟩).length c1).ownBlock = some k ∨ w2.heap.size ≤ k) := fun k hk => (hF3 k hk.1).imp (fun h => HFc.out k h) id
      have HSz3 : Hid (nb + 1 < w3.heap.size) := Nat.lt_of_lt_of_le HSz2.out hT3.size
      clear hI3 hF3 hT3 HE2 HI2 HK2 HA1c HA2c HB3 HFc
      go_wp2_with fail
      refine (BkI.keep_any (nb + 1) (nb + 1) (fun k => F1 k ∧ nb + 1 ≤ k ∧ k < w3.heap.size) (.slice A2 (outsL ⟨op, a, b, c, x⟩).length c2) _ w3 HI3.out (Nat.le_of_lt HSz3.out) HA2d.out (by rw [List.length_map]; have := HO2.out; omega) (vals_ise _) (fun k hk hF => by have h1 := Hlt2.out k (block_of hk); have h3 := HZc.out; have h4 := Hsz1.out; rcases HF3.out k hF with h | h | h; omega; (have h5 := Hlt1.out k (block_of h); omega); omega)).mono ?_
      rintro e w4 ⟨rfl, F2', hI4, hF4, hT4⟩
      have HA1e : Hid (Bk.Own w4 (nb + 1) 3 (.slice A1 (usesL ⟨op, a, b, c, x⟩).length c1) ((usesL ⟨op, a, b, c, x⟩).map (Value.int .i64))) := own_touch HA1d.out hT4 (fun k hk h => by obtain ⟨cs, hcs⟩ := own_blk HA1d.out hk; exact h.2 cs hcs)
      have HA2e : Hid (Bk.Own w4 (nb + 1) 3 (.slice A2 (outsL ⟨op, a, b, c, x⟩).length c2) ((outsL ⟨op, a, b, c, x⟩).map (Value.int .i64))) := own_touch HA2d.out hT4 (fun k hk h => by obtain ⟨cs, hcs⟩ := own_blk HA2d.out hk; exact h.2 cs hcs)
      have HB4 : Hid (Below (nb + 1) w3 w4) := hT4.below (fun k h => h.1.2.1) (Nat.le_of_lt HSz3.out)
      have HK4 : Hid (Blk w4 bx 42 #[.int .i64 op, .int .i64 a, .int .i64 b, .int .i64 c, .int .i64 x]) := (hT4.block bx HK3.out.lt (fun h => by have h3 := HZc.out; have h4 := Hsz1.out; have h5 := Hsz2.out; rcases HF3.out bx h.1 with h | h | h; omega; (have h6 := Hlt1.out bx (block_of h); omega); omega)).trans HK3.out
      have HE4 := Lib.hid (HE3.out.go HB4.out)
      have HI4' := Lib.hid (book_cut2 hI4)
      have HSz4 : Hid (nb + 1 < w4.heap.size) := Nat.lt_of_lt_of_le HSz3.out hT4.size
      have HF4 : Hid (∀ k, F2' k ∧ nb + 1 ≤ k ∧ k < w4.heap.size → nb + 1 ≤ k ∧ k < w4.heap.size) := fun k h => h.2
      have HA4 : Hid (IntsAt w4 w4.heap.size A1 (usesL ⟨op, a, b, c, x⟩).length (fun k => (usesL ⟨op, a, b, c, x⟩).getD k 0)) := GotOwn.ints (base := nb + 1) (c := c1) (by have h := HA1e.out; unfold Bk.Own at h; rw [List.length_map] at h; exact h)
      have HC4 : Hid (IntsAt w4 w4.heap.size A2 (outsL ⟨op, a, b, c, x⟩).length (fun k => (outsL ⟨op, a, b, c, x⟩).getD k 0)) := GotOwn.ints (base := nb + 1) (c := c2) (by have h := HA2e.out; unfold Bk.Own at h; rw [List.length_map] at h; exact h)
      clear hI4 hF4 hT4 HE3 HI3 HK3 HB4 HF3 HSz3 HA1d HA2d HA1e HA2e Hlt1 Hlt2 Hsz1 Hsz2 HZc HSz2
      generalize hFF : (fun k => F2' k ∧ nb + 1 ≤ k ∧ k < w4.heap.size) = F2 at *
      have HF5 : Hid (∀ k, F2 k → nb + 1 ≤ k ∧ k < w4.heap.size) := by subst hFF; exact HF4.out
      clear HF4 hFF
      have Ht4 : Hid (Dg.Tab w4) := HF.out w4 HE4.out.bel
      go_upto_region 18 with fail
      have HS4 : (fun W : World => W.cell? ⟨bx, 0, none⟩ = some (.int .i64 op) ∧ W.cell? ⟨bx, 1, none⟩ = some (.int .i64 a) ∧ W.cell? ⟨bx, 2, none⟩ = some (.int .i64 b) ∧ W.cell? ⟨bx, 3, none⟩ = some (.int .i64 c) ∧ W.cell? ⟨bx, 4, none⟩ = some (.int .i64 x)) w4.drew := ⟨HK4.out.cell 0, HK4.out.cell 1, HK4.out.cell 2, HK4.out.cell 3, HK4.out.cell 4⟩
      refine Pb.wp_region_U ((fun _ => true)) (fun W : World => W.cell? ⟨bx, 0, none⟩ = some (.int .i64 op) ∧ W.cell? ⟨bx, 1, none⟩ = some (.int .i64 a) ∧ W.cell? ⟨bx, 2, none⟩ = some (.int .i64 b) ∧ W.cell? ⟨bx, 3, none⟩ = some (.int .i64 c) ∧ W.cell? ⟨bx, 4, none⟩ = some (.int .i64 x)) (by kernel_rfl) ?_
      change Pb.wpU _ _ _ _ _ _ 13 #[false, false, false, false, false, false, false, false, false, false, false, false, false] _ _
      refine Pb.U_take (i := 0) (oi := { dst := some 106, op := .load 42 (.tmp 9), type := 42, pos := "law.go:48", after := #[], guard := none }) (v := .agg #[.int .i64 op, .int .i64 a, .int .i64 b, .int .i64 c, .int .i64 x]) rfl (by kernel_rfl) (by kernel_rfl) (by kernel_rfl) (by kernel_rfl) (fun _ _ _ h => h) (Or.inl ⟨by rfl, ?_⟩) (by assumption) ?_
      · intro W hSw; (try dsimp only at hSw); go_simp
      simp only [Act.put, List.setIfInBounds_toArray, List.set_cons_zero, List.set_cons_succ]
      refine Pb.U_take (i := 2) (oi := { dst := some 108, op := .move (.tmp 10), type := 9, pos := "law.go:48", after := #[], guard := none }) (v := .string tx) rfl (by kernel_rfl) (by kernel_rfl) (by kernel_rfl) (by kernel_rfl) (fun _ _ _ h => h) (Or.inl ⟨by rfl, ?_⟩) (by assumption) ?_
      · intro W hSw; (try dsimp only at hSw); go_simp
      simp only [Act.put, List.setIfInBounds_toArray, List.set_cons_zero, List.set_cons_succ]
      refine Pb.U_ready (rs := [1]) (by kernel_rfl) (by simp) ?_
      refine Pb.AllReadyU.cons rfl (fun K hK => ?_) Pb.AllReadyU.nil
      go_simp
      refine (text_any ⟨op, a, b, c, x⟩ Dg.numB w4.drew (args_small HI4.out) (args_itoa HI4.out Ht4.out)).mono ?_
      rintro e w8 ⟨rfl, hb8⟩
      rw [Hj.out]
      have hb8' : Below w4.heap.size w4 w8 := ⟨hb8.os, hb8.tape, hb8.output, hb8.size, hb8.block⟩
      have HK8 := Lib.hid (HK4.out.below hb8' HK4.out.lt)
      have HS8' : (fun W : World => W.cell? ⟨bx, 0, none⟩ = some (.int .i64 op) ∧ W.cell? ⟨bx, 1, none⟩ = some (.int .i64 a) ∧ W.cell? ⟨bx, 2, none⟩ = some (.int .i64 b) ∧ W.cell? ⟨bx, 3, none⟩ = some (.int .i64 c) ∧ W.cell? ⟨bx, 4, none⟩ = some (.int .i64 x)) w8 := ⟨HK8.out.cell 0, HK8.out.cell 1, HK8.out.cell 2, HK8.out.cell 3, HK8.out.cell 4⟩
      have HE8 := Lib.hid (HE4.out.go (hb8'.mono (Nat.le_of_lt HSz4.out)))
      have HI8 := Lib.hid (HI4'.out.below hb8')
      have HS8 : Hid (nb + 1 < w8.heap.size) := Nat.lt_of_lt_of_le HSz4.out hb8'.size
      have HF8 : Hid (∀ k, F2 k → nb + 1 ≤ k ∧ k < w8.heap.size) := fun k hk => ⟨(HF5.out k hk).1, Nat.lt_of_lt_of_le (HF5.out k hk).2 hb8'.size⟩
      have HA8 : Hid (IntsAt w8 w8.heap.size A1 (usesL ⟨op, a, b, c, x⟩).length (fun k => (usesL ⟨op, a, b, c, x⟩).getD k 0)) := (HA4.out.below hb8').up hb8'.size
      have HC8 : Hid (IntsAt w8 w8.heap.size A2 (outsL ⟨op, a, b, c, x⟩).length (fun k => (outsL ⟨op, a, b, c, x⟩).getD k 0)) := (HC4.out.below hb8').up hb8'.size
      clear hb8 hb8' HS4 HE4 HI4' HSz4 HF5 HA4 HC4 HK4 Ht4
      refine hK.out _ _ (fun _ => HS8') ?_
      clear hK K
      simp only [Act.put, List.setIfInBounds_toArray, List.set_cons_zero, List.set_cons_succ]
      refine Pb.U_take (i := 3) (oi := { dst := some 109, op := .binOp BinOp.neq 9 (.tmp 107) (.tmp 108) 9, type := 4, pos := "law.go:48", after := #[{ on := 1, ground := .data }, { on := 2, ground := .data }], guard := none }) (v := .bool false) rfl (by kernel_rfl) (by kernel_rfl) (by kernel_rfl) (by kernel_rfl) (fun _ _ _ h => h) (Or.inl ⟨by rfl, ?_⟩) (by assumption) ?_
      · intro W hSw; (try dsimp only at hSw); go_simp
      simp only [Act.put, List.setIfInBounds_toArray, List.set_cons_zero, List.set_cons_succ]
      refine Pb.U_take (i := 4) (oi := { dst := some 110, op := .move (.tmp 109), type := 4, pos := "law.go:48", after := #[{ on := 3, ground := .data }, { on := 1, ground := .chain }], guard := none }) (v := .bool false) rfl (by kernel_rfl) (by kernel_rfl) (by kernel_rfl) (by kernel_rfl) (fun _ _ _ h => h) (Or.inl ⟨by rfl, ?_⟩) (by assumption) ?_
      · intro W hSw; (try dsimp only at hSw); go_simp
      simp only [Act.put, List.setIfInBounds_toArray, List.set_cons_zero, List.set_cons_succ]
      refine Pb.U_take (i := 5) (oi := { dst := some 111, op := .fieldAddr 42 (.tmp 9) 0, type := 0, pos := "law.go:48", after := #[{ on := 4, ground := .guard }], guard := some (4, false) }) (v := .pointer (some ⟨bx, 0, none⟩)) rfl (by kernel_rfl) (by kernel_rfl) (by kernel_rfl) (by kernel_rfl) (fun _ _ _ h => h) (Or.inl ⟨by rfl, ?_⟩) (by assumption) ?_
      · intro W hSw; (try dsimp only at hSw); go_simp
      simp only [Act.put, List.setIfInBounds_toArray, List.set_cons_zero, List.set_cons_succ]
      refine Pb.U_take (i := 6) (oi := { dst := some 112, op := .load 3 (.tmp 111), type := 3, pos := "law.go:48", after := #[{ on := 5, ground := .data }, { on := 4, ground := .guard }], guard := some (4, false) }) (v := .int .i64 op) rfl (by kernel_rfl) (by kernel_rfl) (by kernel_rfl) (by kernel_rfl) (fun _ _ _ h => h) (Or.inl ⟨by rfl, ?_⟩) (by assumption) ?_
      · intro W hSw; (try dsimp only at hSw); go_simp
      simp only [Act.put, List.setIfInBounds_toArray, List.set_cons_zero, List.set_cons_succ]
      refine Pb.U_take (i := 8) (oi := { dst := some 114, op := .fieldAddr 42 (.tmp 9) 0, type := 0, pos := "law.go:48", after := #[{ on := 4, ground := .guard }], guard := some (4, false) }) (v := .pointer (some ⟨bx, 0, none⟩)) rfl (by kernel_rfl) (by kernel_rfl) (by kernel_rfl) (by kernel_rfl) (fun _ _ _ h => h) (Or.inl ⟨by rfl, ?_⟩) (by assumption) ?_
      · intro W hSw; (try dsimp only at hSw); go_simp
      simp only [Act.put, List.setIfInBounds_toArray, List.set_cons_zero, List.set_cons_succ]
      refine Pb.U_take (i := 9) (oi := { dst := some 115, op := .load 3 (.tmp 114), type := 3, pos := "law.go:48", after := #[{ on := 8, ground := .data }, { on := 4, ground := .guard }], guard := some (4, false) }) (v := .int .i64 op) rfl (by kernel_rfl) (by kernel_rfl) (by kernel_rfl) (by kernel_rfl) (fun _ _ _ h => h) (Or.inl ⟨by rfl, ?_⟩) (by assumption) ?_
      · intro W hSw; (try dsimp only at hSw); go_simp
      simp only [Act.put, List.setIfInBounds_toArray, List.set_cons_zero, List.set_cons_succ]
      refine Pb.U_ready (rs := [7]) (by kernel_rfl) (by simp) ?_
      refine Pb.AllReadyU.cons rfl (fun K hK => ?_) Pb.AllReadyU.nil
      go_simp
      refine (gives_any op w8).mono ?_
      rintro e w' ⟨rfl, rfl⟩
      refine hK.out _ _ (fun _ => HS8') ?_
      clear hK K
      simp only [Act.put, List.setIfInBounds_toArray, List.set_cons_zero, List.set_cons_succ]
      refine Pb.U_ready (rs := [10]) (by kernel_rfl) (by simp) ?_
      refine Pb.AllReadyU.cons rfl (fun K hK => ?_) Pb.AllReadyU.nil
      go_simp
      refine (rgives_any op w8).mono ?_
      rintro e w' ⟨rfl, rfl⟩
      refine hK.out _ _ (fun _ => HS8') ?_
      clear hK K
      simp only [Act.put, List.setIfInBounds_toArray, List.set_cons_zero, List.set_cons_succ]
      refine Pb.U_take (i := 11) (oi := { dst := some 117, op := .binOp BinOp.neq 4 (.tmp 113) (.tmp 116) 4, type := 4, pos := "law.go:48", after := #[{ on := 7, ground := .data }, { on := 10, ground := .data }, { on := 4, ground := .guard }], guard := some (4, false) }) (v := .bool false) rfl (by kernel_rfl) (by kernel_rfl) (by kernel_rfl) (by kernel_rfl) (fun _ _ _ h => h) (Or.inl ⟨by rfl, ?_⟩) (by assumption) ?_
      · intro W hSw; (try dsimp only at hSw); go_simp
      simp only [Act.put, List.setIfInBounds_toArray, List.set_cons_zero, List.set_cons_succ]
      refine Pb.U_take (i := 12) (oi := { dst := some 118, op := .pick (.tmp 110) (.const (Value.bool true)) (.tmp 117), type := 4, pos := "law.go:48", after := #[{ on := 4, ground := .data }, { on := 11, ground := .data }], guard := none }) (v := .bool false) rfl (by kernel_rfl) (by kernel_rfl) (by kernel_rfl) (by kernel_rfl) (fun _ _ _ h => h) (Or.inl ⟨by rfl, ?_⟩) (by assumption) ?_
      · intro W hSw; (try dsimp only at hSw); go_simp
      simp only [Act.put, List.setIfInBounds_toArray, List.set_cons_zero, List.set_cons_succ]
      refine Pb.U_done (by kernel_rfl) ?_ _
      clear HS8'
      go_upto_region 20 with fail
      have q0 : w8.cell? ⟨bx, 0, none⟩ = some (.int .i64 op) := HK8.out.cell 0
      have q1 : w8.cell? ⟨bx, 1, none⟩ = some (.int .i64 a) := HK8.out.cell 1
      by_cases h4 : op = 4
      case neg =>
        have h4' : (op == 4) = false := by simpa using h4
        go_upto_region 21 with fail
        clear q0 q1
        have q0 : w8.cell? ⟨bx, 0, none⟩ = some (.int .i64 op) := HK8.out.cell 0
        have q0 : w8.cell? ⟨bx, 0, none⟩ = some (.int .i64 op) := HK8.out.cell 0
        have q1 : w8.cell? ⟨bx, 1, none⟩ = some (.int .i64 a) := HK8.out.cell 1
        have q2 : w8.cell? ⟨bx, 2, none⟩ = some (.int .i64 b) := HK8.out.cell 2
        have q3 : w8.cell? ⟨bx, 3, none⟩ = some (.int .i64 c) := HK8.out.cell 3
        have q4 : w8.cell? ⟨bx, 4, none⟩ = some (.int .i64 x) := HK8.out.cell 4
        go_wp2_with fail
        refine (ruses_any ⟨op, a, b, c, x⟩ w8).mono ?_
        rintro e w9 ⟨A3, c3, rfl, ha3, hb9⟩
        have HE9 := Lib.hid (HE8.out.go (hb9.mono (Nat.le_of_lt HS8.out)))
        have HI9 := Lib.hid (HI8.out.below hb9)
        have HK9 := Lib.hid (HK8.out.below hb9 HK8.out.lt)
        have HA9 := Lib.hid (HA8.out.below hb9)
        have HC9 := Lib.hid (HC8.out.below hb9)
        have HS9 : Hid (nb + 1 < w9.heap.size) := Nat.lt_of_lt_of_le HS8.out hb9.size
        have HF9 : Hid (∀ k, F2 k → nb + 1 ≤ k ∧ k < w9.heap.size) := fun k hk => ⟨(HF8.out k hk).1, Nat.lt_of_lt_of_le (HF8.out k hk).2 hb9.size⟩
        have Hl9 : Hid (w8.heap.size ≤ w9.heap.size) := hb9.size
        have HA3 := Lib.hid ha3
        clear ha3 hb9 q0 q1 q2 q3 q4
        go_wp2_with fail
        refine (same_ints A1 A3 _ _ c1 c3 _ _ w8.heap.size w9.heap.size true w9 HA9.out HA3.out HUf.out HUf.out ⟨fun _ => ⟨rfl, fun _ _ => rfl⟩, fun _ => rfl⟩).mono ?_
        rintro e w' ⟨rfl, q, rfl⟩
        have HE10 := Lib.hid (HE9.out.go (below_of_draw (Below.refl (nb + 1) w9) q))
        have HI10 : Hid (BkI.Is (w9.drewN q) (nb + 1) (nb + 1) F2) := HI9.out.below (below_of_draw (Below.refl _ w9) q)
        have HK10 := Lib.hid (HK9.out.drewN q)
        have HC10 : Hid (IntsAt (w9.drewN q) w8.heap.size A2 (outsL ⟨op, a, b, c, x⟩).length (fun k => (outsL ⟨op, a, b, c, x⟩).getD k 0)) := HC9.out.below (below_of_draw (Below.refl _ w9) q)
        have HS10 : Hid (nb + 1 < (w9.drewN q).heap.size) := HS9.out
        have HF10 : Hid (∀ k, F2 k → nb + 1 ≤ k ∧ k < (w9.drewN q).heap.size) := HF9.out
        have Hl10 : Hid (w8.heap.size ≤ (w9.drewN q).heap.size) := Hl9.out
        clear HE9 HI9 HK9 HA9 HC9 HS9 HF9 HA3 Hl9
        generalize w9.drewN q = w10 at *
        have q0 : w10.cell? ⟨bx, 0, none⟩ = some (.int .i64 op) := HK10.out.cell 0
        have q1 : w10.cell? ⟨bx, 1, none⟩ = some (.int .i64 a) := HK10.out.cell 1
        have q2 : w10.cell? ⟨bx, 2, none⟩ = some (.int .i64 b) := HK10.out.cell 2
        have q3 : w10.cell? ⟨bx, 3, none⟩ = some (.int .i64 c) := HK10.out.cell 3
        have q4 : w10.cell? ⟨bx, 4, none⟩ = some (.int .i64 x) := HK10.out.cell 4
        go_wp2_with fail
        refine (routs_any ⟨op, a, b, c, x⟩ w10).mono ?_
        rintro e w11 ⟨A4, c4, rfl, ha4, hb11⟩
        have HE11 := Lib.hid (HE10.out.go (hb11.mono (Nat.le_of_lt HS10.out)))
        have HI11 := Lib.hid (HI10.out.below hb11)
        have HC11 := Lib.hid (HC10.out.below (hb11.mono Hl10.out))
        have HS11 : Hid (nb + 1 < w11.heap.size) := Nat.lt_of_lt_of_le HS10.out hb11.size
        have HF11 : Hid (∀ k, F2 k → nb + 1 ≤ k ∧ k < w11.heap.size) := fun k hk => ⟨(HF10.out k hk).1, Nat.lt_of_lt_of_le (HF10.out k hk).2 hb11.size⟩
        have HA4 := Lib.hid ha4
        clear ha4 hb11 q0 q1 q2 q3 q4 HK10 HC10 HE10 HI10 HS10 HF10
        go_wp2_with fail
        refine (same_ints A2 A4 _ _ c2 c4 _ _ w8.heap.size w11.heap.size true w11 HC11.out HA4.out HOf.out HOf.out ⟨fun _ => ⟨rfl, fun _ _ => rfl⟩, fun _ => rfl⟩).mono ?_
        rintro e w' ⟨rfl, q, rfl⟩
        have HE12 := Lib.hid (HE11.out.go (below_of_draw (Below.refl (nb + 1) w11) q))
        have HI12 : Hid (BkI.Is (w11.drewN q) (nb + 1) (nb + 1) F2) := HI11.out.below (below_of_draw (Below.refl _ w11) q)
        have HS12 : Hid (nb + 1 < (w11.drewN q).heap.size) := HS11.out
        have HF12 : Hid (∀ k, F2 k → nb + 1 ≤ k ∧ k < (w11.drewN q).heap.size) := HF11.out
        clear HE11 HI11 HC11 HS11 HF11 HA4
        generalize w11.drewN q = w12 at *
        go_wp2_with fail
        go_roundg (T.ni - (j + 1))
        case rel => exact ⟨j + 1, F2, rfl, by go_num, by omega, HI12.out, HF12.out, HE12.out, HS12.out⟩
        case measure => have := Hg.out; omega
      have h4' : (op == 4) = true := by simpa using h4
      clear h4
      by_cases h2 : isTwo a = true
      case pos =>
        have H2 := Lib.hid h2
        clear h2
        go_wp2_with fail
        refine (isTwo_any a w8).mono ?_
        rintro e w' ⟨rfl, rfl⟩
        rw [H2.out]
        go_upto_region 21 with fail
        clear q0 q1
        have q0 : w8.cell? ⟨bx, 0, none⟩ = some (.int .i64 op) := HK8.out.cell 0
        have q0 : w8.cell? ⟨bx, 0, none⟩ = some (.int .i64 op) := HK8.out.cell 0
        have q1 : w8.cell? ⟨bx, 1, none⟩ = some (.int .i64 a) := HK8.out.cell 1
        have q2 : w8.cell? ⟨bx, 2, none⟩ = some (.int .i64 b) := HK8.out.cell 2
        have q3 : w8.cell? ⟨bx, 3, none⟩ = some (.int .i64 c) := HK8.out.cell 3
        have q4 : w8.cell? ⟨bx, 4, none⟩ = some (.int .i64 x) := HK8.out.cell 4
        go_wp2_with fail
        refine (ruses_any ⟨op, a, b, c, x⟩ w8).mono ?_
        rintro e w9 ⟨A3, c3, rfl, ha3, hb9⟩
        have HE9 := Lib.hid (HE8.out.go (hb9.mono (Nat.le_of_lt HS8.out)))
        have HI9 := Lib.hid (HI8.out.below hb9)
        have HK9 := Lib.hid (HK8.out.below hb9 HK8.out.lt)
        have HA9 := Lib.hid (HA8.out.below hb9)
        have HC9 := Lib.hid (HC8.out.below hb9)
        have HS9 : Hid (nb + 1 < w9.heap.size) := Nat.lt_of_lt_of_le HS8.out hb9.size
        have HF9 : Hid (∀ k, F2 k → nb + 1 ≤ k ∧ k < w9.heap.size) := fun k hk => ⟨(HF8.out k hk).1, Nat.lt_of_lt_of_le (HF8.out k hk).2 hb9.size⟩
        have Hl9 : Hid (w8.heap.size ≤ w9.heap.size) := hb9.size
        have HA3 := Lib.hid ha3
        clear ha3 hb9 q0 q1 q2 q3 q4
        go_wp2_with fail
        refine (same_ints A1 A3 _ _ c1 c3 _ _ w8.heap.size w9.heap.size true w9 HA9.out HA3.out HUf.out HUf.out ⟨fun _ => ⟨rfl, fun _ _ => rfl⟩, fun _ => rfl⟩).mono ?_
        rintro e w' ⟨rfl, q, rfl⟩
        have HE10 := Lib.hid (HE9.out.go (below_of_draw (Below.refl (nb + 1) w9) q))
        have HI10 : Hid (BkI.Is (w9.drewN q) (nb + 1) (nb + 1) F2) := HI9.out.below (below_of_draw (Below.refl _ w9) q)
        have HK10 := Lib.hid (HK9.out.drewN q)
        have HC10 : Hid (IntsAt (w9.drewN q) w8.heap.size A2 (outsL ⟨op, a, b, c, x⟩).length (fun k => (outsL ⟨op, a, b, c, x⟩).getD k 0)) := HC9.out.below (below_of_draw (Below.refl _ w9) q)
        have HS10 : Hid (nb + 1 < (w9.drewN q).heap.size) := HS9.out
        have HF10 : Hid (∀ k, F2 k → nb + 1 ≤ k ∧ k < (w9.drewN q).heap.size) := HF9.out
        have Hl10 : Hid (w8.heap.size ≤ (w9.drewN q).heap.size) := Hl9.out
        clear HE9 HI9 HK9 HA9 HC9 HS9 HF9 HA3 Hl9
        generalize w9.drewN q = w10 at *
        have q0 : w10.cell? ⟨bx, 0, none⟩ = some (.int .i64 op) := HK10.out.cell 0
        have q1 : w10.cell? ⟨bx, 1, none⟩ = some (.int .i64 a) := HK10.out.cell 1
        have q2 : w10.cell? ⟨bx, 2, none⟩ = some (.int .i64 b) := HK10.out.cell 2
        have q3 : w10.cell? ⟨bx, 3, none⟩ = some (.int .i64 c) := HK10.out.cell 3
        have q4 : w10.cell? ⟨bx, 4, none⟩ = some (.int .i64 x) := HK10.out.cell 4
        go_wp2_with fail
        refine (routs_any ⟨op, a, b, c, x⟩ w10).mono ?_
        rintro e w11 ⟨A4, c4, rfl, ha4, hb11⟩
        have HE11 := Lib.hid (HE10.out.go (hb11.mono (Nat.le_of_lt HS10.out)))
        have HI11 := Lib.hid (HI10.out.below hb11)
        have HC11 := Lib.hid (HC10.out.below (hb11.mono Hl10.out))
        have HS11 : Hid (nb + 1 < w11.heap.size) := Nat.lt_of_lt_of_le HS10.out hb11.size
        have HF11 : Hid (∀ k, F2 k → nb + 1 ≤ k ∧ k < w11.heap.size) := fun k hk => ⟨(HF10.out k hk).1, Nat.lt_of_lt_of_le (HF10.out k hk).2 hb11.size⟩
        have HA4 := Lib.hid ha4
        clear ha4 hb11 q0 q1 q2 q3 q4 HK10 HC10 HE10 HI10 HS10 HF10
        go_wp2_with fail
        refine (same_ints A2 A4 _ _ c2 c4 _ _ w8.heap.size w11.heap.size true w11 HC11.out HA4.out HOf.out HOf.out ⟨fun _ => ⟨rfl, fun _ _ => rfl⟩, fun _ => rfl⟩).mono ?_
        rintro e w' ⟨rfl, q, rfl⟩
        have HE12 := Lib.hid (HE11.out.go (below_of_draw (Below.refl (nb + 1) w11) q))
        have HI12 : Hid (BkI.Is (w11.drewN q) (nb + 1) (nb + 1) F2) := HI11.out.below (below_of_draw (Below.refl _ w11) q)
        have HS12 : Hid (nb + 1 < (w11.drewN q).heap.size) := HS11.out
        have HF12 : Hid (∀ k, F2 k → nb + 1 ≤ k ∧ k < (w11.drewN q).heap.size) := HF11.out
        clear HE11 HI11 HC11 HS11 HF11 HA4
        generalize w11.drewN q = w12 at *
        go_wp2_with fail
        go_roundg (T.ni - (j + 1))
        case rel => exact ⟨j + 1, F2, rfl, by go_num, by omega, HI12.out, HF12.out, HE12.out, HS12.out⟩
        case measure => have := Hg.out; omega
      have h2' : isTwo a = false := by simpa using h2
      have H2 := Lib.hid h2'
      clear h2 h2'
      by_cases h1 : isOne a = true
      case pos =>
        have H1 := Lib.hid h1
        clear h1
        go_wp2_with fail
        refine (isTwo_any a w8).mono ?_
        rintro e w' ⟨rfl, rfl⟩
        rw [H2.out]
        go_wp2_with fail
        refine (isOne_any a w8).mono ?_
        rintro e w' ⟨rfl, rfl⟩
        rw [H1.out]
        go_upto_region 21 with fail
        clear q0 q1
        have q0 : w8.cell? ⟨bx, 0, none⟩ = some (.int .i64 op) := HK8.out.cell 0
        have q0 : w8.cell? ⟨bx, 0, none⟩ = some (.int .i64 op) := HK8.out.cell 0
        have q1 : w8.cell? ⟨bx, 1, none⟩ = some (.int .i64 a) := HK8.out.cell 1
        have q2 : w8.cell? ⟨bx, 2, none⟩ = some (.int .i64 b) := HK8.out.cell 2
        have q3 : w8.cell? ⟨bx, 3, none⟩ = some (.int .i64 c) := HK8.out.cell 3
        have q4 : w8.cell? ⟨bx, 4, none⟩ = some (.int .i64 x) := HK8.out.cell 4
        go_wp2_with fail
        refine (ruses_any ⟨op, a, b, c, x⟩ w8).mono ?_
        rintro e w9 ⟨A3, c3, rfl, ha3, hb9⟩
        have HE9 := Lib.hid (HE8.out.go (hb9.mono (Nat.le_of_lt HS8.out)))
        have HI9 := Lib.hid (HI8.out.below hb9)
        have HK9 := Lib.hid (HK8.out.below hb9 HK8.out.lt)
        have HA9 := Lib.hid (HA8.out.below hb9)
        have HC9 := Lib.hid (HC8.out.below hb9)
        have HS9 : Hid (nb + 1 < w9.heap.size) := Nat.lt_of_lt_of_le HS8.out hb9.size
        have HF9 : Hid (∀ k, F2 k → nb + 1 ≤ k ∧ k < w9.heap.size) := fun k hk => ⟨(HF8.out k hk).1, Nat.lt_of_lt_of_le (HF8.out k hk).2 hb9.size⟩
        have Hl9 : Hid (w8.heap.size ≤ w9.heap.size) := hb9.size
        have HA3 := Lib.hid ha3
        clear ha3 hb9 q0 q1 q2 q3 q4
        go_wp2_with fail
        refine (same_ints A1 A3 _ _ c1 c3 _ _ w8.heap.size w9.heap.size true w9 HA9.out HA3.out HUf.out HUf.out ⟨fun _ => ⟨rfl, fun _ _ => rfl⟩, fun _ => rfl⟩).mono ?_
        rintro e w' ⟨rfl, q, rfl⟩
        have HE10 := Lib.hid (HE9.out.go (below_of_draw (Below.refl (nb + 1) w9) q))
        have HI10 : Hid (BkI.Is (w9.drewN q) (nb + 1) (nb + 1) F2) := HI9.out.below (below_of_draw (Below.refl _ w9) q)
        have HK10 := Lib.hid (HK9.out.drewN q)
        have HC10 : Hid (IntsAt (w9.drewN q) w8.heap.size A2 (outsL ⟨op, a, b, c, x⟩).length (fun k => (outsL ⟨op, a, b, c, x⟩).getD k 0)) := HC9.out.below (below_of_draw (Below.refl _ w9) q)
        have HS10 : Hid (nb + 1 < (w9.drewN q).heap.size) := HS9.out
        have HF10 : Hid (∀ k, F2 k → nb + 1 ≤ k ∧ k < (w9.drewN q).heap.size) := HF9.out
        have Hl10 : Hid (w8.heap.size ≤ (w9.drewN q).heap.size) := Hl9.out
        clear HE9 HI9 HK9 HA9 HC9 HS9 HF9 HA3 Hl9
        generalize w9.drewN q = w10 at *
        have q0 : w10.cell? ⟨bx, 0, none⟩ = some (.int .i64 op) := HK10.out.cell 0
        have q1 : w10.cell? ⟨bx, 1, none⟩ = some (.int .i64 a) := HK10.out.cell 1
        have q2 : w10.cell? ⟨bx, 2, none⟩ = some (.int .i64 b) := HK10.out.cell 2
        have q3 : w10.cell? ⟨bx, 3, none⟩ = some (.int .i64 c) := HK10.out.cell 3
        have q4 : w10.cell? ⟨bx, 4, none⟩ = some (.int .i64 x) := HK10.out.cell 4
        go_wp2_with fail
        refine (routs_any ⟨op, a, b, c, x⟩ w10).mono ?_
        rintro e w11 ⟨A4, c4, rfl, ha4, hb11⟩
        have HE11 := Lib.hid (HE10.out.go (hb11.mono (Nat.le_of_lt HS10.out)))
        have HI11 := Lib.hid (HI10.out.below hb11)
        have HC11 := Lib.hid (HC10.out.below (hb11.mono Hl10.out))
        have HS11 : Hid (nb + 1 < w11.heap.size) := Nat.lt_of_lt_of_le HS10.out hb11.size
        have HF11 : Hid (∀ k, F2 k → nb + 1 ≤ k ∧ k < w11.heap.size) := fun k hk => ⟨(HF10.out k hk).1, Nat.lt_of_lt_of_le (HF10.out k hk).2 hb11.size⟩
        have HA4 := Lib.hid ha4
        clear ha4 hb11 q0 q1 q2 q3 q4 HK10 HC10 HE10 HI10 HS10 HF10
        go_wp2_with fail
        refine (same_ints A2 A4 _ _ c2 c4 _ _ w8.heap.size w11.heap.size true w11 HC11.out HA4.out HOf.out HOf.out ⟨fun _ => ⟨rfl, fun _ _ => rfl⟩, fun _ => rfl⟩).mono ?_
        rintro e w' ⟨rfl, q, rfl⟩
        have HE12 := Lib.hid (HE11.out.go (below_of_draw (Below.refl (nb + 1) w11) q))
        have HI12 : Hid (BkI.Is (w11.drewN q) (nb + 1) (nb + 1) F2) := HI11.out.below (below_of_draw (Below.refl _ w11) q)
        have HS12 : Hid (nb + 1 < (w11.drewN q).heap.size) := HS11.out
        have HF12 : Hid (∀ k, F2 k → nb + 1 ≤ k ∧ k < (w11.drewN q).heap.size) := HF11.out
        clear HE11 HI11 HC11 HS11 HF11 HA4
        generalize w11.drewN q = w12 at *
        go_wp2_with fail
        go_roundg (T.ni - (j + 1))
        case rel => exact ⟨j + 1, F2, rfl, by go_num, by omega, HI12.out, HF12.out, HE12.out, HS12.out⟩
        case measure => have := Hg.out; omega
      have h1' : isOne a = false := by simpa using h1
      have H1 := Lib.hid h1'
      clear h1 h1'
      go_wp2_with fail
      refine (isTwo_any a w8).mono ?_
      rintro e w' ⟨rfl, rfl⟩
      rw [H2.out]
      go_wp2_with fail
      refine (isOne_any a w8).mono ?_
      rintro e w' ⟨rfl, rfl⟩
      rw [H1.out]
      go_wp2_with fail
      go_roundg (T.ni - (j + 1))
      case rel => exact ⟨j + 1, F2, rfl, by go_num, by omega, HI8.out, HF8.out, HE8.out, HS8.out⟩
      case measure => have := Hg.out; omega
    case neg =>
      have Hj : Hid (textV ⟨op, a, b, c, x⟩ Dg.numB = ⟨#[]⟩) := by
        refine Lib.hid ?_
        unfold textV
        exact if_neg hop
      have ho : op < 1 ∨ 12 < op := by omega
      have p0 : wb.cell? ⟨bx, 0, none⟩ = some (.int .i64 op) := HKb.out.cell 0
      generalize hemp : (⟨#[]⟩ : ByteArray) = tx at Hj
      rcases ho with ho | ho
      · have r1 : ¬ (1 : Int) ≤ op := by omega
        have HEc := HEb
        have HIc := HIb
        have HKc := HKb
        have HSc := HSb
        have HZc := HZb
        go_upto_region 15 with fail
        clear HEb HIb HKb HSb HZb r1 p0
        generalize wb = wc at *
        clear hemp
        have HS0 : (fun W : World => W.cell? ⟨bx, 0, none⟩ = some (.int .i64 op) ∧ W.cell? ⟨bx, 1, none⟩ = some (.int .i64 a) ∧ W.cell? ⟨bx, 2, none⟩ = some (.int .i64 b) ∧ W.cell? ⟨bx, 3, none⟩ = some (.int .i64 c) ∧ W.cell? ⟨bx, 4, none⟩ = some (.int .i64 x)) wc.drew := ⟨HKc.out.cell 0, HKc.out.cell 1, HKc.out.cell 2, HKc.out.cell 3, HKc.out.cell 4⟩
        refine Pb.wp_region_U ((fun _ => true)) (fun W : World => W.cell? ⟨bx, 0, none⟩ = some (.int .i64 op) ∧ W.cell? ⟨bx, 1, none⟩ = some (.int .i64 a) ∧ W.cell? ⟨bx, 2, none⟩ = some (.int .i64 b) ∧ W.cell? ⟨bx, 3, none⟩ = some (.int .i64 c) ∧ W.cell? ⟨bx, 4, none⟩ = some (.int .i64 x)) (by kernel_rfl) ?_
        change Pb.wpU _ _ _ _ _ _ 6 #[false, false, false, false, false, false] _ _
        refine Pb.U_take (i := 0) (oi := { dst := some 96, op := .load 42 (.tmp 9), type := 42, pos := "law.go:45", after := #[], guard := none }) (v := .agg #[.int .i64 op, .int .i64 a, .int .i64 b, .int .i64 c, .int .i64 x]) rfl (by kernel_rfl) (by kernel_rfl) (by kernel_rfl) (by kernel_rfl) (fun _ _ _ h => h) (Or.inl ⟨by rfl, ?_⟩) (by assumption) ?_
        · intro W hSw; (try dsimp only at hSw); go_simp
        simp only [Act.put, List.setIfInBounds_toArray, List.set_cons_zero, List.set_cons_succ]
        refine Pb.U_take (i := 2) (oi := { dst := some 98, op := .load 42 (.tmp 9), type := 42, pos := "law.go:45", after := #[], guard := none }) (v := .agg #[.int .i64 op, .int .i64 a, .int .i64 b, .int .i64 c, .int .i64 x]) rfl (by kernel_rfl) (by kernel_rfl) (by kernel_rfl) (by kernel_rfl) (fun _ _ _ h => h) (Or.inl ⟨by rfl, ?_⟩) (by assumption) ?_
        · intro W hSw; (try dsimp only at hSw); go_simp
        simp only [Act.put, List.setIfInBounds_toArray, List.set_cons_zero, List.set_cons_succ]
        refine Pb.U_ready (rs := [1]) (by kernel_rfl) (by simp) ?_
        refine Pb.AllReadyU.cons rfl (fun K hK => ?_) Pb.AllReadyU.nil
        go_simp
        refine (uses_own ⟨op, a, b, c, x⟩ wc.drew).mono ?_
        rintro e w1 ⟨A1, c1, rfl, ha1, hb1⟩
        have hb1' : Below wc.heap.size wc w1 := ⟨hb1.os, hb1.tape, hb1.output, hb1.size, hb1.block⟩
        have HK1 := Lib.hid (HKc.out.below hb1' HKc.out.lt)
        have HS1 : (fun W : World => W.cell? ⟨bx, 0, none⟩ = some (.int .i64 op) ∧ W.cell? ⟨bx, 1, none⟩ = some (.int .i64 a) ∧ W.cell? ⟨bx, 2, none⟩ = some (.int .i64 b) ∧ W.cell? ⟨bx, 3, none⟩ = some (.int .i64 c) ∧ W.cell? ⟨bx, 4, none⟩ = some (.int .i64 x)) w1 := ⟨HK1.out.cell 0, HK1.out.cell 1, HK1.out.cell 2, HK1.out.cell 3, HK1.out.cell 4⟩
        have HA1 : Hid (w1.ownsRow wc.heap.size 3 1 (.slice A1 (usesL ⟨op, a, b, c, x⟩).length c1) (usesL ⟨op, a, b, c, x⟩).length ((usesL ⟨op, a, b, c, x⟩).map (Value.int .i64))) := ha1
        have HB1 := Lib.hid hb1'
        clear ha1 hb1 hb1' HS0
        refine hK.out _ _ (fun _ => HS1) ?_
        clear hK K
        simp only [Act.put, List.setIfInBounds_toArray, List.set_cons_zero, List.set_cons_succ]
        refine Pb.U_ready (rs := [3]) (by kernel_rfl) (by simp) ?_
        refine Pb.AllReadyU.cons rfl (fun K hK => ?_) Pb.AllReadyU.nil
        go_simp
        refine (outs_own ⟨op, a, b, c, x⟩ w1).mono ?_
        rintro e w2 ⟨A2, c2, rfl, ha2, hb2⟩
        have HK2 := Lib.hid (HK1.out.below hb2 HK1.out.lt)
        have HS2 : (fun W : World => W.cell? ⟨bx, 0, none⟩ = some (.int .i64 op) ∧ W.cell? ⟨bx, 1, none⟩ = some (.int .i64 a) ∧ W.cell? ⟨bx, 2, none⟩ = some (.int .i64 b) ∧ W.cell? ⟨bx, 3, none⟩ = some (.int .i64 c) ∧ W.cell? ⟨bx, 4, none⟩ = some (.int .i64 x)) w2 := ⟨HK2.out.cell 0, HK2.out.cell 1, HK2.out.cell 2, HK2.out.cell 3, HK2.out.cell 4⟩
        have HA2 := Lib.hid ha2
        have HB2 := Lib.hid (HB1.out.trans (hb2.mono HB1.out.size))
        have HA1b := Lib.hid (own_touch HA1.out (Touch.of_below hb2 (fun _ => False)) (fun _ _ h => h))
        have Hlt1 : Hid (∀ k, A1.map (·.block) = some k → wc.heap.size ≤ k ∧ k < w1.heap.size) := fun k hk => own_block HA1.out hk
        have Hlt2 : Hid (∀ k, A2.map (·.block) = some k → w1.heap.size ≤ k ∧ k < w2.heap.size) := fun k hk => own_block ha2 hk
        have Hsz1 : Hid (wc.heap.size ≤ w1.heap.size) := HB1.out.size
        have Hsz2 : Hid (w1.heap.size ≤ w2.heap.size) := hb2.size
        clear ha2 hb2 HS1 HA1 HK1 HB1
        refine hK.out _ _ (fun _ => HS2) ?_
        clear hK K
        simp only [Act.put, List.setIfInBounds_toArray, List.set_cons_zero, List.set_cons_succ]
        refine Pb.U_ready (rs := [4]) (by kernel_rfl) (by simp) ?_
        refine Pb.AllReadyU.cons rfl (fun K hK => ?_) Pb.AllReadyU.nil
        go_simp
        refine hK.out _ _ (fun _ => HS2) ?_
        clear hK K
        simp only [Act.put, List.setIfInBounds_toArray, List.set_cons_zero, List.set_cons_succ]
        refine Pb.U_ready (rs := [5]) (by kernel_rfl) (by simp) ?_
        refine Pb.AllReadyU.cons rfl (fun K hK => ?_) Pb.AllReadyU.nil
        go_simp
        refine hK.out _ _ (fun _ => HS2) ?_
        clear hK K
        simp only [Act.put, List.setIfInBounds_toArray, List.set_cons_zero, List.set_cons_succ]
        refine Pb.U_done (by kernel_rfl) ?_ _
        clear HS2
        have HE2 := Lib.hid (HEc.out.go (HB2.out.mono (Nat.le_of_lt HSc.out)))
        have HI2 := Lib.hid (HIc.out.below HB2.out)
        have HFc : Hid (∀ k, F k → k < bx) := fun k h => (HFl.out k h).2
        have HFo : Hid (∀ k, F k → nb + 1 ≤ k) := fun k h => (HFl.out k h).1
        have HSz2 : Hid (nb + 1 < w2.heap.size) := Nat.lt_of_lt_of_le HSc.out HB2.out.size
        have HU2 : Hid ((usesL ⟨op, a, b, c, x⟩).length ≤ 2) := uses_two _
        have HO2 : Hid ((outsL ⟨op, a, b, c, x⟩).length ≤ 2) := outs_few _
        have HUf : Hid ((usesL ⟨op, a, b, c, x⟩).length ≤ 300000) := by have := HU2.out; refine Lib.hid ?_; omega
        have HOf : Hid ((outsL ⟨op, a, b, c, x⟩).length ≤ 300000) := by have := HO2.out; refine Lib.hid ?_; omega
        have HA1c : Hid (Bk.Own w2 (nb + 1) 3 (.slice A1 (usesL ⟨op, a, b, c, x⟩).length c1) ((usesL ⟨op, a, b, c, x⟩).map (Value.int .i64))) := by
          refine Lib.hid ?_
          unfold Bk.Own
          rw [List.length_map]
          exact HA1b.out.mono (Nat.le_of_lt HSc.out)
        have HA2c : Hid (Bk.Own w2 (nb + 1) 3 (.slice A2 (outsL ⟨op, a, b, c, x⟩).length c2) ((outsL ⟨op, a, b, c, x⟩).map (Value.int .i64))) := by
          refine Lib.hid ?_
          unfold Bk.Own
          rw [List.length_map]
          exact HA2.out.mono (Nat.le_trans (Nat.le_of_lt HSc.out) Hsz1.out)
        clear HEc HIc HKc HFl HSc HB2 HA1b HA2
        go_wp2_with fail
        refine (BkI.keep_any (nb + 1) (nb + 1) F (.slice A1 (usesL ⟨op, a, b, c, x⟩).length c1) _ w2 HI2.out (Nat.le_of_lt HSz2.out) HA1c.out (by rw [List.length_map]; have := HU2.out; omega) (vals_ise _) (fun k hk hF => by have h1 := Hlt1.out k (block_of hk); have h2 := HFc.out k hF; have h3 := HZc.out; omega)).mono ?_
        rintro e w3 ⟨rfl, F1, hI3, hF3, hT3⟩
        have HA2d : Hid (Bk.Own w3 (nb + 1) 3 (.slice A2 (outsL ⟨op, a, b, c, x⟩).length c2) ((outsL ⟨op, a, b, c, x⟩).map (Value.int .i64))) := own_touch HA2c.out hT3 (fun k hk h => by have h1 := Hlt2.out k hk; have h2 := HFc.out k h.1; have h3 := HZc.out; have h4 := Hsz1.out; omega)
        have HA1d : Hid (Bk.Own w3 (nb + 1) 3 (.slice A1 (usesL ⟨op, a, b, c, x⟩).length c1) ((usesL ⟨op, a, b, c, x⟩).map (Value.int .i64))) := own_touch HA1c.out hT3 (fun k hk h => by have h1 := Hlt1.out k hk; have h2 := HFc.out k h.1; have h3 := HZc.out; omega)
        have HB3 : Hid (Below (nb + 1) w2 w3) := hT3.below (fun k h => HFo.out k h.1) (Nat.le_of_lt HSz2.out)
        have HK3 : Hid (Blk w3 bx 42 #[.int .i64 op, .int .i64 a, .int .i64 b, .int .i64 c, .int .i64 x]) := (hT3.block bx HK2.out.lt (fun h => by have h2 := HFc.out bx h.1; omega)).trans HK2.out
        have HE3 := Lib.hid (HE2.out.go HB3.out)
        have HI3 := Lib.hid (book_cut2 hI3)
        have HF3 : Hid (∀ k, F1 k ∧ nb + 1 ≤ k ∧ k < w3.heap.size → k < bx ∨ (Value.slice A1 (usesL ⟨op, a, b, c, x⟩).length c1).ownBlock = some k ∨ w2.heap.size ≤ k) := fun k hk => (hF3 k hk.1).imp (fun h => HFc.out k h) id
        have HSz3 : Hid (nb + 1 < w3.heap.size) := Nat.lt_of_lt_of_le HSz2.out hT3.size
        clear hI3 hF3 hT3 HE2 HI2 HK2 HA1c HA2c HB3 HFc
        go_wp2_with fail
        refine (BkI.keep_any (nb + 1) (nb + 1) (fun k => F1 k ∧ nb + 1 ≤ k ∧ k < w3.heap.size) (.slice A2 (outsL ⟨op, a, b, c, x⟩).length c2) _ w3 HI3.out (Nat.le_of_lt HSz3.out) HA2d.out (by rw [List.length_map]; have := HO2.out; omega) (vals_ise _) (fun k hk hF => by have h1 := Hlt2.out k (block_of hk); have h3 := HZc.out; have h4 := Hsz1.out; rcases HF3.out k hF with h | h | h; omega; (have h5 := Hlt1.out k (block_of h); omega); omega)).mono ?_
        rintro e w4 ⟨rfl, F2', hI4, hF4, hT4⟩
        have HA1e : Hid (Bk.Own w4 (nb + 1) 3 (.slice A1 (usesL ⟨op, a, b, c, x⟩).length c1) ((usesL ⟨op, a, b, c, x⟩).map (Value.int .i64))) := own_touch HA1d.out hT4 (fun k hk h => by obtain ⟨cs, hcs⟩ := own_blk HA1d.out hk; exact h.2 cs hcs)
        have HA2e : Hid (Bk.Own w4 (nb + 1) 3 (.slice A2 (outsL ⟨op, a, b, c, x⟩).length c2) ((outsL ⟨op, a, b, c, x⟩).map (Value.int .i64))) := own_touch HA2d.out hT4 (fun k hk h => by obtain ⟨cs, hcs⟩ := own_blk HA2d.out hk; exact h.2 cs hcs)
        have HB4 : Hid (Below (nb + 1) w3 w4) := hT4.below (fun k h => h.1.2.1) (Nat.le_of_lt HSz3.out)
        have HK4 : Hid (Blk w4 bx 42 #[.int .i64 op, .int .i64 a, .int .i64 b, .int .i64 c, .int .i64 x]) := (hT4.block bx HK3.out.lt (fun h => by have h3 := HZc.out; have h4 := Hsz1.out; have h5 := Hsz2.out; rcases HF3.out bx h.1 with h | h | h; omega; (have h6 := Hlt1.out bx (block_of h); omega); omega)).trans HK3.out
        have HE4 := Lib.hid (HE3.out.go HB4.out)
        have HI4' := Lib.hid (book_cut2 hI4)
        have HSz4 : Hid (nb + 1 < w4.heap.size) := Nat.lt_of_lt_of_le HSz3.out hT4.size
        have HF4 : Hid (∀ k, F2' k ∧ nb + 1 ≤ k ∧ k < w4.heap.size → nb + 1 ≤ k ∧ k < w4.heap.size) := fun k h => h.2
        have HA4 : Hid (IntsAt w4 w4.heap.size A1 (usesL ⟨op, a, b, c, x⟩).length (fun k => (usesL ⟨op, a, b, c, x⟩).getD k 0)) := GotOwn.ints (base := nb + 1) (c := c1) (by have h := HA1e.out; unfold Bk.Own at h; rw [List.length_map] at h; exact h)
        have HC4 : Hid (IntsAt w4 w4.heap.size A2 (outsL ⟨op, a, b, c, x⟩).length (fun k => (outsL ⟨op, a, b, c, x⟩).getD k 0)) := GotOwn.ints (base := nb + 1) (c := c2) (by have h := HA2e.out; unfold Bk.Own at h; rw [List.length_map] at h; exact h)
        clear hI4 hF4 hT4 HE3 HI3 HK3 HB4 HF3 HSz3 HA1d HA2d HA1e HA2e Hlt1 Hlt2 Hsz1 Hsz2 HZc HSz2
        generalize hFF : (fun k => F2' k ∧ nb + 1 ≤ k ∧ k < w4.heap.size) = F2 at *
        have HF5 : Hid (∀ k, F2 k → nb + 1 ≤ k ∧ k < w4.heap.size) := by subst hFF; exact HF4.out
        clear HF4 hFF
        have Ht4 : Hid (Dg.Tab w4) := HF.out w4 HE4.out.bel
        go_upto_region 18 with fail
        have HS4 : (fun W : World => W.cell? ⟨bx, 0, none⟩ = some (.int .i64 op) ∧ W.cell? ⟨bx, 1, none⟩ = some (.int .i64 a) ∧ W.cell? ⟨bx, 2, none⟩ = some (.int .i64 b) ∧ W.cell? ⟨bx, 3, none⟩ = some (.int .i64 c) ∧ W.cell? ⟨bx, 4, none⟩ = some (.int .i64 x)) w4.drew := ⟨HK4.out.cell 0, HK4.out.cell 1, HK4.out.cell 2, HK4.out.cell 3, HK4.out.cell 4⟩
        refine Pb.wp_region_U ((fun _ => true)) (fun W : World => W.cell? ⟨bx, 0, none⟩ = some (.int .i64 op) ∧ W.cell? ⟨bx, 1, none⟩ = some (.int .i64 a) ∧ W.cell? ⟨bx, 2, none⟩ = some (.int .i64 b) ∧ W.cell? ⟨bx, 3, none⟩ = some (.int .i64 c) ∧ W.cell? ⟨bx, 4, none⟩ = some (.int .i64 x)) (by kernel_rfl) ?_
        change Pb.wpU _ _ _ _ _ _ 13 #[false, false, false, false, false, false, false, false, false, false, false, false, false] _ _
        refine Pb.U_take (i := 0) (oi := { dst := some 106, op := .load 42 (.tmp 9), type := 42, pos := "law.go:48", after := #[], guard := none }) (v := .agg #[.int .i64 op, .int .i64 a, .int .i64 b, .int .i64 c, .int .i64 x]) rfl (by kernel_rfl) (by kernel_rfl) (by kernel_rfl) (by kernel_rfl) (fun _ _ _ h => h) (Or.inl ⟨by rfl, ?_⟩) (by assumption) ?_
        · intro W hSw; (try dsimp only at hSw); go_simp
        simp only [Act.put, List.setIfInBounds_toArray, List.set_cons_zero, List.set_cons_succ]
        refine Pb.U_take (i := 2) (oi := { dst := some 108, op := .move (.tmp 10), type := 9, pos := "law.go:48", after := #[], guard := none }) (v := .string tx) rfl (by kernel_rfl) (by kernel_rfl) (by kernel_rfl) (by kernel_rfl) (fun _ _ _ h => h) (Or.inl ⟨by rfl, ?_⟩) (by assumption) ?_
        · intro W hSw; (try dsimp only at hSw); go_simp
        simp only [Act.put, List.setIfInBounds_toArray, List.set_cons_zero, List.set_cons_succ]
        refine Pb.U_ready (rs := [1]) (by kernel_rfl) (by simp) ?_
        refine Pb.AllReadyU.cons rfl (fun K hK => ?_) Pb.AllReadyU.nil
        go_simp
        refine (text_any ⟨op, a, b, c, x⟩ Dg.numB w4.drew (args_small HI4.out) (args_itoa HI4.out Ht4.out)).mono ?_
        rintro e w8 ⟨rfl, hb8⟩
        rw [Hj.out]
        have hb8' : Below w4.heap.size w4 w8 := ⟨hb8.os, hb8.tape, hb8.output, hb8.size, hb8.block⟩
        have HK8 := Lib.hid (HK4.out.below hb8' HK4.out.lt)
        have HS8' : (fun W : World => W.cell? ⟨bx, 0, none⟩ = some (.int .i64 op) ∧ W.cell? ⟨bx, 1, none⟩ = some (.int .i64 a) ∧ W.cell? ⟨bx, 2, none⟩ = some (.int .i64 b) ∧ W.cell? ⟨bx, 3, none⟩ = some (.int .i64 c) ∧ W.cell? ⟨bx, 4, none⟩ = some (.int .i64 x)) w8 := ⟨HK8.out.cell 0, HK8.out.cell 1, HK8.out.cell 2, HK8.out.cell 3, HK8.out.cell 4⟩
        have HE8 := Lib.hid (HE4.out.go (hb8'.mono (Nat.le_of_lt HSz4.out)))
        have HI8 := Lib.hid (HI4'.out.below hb8')
        have HS8 : Hid (nb + 1 < w8.heap.size) := Nat.lt_of_lt_of_le HSz4.out hb8'.size
        have HF8 : Hid (∀ k, F2 k → nb + 1 ≤ k ∧ k < w8.heap.size) := fun k hk => ⟨(HF5.out k hk).1, Nat.lt_of_lt_of_le (HF5.out k hk).2 hb8'.size⟩
        have HA8 : Hid (IntsAt w8 w8.heap.size A1 (usesL ⟨op, a, b, c, x⟩).length (fun k => (usesL ⟨op, a, b, c, x⟩).getD k 0)) := (HA4.out.below hb8').up hb8'.size
        have HC8 : Hid (IntsAt w8 w8.heap.size A2 (outsL ⟨op, a, b, c, x⟩).length (fun k => (outsL ⟨op, a, b, c, x⟩).getD k 0)) := (HC4.out.below hb8').up hb8'.size
        clear hb8 hb8' HS4 HE4 HI4' HSz4 HF5 HA4 HC4 HK4 Ht4
        refine hK.out _ _ (fun _ => HS8') ?_
        clear hK K
        simp only [Act.put, List.setIfInBounds_toArray, List.set_cons_zero, List.set_cons_succ]
        refine Pb.U_take (i := 3) (oi := { dst := some 109, op := .binOp BinOp.neq 9 (.tmp 107) (.tmp 108) 9, type := 4, pos := "law.go:48", after := #[{ on := 1, ground := .data }, { on := 2, ground := .data }], guard := none }) (v := .bool false) rfl (by kernel_rfl) (by kernel_rfl) (by kernel_rfl) (by kernel_rfl) (fun _ _ _ h => h) (Or.inl ⟨by rfl, ?_⟩) (by assumption) ?_
        · intro W hSw; (try dsimp only at hSw); go_simp
        simp only [Act.put, List.setIfInBounds_toArray, List.set_cons_zero, List.set_cons_succ]
        refine Pb.U_take (i := 4) (oi := { dst := some 110, op := .move (.tmp 109), type := 4, pos := "law.go:48", after := #[{ on := 3, ground := .data }, { on := 1, ground := .chain }], guard := none }) (v := .bool false) rfl (by kernel_rfl) (by kernel_rfl) (by kernel_rfl) (by kernel_rfl) (fun _ _ _ h => h) (Or.inl ⟨by rfl, ?_⟩) (by assumption) ?_
        · intro W hSw; (try dsimp only at hSw); go_simp
        simp only [Act.put, List.setIfInBounds_toArray, List.set_cons_zero, List.set_cons_succ]
        refine Pb.U_take (i := 5) (oi := { dst := some 111, op := .fieldAddr 42 (.tmp 9) 0, type := 0, pos := "law.go:48", after := #[{ on := 4, ground := .guard }], guard := some (4, false) }) (v := .pointer (some ⟨bx, 0, none⟩)) rfl (by kernel_rfl) (by kernel_rfl) (by kernel_rfl) (by kernel_rfl) (fun _ _ _ h => h) (Or.inl ⟨by rfl, ?_⟩) (by assumption) ?_
        · intro W hSw; (try dsimp only at hSw); go_simp
        simp only [Act.put, List.setIfInBounds_toArray, List.set_cons_zero, List.set_cons_succ]
        refine Pb.U_take (i := 6) (oi := { dst := some 112, op := .load 3 (.tmp 111), type := 3, pos := "law.go:48", after := #[{ on := 5, ground := .data }, { on := 4, ground := .guard }], guard := some (4, false) }) (v := .int .i64 op) rfl (by kernel_rfl) (by kernel_rfl) (by kernel_rfl) (by kernel_rfl) (fun _ _ _ h => h) (Or.inl ⟨by rfl, ?_⟩) (by assumption) ?_
        · intro W hSw; (try dsimp only at hSw); go_simp
        simp only [Act.put, List.setIfInBounds_toArray, List.set_cons_zero, List.set_cons_succ]
        refine Pb.U_take (i := 8) (oi := { dst := some 114, op := .fieldAddr 42 (.tmp 9) 0, type := 0, pos := "law.go:48", after := #[{ on := 4, ground := .guard }], guard := some (4, false) }) (v := .pointer (some ⟨bx, 0, none⟩)) rfl (by kernel_rfl) (by kernel_rfl) (by kernel_rfl) (by kernel_rfl) (fun _ _ _ h => h) (Or.inl ⟨by rfl, ?_⟩) (by assumption) ?_
        · intro W hSw; (try dsimp only at hSw); go_simp
        simp only [Act.put, List.setIfInBounds_toArray, List.set_cons_zero, List.set_cons_succ]
        refine Pb.U_take (i := 9) (oi := { dst := some 115, op := .load 3 (.tmp 114), type := 3, pos := "law.go:48", after := #[{ on := 8, ground := .data }, { on := 4, ground := .guard }], guard := some (4, false) }) (v := .int .i64 op) rfl (by kernel_rfl) (by kernel_rfl) (by kernel_rfl) (by kernel_rfl) (fun _ _ _ h => h) (Or.inl ⟨by rfl, ?_⟩) (by assumption) ?_
        · intro W hSw; (try dsimp only at hSw); go_simp
        simp only [Act.put, List.setIfInBounds_toArray, List.set_cons_zero, List.set_cons_succ]
        refine Pb.U_ready (rs := [7]) (by kernel_rfl) (by simp) ?_
        refine Pb.AllReadyU.cons rfl (fun K hK => ?_) Pb.AllReadyU.nil
        go_simp
        refine (gives_any op w8).mono ?_
        rintro e w' ⟨rfl, rfl⟩
        refine hK.out _ _ (fun _ => HS8') ?_
        clear hK K
        simp only [Act.put, List.setIfInBounds_toArray, List.set_cons_zero, List.set_cons_succ]
        refine Pb.U_ready (rs := [10]) (by kernel_rfl) (by simp) ?_
        refine Pb.AllReadyU.cons rfl (fun K hK => ?_) Pb.AllReadyU.nil
        go_simp
        refine (rgives_any op w8).mono ?_
        rintro e w' ⟨rfl, rfl⟩
        refine hK.out _ _ (fun _ => HS8') ?_
        clear hK K
        simp only [Act.put, List.setIfInBounds_toArray, List.set_cons_zero, List.set_cons_succ]
        refine Pb.U_take (i := 11) (oi := { dst := some 117, op := .binOp BinOp.neq 4 (.tmp 113) (.tmp 116) 4, type := 4, pos := "law.go:48", after := #[{ on := 7, ground := .data }, { on := 10, ground := .data }, { on := 4, ground := .guard }], guard := some (4, false) }) (v := .bool false) rfl (by kernel_rfl) (by kernel_rfl) (by kernel_rfl) (by kernel_rfl) (fun _ _ _ h => h) (Or.inl ⟨by rfl, ?_⟩) (by assumption) ?_
        · intro W hSw; (try dsimp only at hSw); go_simp
        simp only [Act.put, List.setIfInBounds_toArray, List.set_cons_zero, List.set_cons_succ]
        refine Pb.U_take (i := 12) (oi := { dst := some 118, op := .pick (.tmp 110) (.const (Value.bool true)) (.tmp 117), type := 4, pos := "law.go:48", after := #[{ on := 4, ground := .data }, { on := 11, ground := .data }], guard := none }) (v := .bool false) rfl (by kernel_rfl) (by kernel_rfl) (by kernel_rfl) (by kernel_rfl) (fun _ _ _ h => h) (Or.inl ⟨by rfl, ?_⟩) (by assumption) ?_
        · intro W hSw; (try dsimp only at hSw); go_simp
        simp only [Act.put, List.setIfInBounds_toArray, List.set_cons_zero, List.set_cons_succ]
        refine Pb.U_done (by kernel_rfl) ?_ _
        clear HS8'
        go_upto_region 20 with fail
        have q0 : w8.cell? ⟨bx, 0, none⟩ = some (.int .i64 op) := HK8.out.cell 0
        have q1 : w8.cell? ⟨bx, 1, none⟩ = some (.int .i64 a) := HK8.out.cell 1
        by_cases h4 : op = 4
        case neg =>
          have h4' : (op == 4) = false := by simpa using h4
          go_upto_region 21 with fail
          clear q0 q1
          have q0 : w8.cell? ⟨bx, 0, none⟩ = some (.int .i64 op) := HK8.out.cell 0
          have q0 : w8.cell? ⟨bx, 0, none⟩ = some (.int .i64 op) := HK8.out.cell 0
          have q1 : w8.cell? ⟨bx, 1, none⟩ = some (.int .i64 a) := HK8.out.cell 1
          have q2 : w8.cell? ⟨bx, 2, none⟩ = some (.int .i64 b) := HK8.out.cell 2
          have q3 : w8.cell? ⟨bx, 3, none⟩ = some (.int .i64 c) := HK8.out.cell 3
          have q4 : w8.cell? ⟨bx, 4, none⟩ = some (.int .i64 x) := HK8.out.cell 4
          go_wp2_with fail
          refine (ruses_any ⟨op, a, b, c, x⟩ w8).mono ?_
          rintro e w9 ⟨A3, c3, rfl, ha3, hb9⟩
          have HE9 := Lib.hid (HE8.out.go (hb9.mono (Nat.le_of_lt HS8.out)))
          have HI9 := Lib.hid (HI8.out.below hb9)
          have HK9 := Lib.hid (HK8.out.below hb9 HK8.out.lt)
          have HA9 := Lib.hid (HA8.out.below hb9)
          have HC9 := Lib.hid (HC8.out.below hb9)
          have HS9 : Hid (nb + 1 < w9.heap.size) := Nat.lt_of_lt_of_le HS8.out hb9.size
          have HF9 : Hid (∀ k, F2 k → nb + 1 ≤ k ∧ k < w9.heap.size) := fun k hk => ⟨(HF8.out k hk).1, Nat.lt_of_lt_of_le (HF8.out k hk).2 hb9.size⟩
          have Hl9 : Hid (w8.heap.size ≤ w9.heap.size) := hb9.size
          have HA3 := Lib.hid ha3
          clear ha3 hb9 q0 q1 q2 q3 q4
          go_wp2_with fail
          refine (same_ints A1 A3 _ _ c1 c3 _ _ w8.heap.size w9.heap.size true w9 HA9.out HA3.out HUf.out HUf.out ⟨fun _ => ⟨rfl, fun _ _ => rfl⟩, fun _ => rfl⟩).mono ?_
          rintro e w' ⟨rfl, q, rfl⟩
          have HE10 := Lib.hid (HE9.out.go (below_of_draw (Below.refl (nb + 1) w9) q))
          have HI10 : Hid (BkI.Is (w9.drewN q) (nb + 1) (nb + 1) F2) := HI9.out.below (below_of_draw (Below.refl _ w9) q)
          have HK10 := Lib.hid (HK9.out.drewN q)
          have HC10 : Hid (IntsAt (w9.drewN q) w8.heap.size A2 (outsL ⟨op, a, b, c, x⟩).length (fun k => (outsL ⟨op, a, b, c, x⟩).getD k 0)) := HC9.out.below (below_of_draw (Below.refl _ w9) q)
          have HS10 : Hid (nb + 1 < (w9.drewN q).heap.size) := HS9.out
          have HF10 : Hid (∀ k, F2 k → nb + 1 ≤ k ∧ k < (w9.drewN q).heap.size) := HF9.out
          have Hl10 : Hid (w8.heap.size ≤ (w9.drewN q).heap.size) := Hl9.out
          clear HE9 HI9 HK9 HA9 HC9 HS9 HF9 HA3 Hl9
          generalize w9.drewN q = w10 at *
          have q0 : w10.cell? ⟨bx, 0, none⟩ = some (.int .i64 op) := HK10.out.cell 0
          have q1 : w10.cell? ⟨bx, 1, none⟩ = some (.int .i64 a) := HK10.out.cell 1
          have q2 : w10.cell? ⟨bx, 2, none⟩ = some (.int .i64 b) := HK10.out.cell 2
          have q3 : w10.cell? ⟨bx, 3, none⟩ = some (.int .i64 c) := HK10.out.cell 3
          have q4 : w10.cell? ⟨bx, 4, none⟩ = some (.int .i64 x) := HK10.out.cell 4
          go_wp2_with fail
          refine (routs_any ⟨op, a, b, c, x⟩ w10).mono ?_
          rintro e w11 ⟨A4, c4, rfl, ha4, hb11⟩
          have HE11 := Lib.hid (HE10.out.go (hb11.mono (Nat.le_of_lt HS10.out)))
          have HI11 := Lib.hid (HI10.out.below hb11)
          have HC11 := Lib.hid (HC10.out.below (hb11.mono Hl10.out))
          have HS11 : Hid (nb + 1 < w11.heap.size) := Nat.lt_of_lt_of_le HS10.out hb11.size
          have HF11 : Hid (∀ k, F2 k → nb + 1 ≤ k ∧ k < w11.heap.size) := fun k hk => ⟨(HF10.out k hk).1, Nat.lt_of_lt_of_le (HF10.out k hk).2 hb11.size⟩
          have HA4 := Lib.hid ha4
          clear ha4 hb11 q0 q1 q2 q3 q4 HK10 HC10 HE10 HI10 HS10 HF10
          go_wp2_with fail
          refine (same_ints A2 A4 _ _ c2 c4 _ _ w8.heap.size w11.heap.size true w11 HC11.out HA4.out HOf.out HOf.out ⟨fun _ => ⟨rfl, fun _ _ => rfl⟩, fun _ => rfl⟩).mono ?_
          rintro e w' ⟨rfl, q, rfl⟩
          have HE12 := Lib.hid (HE11.out.go (below_of_draw (Below.refl (nb + 1) w11) q))
          have HI12 : Hid (BkI.Is (w11.drewN q) (nb + 1) (nb + 1) F2) := HI11.out.below (below_of_draw (Below.refl _ w11) q)
          have HS12 : Hid (nb + 1 < (w11.drewN q).heap.size) := HS11.out
          have HF12 : Hid (∀ k, F2 k → nb + 1 ≤ k ∧ k < (w11.drewN q).heap.size) := HF11.out
          clear HE11 HI11 HC11 HS11 HF11 HA4
          generalize w11.drewN q = w12 at *
          go_wp2_with fail
          go_roundg (T.ni - (j + 1))
          case rel => exact ⟨j + 1, F2, rfl, by go_num, by omega, HI12.out, HF12.out, HE12.out, HS12.out⟩
          case measure => have := Hg.out; omega
        have h4' : (op == 4) = true := by simpa using h4
        clear h4
        by_cases h2 : isTwo a = true
        case pos =>
          have H2 := Lib.hid h2
          clear h2
          go_wp2_with fail
          refine (isTwo_any a w8).mono ?_
          rintro e w' ⟨rfl, rfl⟩
          rw [H2.out]
          go_upto_region 21 with fail
          clear q0 q1
          have q0 : w8.cell? ⟨bx, 0, none⟩ = some (.int .i64 op) := HK8.out.cell 0
          have q0 : w8.cell? ⟨bx, 0, none⟩ = some (.int .i64 op) := HK8.out.cell 0
          have q1 : w8.cell? ⟨bx, 1, none⟩ = some (.int .i64 a) := HK8.out.cell 1
          have q2 : w8.cell? ⟨bx, 2, none⟩ = some (.int .i64 b) := HK8.out.cell 2
          have q3 : w8.cell? ⟨bx, 3, none⟩ = some (.int .i64 c) := HK8.out.cell 3
          have q4 : w8.cell? ⟨bx, 4, none⟩ = some (.int .i64 x) := HK8.out.cell 4
          go_wp2_with fail
          refine (ruses_any ⟨op, a, b, c, x⟩ w8).mono ?_
          rintro e w9 ⟨A3, c3, rfl, ha3, hb9⟩
          have HE9 := Lib.hid (HE8.out.go (hb9.mono (Nat.le_of_lt HS8.out)))
          have HI9 := Lib.hid (HI8.out.below hb9)
          have HK9 := Lib.hid (HK8.out.below hb9 HK8.out.lt)
          have HA9 := Lib.hid (HA8.out.below hb9)
          have HC9 := Lib.hid (HC8.out.below hb9)
          have HS9 : Hid (nb + 1 < w9.heap.size) := Nat.lt_of_lt_of_le HS8.out hb9.size
          have HF9 : Hid (∀ k, F2 k → nb + 1 ≤ k ∧ k < w9.heap.size) := fun k hk => ⟨(HF8.out k hk).1, Nat.lt_of_lt_of_le (HF8.out k hk).2 hb9.size⟩
          have Hl9 : Hid (w8.heap.size ≤ w9.heap.size) := hb9.size
          have HA3 := Lib.hid ha3
          clear ha3 hb9 q0 q1 q2 q3 q4
          go_wp2_with fail
          refine (same_ints A1 A3 _ _ c1 c3 _ _ w8.heap.size w9.heap.size true w9 HA9.out HA3.out HUf.out HUf.out ⟨fun _ => ⟨rfl, fun _ _ => rfl⟩, fun _ => rfl⟩).mono ?_
          rintro e w' ⟨rfl, q, rfl⟩
          have HE10 := Lib.hid (HE9.out.go (below_of_draw (Below.refl (nb + 1) w9) q))
          have HI10 : Hid (BkI.Is (w9.drewN q) (nb + 1) (nb + 1) F2) := HI9.out.below (below_of_draw (Below.refl _ w9) q)
          have HK10 := Lib.hid (HK9.out.drewN q)
          have HC10 : Hid (IntsAt (w9.drewN q) w8.heap.size A2 (outsL ⟨op, a, b, c, x⟩).length (fun k => (outsL ⟨op, a, b, c, x⟩).getD k 0)) := HC9.out.below (below_of_draw (Below.refl _ w9) q)
          have HS10 : Hid (nb + 1 < (w9.drewN q).heap.size) := HS9.out
          have HF10 : Hid (∀ k, F2 k → nb + 1 ≤ k ∧ k < (w9.drewN q).heap.size) := HF9.out
          have Hl10 : Hid (w8.heap.size ≤ (w9.drewN q).heap.size) := Hl9.out
          clear HE9 HI9 HK9 HA9 HC9 HS9 HF9 HA3 Hl9
          generalize w9.drewN q = w10 at *
          have q0 : w10.cell? ⟨bx, 0, none⟩ = some (.int .i64 op) := HK10.out.cell 0
          have q1 : w10.cell? ⟨bx, 1, none⟩ = some (.int .i64 a) := HK10.out.cell 1
          have q2 : w10.cell? ⟨bx, 2, none⟩ = some (.int .i64 b) := HK10.out.cell 2
          have q3 : w10.cell? ⟨bx, 3, none⟩ = some (.int .i64 c) := HK10.out.cell 3
          have q4 : w10.cell? ⟨bx, 4, none⟩ = some (.int .i64 x) := HK10.out.cell 4
          go_wp2_with fail
          refine (routs_any ⟨op, a, b, c, x⟩ w10).mono ?_
          rintro e w11 ⟨A4, c4, rfl, ha4, hb11⟩
          have HE11 := Lib.hid (HE10.out.go (hb11.mono (Nat.le_of_lt HS10.out)))
          have HI11 := Lib.hid (HI10.out.below hb11)
          have HC11 := Lib.hid (HC10.out.below (hb11.mono Hl10.out))
          have HS11 : Hid (nb + 1 < w11.heap.size) := Nat.lt_of_lt_of_le HS10.out hb11.size
          have HF11 : Hid (∀ k, F2 k → nb + 1 ≤ k ∧ k < w11.heap.size) := fun k hk => ⟨(HF10.out k hk).1, Nat.lt_of_lt_of_le (HF10.out k hk).2 hb11.size⟩
          have HA4 := Lib.hid ha4
          clear ha4 hb11 q0 q1 q2 q3 q4 HK10 HC10 HE10 HI10 HS10 HF10
          go_wp2_with fail
          refine (same_ints A2 A4 _ _ c2 c4 _ _ w8.heap.size w11.heap.size true w11 HC11.out HA4.out HOf.out HOf.out ⟨fun _ => ⟨rfl, fun _ _ => rfl⟩, fun _ => rfl⟩).mono ?_
          rintro e w' ⟨rfl, q, rfl⟩
          have HE12 := Lib.hid (HE11.out.go (below_of_draw (Below.refl (nb + 1) w11) q))
          have HI12 : Hid (BkI.Is (w11.drewN q) (nb + 1) (nb + 1) F2) := HI11.out.below (below_of_draw (Below.refl _ w11) q)
          have HS12 : Hid (nb + 1 < (w11.drewN q).heap.size) := HS11.out
          have HF12 : Hid (∀ k, F2 k → nb + 1 ≤ k ∧ k < (w11.drewN q).heap.size) := HF11.out
          clear HE11 HI11 HC11 HS11 HF11 HA4
          generalize w11.drewN q = w12 at *
          go_wp2_with fail
          go_roundg (T.ni - (j + 1))
          case rel => exact ⟨j + 1, F2, rfl, by go_num, by omega, HI12.out, HF12.out, HE12.out, HS12.out⟩
          case measure => have := Hg.out; omega
        have h2' : isTwo a = false := by simpa using h2
        have H2 := Lib.hid h2'
        clear h2 h2'
        by_cases h1 : isOne a = true
        case pos =>
          have H1 := Lib.hid h1
          clear h1
          go_wp2_with fail
          refine (isTwo_any a w8).mono ?_
          rintro e w' ⟨rfl, rfl⟩
          rw [H2.out]
          go_wp2_with fail
          refine (isOne_any a w8).mono ?_
          rintro e w' ⟨rfl, rfl⟩
          rw [H1.out]
          go_upto_region 21 with fail
          clear q0 q1
          have q0 : w8.cell? ⟨bx, 0, none⟩ = some (.int .i64 op) := HK8.out.cell 0
          have q0 : w8.cell? ⟨bx, 0, none⟩ = some (.int .i64 op) := HK8.out.cell 0
          have q1 : w8.cell? ⟨bx, 1, none⟩ = some (.int .i64 a) := HK8.out.cell 1
          have q2 : w8.cell? ⟨bx, 2, none⟩ = some (.int .i64 b) := HK8.out.cell 2
          have q3 : w8.cell? ⟨bx, 3, none⟩ = some (.int .i64 c) := HK8.out.cell 3
          have q4 : w8.cell? ⟨bx, 4, none⟩ = some (.int .i64 x) := HK8.out.cell 4
          go_wp2_with fail
          refine (ruses_any ⟨op, a, b, c, x⟩ w8).mono ?_
          rintro e w9 ⟨A3, c3, rfl, ha3, hb9⟩
          have HE9 := Lib.hid (HE8.out.go (hb9.mono (Nat.le_of_lt HS8.out)))
          have HI9 := Lib.hid (HI8.out.below hb9)
          have HK9 := Lib.hid (HK8.out.below hb9 HK8.out.lt)
          have HA9 := Lib.hid (HA8.out.below hb9)
          have HC9 := Lib.hid (HC8.out.below hb9)
          have HS9 : Hid (nb + 1 < w9.heap.size) := Nat.lt_of_lt_of_le HS8.out hb9.size
          have HF9 : Hid (∀ k, F2 k → nb + 1 ≤ k ∧ k < w9.heap.size) := fun k hk => ⟨(HF8.out k hk).1, Nat.lt_of_lt_of_le (HF8.out k hk).2 hb9.size⟩
          have Hl9 : Hid (w8.heap.size ≤ w9.heap.size) := hb9.size
          have HA3 := Lib.hid ha3
          clear ha3 hb9 q0 q1 q2 q3 q4
          go_wp2_with fail
          refine (same_ints A1 A3 _ _ c1 c3 _ _ w8.heap.size w9.heap.size true w9 HA9.out HA3.out HUf.out HUf.out ⟨fun _ => ⟨rfl, fun _ _ => rfl⟩, fun _ => rfl⟩).mono ?_
          rintro e w' ⟨rfl, q, rfl⟩
          have HE10 := Lib.hid (HE9.out.go (below_of_draw (Below.refl (nb + 1) w9) q))
          have HI10 : Hid (BkI.Is (w9.drewN q) (nb + 1) (nb + 1) F2) := HI9.out.below (below_of_draw (Below.refl _ w9) q)
          have HK10 := Lib.hid (HK9.out.drewN q)
          have HC10 : Hid (IntsAt (w9.drewN q) w8.heap.size A2 (outsL ⟨op, a, b, c, x⟩).length (fun k => (outsL ⟨op, a, b, c, x⟩).getD k 0)) := HC9.out.below (below_of_draw (Below.refl _ w9) q)
          have HS10 : Hid (nb + 1 < (w9.drewN q).heap.size) := HS9.out
          have HF10 : Hid (∀ k, F2 k → nb + 1 ≤ k ∧ k < (w9.drewN q).heap.size) := HF9.out
          have Hl10 : Hid (w8.heap.size ≤ (w9.drewN q).heap.size) := Hl9.out
          clear HE9 HI9 HK9 HA9 HC9 HS9 HF9 HA3 Hl9
          generalize w9.drewN q = w10 at *
          have q0 : w10.cell? ⟨bx, 0, none⟩ = some (.int .i64 op) := HK10.out.cell 0
          have q1 : w10.cell? ⟨bx, 1, none⟩ = some (.int .i64 a) := HK10.out.cell 1
          have q2 : w10.cell? ⟨bx, 2, none⟩ = some (.int .i64 b) := HK10.out.cell 2
          have q3 : w10.cell? ⟨bx, 3, none⟩ = some (.int .i64 c) := HK10.out.cell 3
          have q4 : w10.cell? ⟨bx, 4, none⟩ = some (.int .i64 x) := HK10.out.cell 4
          go_wp2_with fail
          refine (routs_any ⟨op, a, b, c, x⟩ w10).mono ?_
          rintro e w11 ⟨A4, c4, rfl, ha4, hb11⟩
          have HE11 := Lib.hid (HE10.out.go (hb11.mono (Nat.le_of_lt HS10.out)))
          have HI11 := Lib.hid (HI10.out.below hb11)
          have HC11 := Lib.hid (HC10.out.below (hb11.mono Hl10.out))
          have HS11 : Hid (nb + 1 < w11.heap.size) := Nat.lt_of_lt_of_le HS10.out hb11.size
          have HF11 : Hid (∀ k, F2 k → nb + 1 ≤ k ∧ k < w11.heap.size) := fun k hk => ⟨(HF10.out k hk).1, Nat.lt_of_lt_of_le (HF10.out k hk).2 hb11.size⟩
          have HA4 := Lib.hid ha4
          clear ha4 hb11 q0 q1 q2 q3 q4 HK10 HC10 HE10 HI10 HS10 HF10
          go_wp2_with fail
          refine (same_ints A2 A4 _ _ c2 c4 _ _ w8.heap.size w11.heap.size true w11 HC11.out HA4.out HOf.out HOf.out ⟨fun _ => ⟨rfl, fun _ _ => rfl⟩, fun _ => rfl⟩).mono ?_
          rintro e w' ⟨rfl, q, rfl⟩
          have HE12 := Lib.hid (HE11.out.go (below_of_draw (Below.refl (nb + 1) w11) q))
          have HI12 : Hid (BkI.Is (w11.drewN q) (nb + 1) (nb + 1) F2) := HI11.out.below (below_of_draw (Below.refl _ w11) q)
          have HS12 : Hid (nb + 1 < (w11.drewN q).heap.size) := HS11.out
          have HF12 : Hid (∀ k, F2 k → nb + 1 ≤ k ∧ k < (w11.drewN q).heap.size) := HF11.out
          clear HE11 HI11 HC11 HS11 HF11 HA4
          generalize w11.drewN q = w12 at *
          go_wp2_with fail
          go_roundg (T.ni - (j + 1))
          case rel => exact ⟨j + 1, F2, rfl, by go_num, by omega, HI12.out, HF12.out, HE12.out, HS12.out⟩
          case measure => have := Hg.out; omega
        have h1' : isOne a = false := by simpa using h1
        have H1 := Lib.hid h1'
        clear h1 h1'
        go_wp2_with fail
        refine (isTwo_any a w8).mono ?_
        rintro e w' ⟨rfl, rfl⟩
        rw [H2.out]
        go_wp2_with fail
        refine (isOne_any a w8).mono ?_
        rintro e w' ⟨rfl, rfl⟩
        rw [H1.out]
        go_wp2_with fail
        go_roundg (T.ni - (j + 1))
        case rel => exact ⟨j + 1, F2, rfl, by go_num, by omega, HI8.out, HF8.out, HE8.out, HS8.out⟩
        case measure => have := Hg.out; omega
      · have r1 : (1 : Int) ≤ op := by omega
        have r2 : ¬ op ≤ 12 := by omega
        have HEc := HEb
        have HIc := HIb
        have HKc := HKb
        have HSc := HSb
        have HZc := HZb
        go_upto_region 15 with fail
        clear HEb HIb HKb HSb HZb r1 r2 p0
        generalize wb = wc at *
        clear hemp
        have HS0 : (fun W : World => W.cell? ⟨bx, 0, none⟩ = some (.int .i64 op) ∧ W.cell? ⟨bx, 1, none⟩ = some (.int .i64 a) ∧ W.cell? ⟨bx, 2, none⟩ = some (.int .i64 b) ∧ W.cell? ⟨bx, 3, none⟩ = some (.int .i64 c) ∧ W.cell? ⟨bx, 4, none⟩ = some (.int .i64 x)) wc.drew := ⟨HKc.out.cell 0, HKc.out.cell 1, HKc.out.cell 2, HKc.out.cell 3, HKc.out.cell 4⟩
        refine Pb.wp_region_U ((fun _ => true)) (fun W : World => W.cell? ⟨bx, 0, none⟩ = some (.int .i64 op) ∧ W.cell? ⟨bx, 1, none⟩ = some (.int .i64 a) ∧ W.cell? ⟨bx, 2, none⟩ = some (.int .i64 b) ∧ W.cell? ⟨bx, 3, none⟩ = some (.int .i64 c) ∧ W.cell? ⟨bx, 4, none⟩ = some (.int .i64 x)) (by kernel_rfl) ?_
        change Pb.wpU _ _ _ _ _ _ 6 #[false, false, false, false, false, false] _ _
        refine Pb.U_take (i := 0) (oi := { dst := some 96, op := .load 42 (.tmp 9), type := 42, pos := "law.go:45", after := #[], guard := none }) (v := .agg #[.int .i64 op, .int .i64 a, .int .i64 b, .int .i64 c, .int .i64 x]) rfl (by kernel_rfl) (by kernel_rfl) (by kernel_rfl) (by kernel_rfl) (fun _ _ _ h => h) (Or.inl ⟨by rfl, ?_⟩) (by assumption) ?_
        · intro W hSw; (try dsimp only at hSw); go_simp
        simp only [Act.put, List.setIfInBounds_toArray, List.set_cons_zero, List.set_cons_succ]
        refine Pb.U_take (i := 2) (oi := { dst := some 98, op := .load 42 (.tmp 9), type := 42, pos := "law.go:45", after := #[], guard := none }) (v := .agg #[.int .i64 op, .int .i64 a, .int .i64 b, .int .i64 c, .int .i64 x]) rfl (by kernel_rfl) (by kernel_rfl) (by kernel_rfl) (by kernel_rfl) (fun _ _ _ h => h) (Or.inl ⟨by rfl, ?_⟩) (by assumption) ?_
        · intro W hSw; (try dsimp only at hSw); go_simp
        simp only [Act.put, List.setIfInBounds_toArray, List.set_cons_zero, List.set_cons_succ]
        refine Pb.U_ready (rs := [1]) (by kernel_rfl) (by simp) ?_
        refine Pb.AllReadyU.cons rfl (fun K hK => ?_) Pb.AllReadyU.nil
        go_simp
        refine (uses_own ⟨op, a, b, c, x⟩ wc.drew).mono ?_
        rintro e w1 ⟨A1, c1, rfl, ha1, hb1⟩
        have hb1' : Below wc.heap.size wc w1 := ⟨hb1.os, hb1.tape, hb1.output, hb1.size, hb1.block⟩
        have HK1 := Lib.hid (HKc.out.below hb1' HKc.out.lt)
        have HS1 : (fun W : World => W.cell? ⟨bx, 0, none⟩ = some (.int .i64 op) ∧ W.cell? ⟨bx, 1, none⟩ = some (.int .i64 a) ∧ W.cell? ⟨bx, 2, none⟩ = some (.int .i64 b) ∧ W.cell? ⟨bx, 3, none⟩ = some (.int .i64 c) ∧ W.cell? ⟨bx, 4, none⟩ = some (.int .i64 x)) w1 := ⟨HK1.out.cell 0, HK1.out.cell 1, HK1.out.cell 2, HK1.out.cell 3, HK1.out.cell 4⟩
        have HA1 : Hid (w1.ownsRow wc.heap.size 3 1 (.slice A1 (usesL ⟨op, a, b, c, x⟩).length c1) (usesL ⟨op, a, b, c, x⟩).length ((usesL ⟨op, a, b, c, x⟩).map (Value.int .i64))) := ha1
        have HB1 := Lib.hid hb1'
        clear ha1 hb1 hb1' HS0
        refine hK.out _ _ (fun _ => HS1) ?_
        clear hK K
        simp only [Act.put, List.setIfInBounds_toArray, List.set_cons_zero, List.set_cons_succ]
        refine Pb.U_ready (rs := [3]) (by kernel_rfl) (by simp) ?_
        refine Pb.AllReadyU.cons rfl (fun K hK => ?_) Pb.AllReadyU.nil
        go_simp
        refine (outs_own ⟨op, a, b, c, x⟩ w1).mono ?_
        rintro e w2 ⟨A2, c2, rfl, ha2, hb2⟩
        have HK2 := Lib.hid (HK1.out.below hb2 HK1.out.lt)
        have HS2 : (fun W : World => W.cell? ⟨bx, 0, none⟩ = some (.int .i64 op) ∧ W.cell? ⟨bx, 1, none⟩ = some (.int .i64 a) ∧ W.cell? ⟨bx, 2, none⟩ = some (.int .i64 b) ∧ W.cell? ⟨bx, 3, none⟩ = some (.int .i64 c) ∧ W.cell? ⟨bx, 4, none⟩ = some (.int .i64 x)) w2 := ⟨HK2.out.cell 0, HK2.out.cell 1, HK2.out.cell 2, HK2.out.cell 3, HK2.out.cell 4⟩
        have HA2 := Lib.hid ha2
        have HB2 := Lib.hid (HB1.out.trans (hb2.mono HB1.out.size))
        have HA1b := Lib.hid (own_touch HA1.out (Touch.of_below hb2 (fun _ => False)) (fun _ _ h => h))
        have Hlt1 : Hid (∀ k, A1.map (·.block) = some k → wc.heap.size ≤ k ∧ k < w1.heap.size) := fun k hk => own_block HA1.out hk
        have Hlt2 : Hid (∀ k, A2.map (·.block) = some k → w1.heap.size ≤ k ∧ k < w2.heap.size) := fun k hk => own_block ha2 hk
        have Hsz1 : Hid (wc.heap.size ≤ w1.heap.size) := HB1.out.size
        have Hsz2 : Hid (w1.heap.size ≤ w2.heap.size) := hb2.size
        clear ha2 hb2 HS1 HA1 HK1 HB1
        refine hK.out _ _ (fun _ => HS2) ?_
        clear hK K
        simp only [Act.put, List.setIfInBounds_toArray, List.set_cons_zero, List.set_cons_succ]
        refine Pb.U_ready (rs := [4]) (by kernel_rfl) (by simp) ?_
        refine Pb.AllReadyU.cons rfl (fun K hK => ?_) Pb.AllReadyU.nil
        go_simp
        refine hK.out _ _ (fun _ => HS2) ?_
        clear hK K
        simp only [Act.put, List.setIfInBounds_toArray, List.set_cons_zero, List.set_cons_succ]
        refine Pb.U_ready (rs := [5]) (by kernel_rfl) (by simp) ?_
        refine Pb.AllReadyU.cons rfl (fun K hK => ?_) Pb.AllReadyU.nil
        go_simp
        refine hK.out _ _ (fun _ => HS2) ?_
        clear hK K
        simp only [Act.put, List.setIfInBounds_toArray, List.set_cons_zero, List.set_cons_succ]
        refine Pb.U_done (by kernel_rfl) ?_ _
        clear HS2
        have HE2 := Lib.hid (HEc.out.go (HB2.out.mono (Nat.le_of_lt HSc.out)))
        have HI2 := Lib.hid (HIc.out.below HB2.out)
        have HFc : Hid (∀ k, F k → k < bx) := fun k h => (HFl.out k h).2
        have HFo : Hid (∀ k, F k → nb + 1 ≤ k) := fun k h => (HFl.out k h).1
        have HSz2 : Hid (nb + 1 < w2.heap.size) := Nat.lt_of_lt_of_le HSc.out HB2.out.size
        have HU2 : Hid ((usesL ⟨op, a, b, c, x⟩).length ≤ 2) := uses_two _
        have HO2 : Hid ((outsL ⟨op, a, b, c, x⟩).length ≤ 2) := outs_few _
        have HUf : Hid ((usesL ⟨op, a, b, c, x⟩).length ≤ 300000) := by have := HU2.out; refine Lib.hid ?_; omega
        have HOf : Hid ((outsL ⟨op, a, b, c, x⟩).length ≤ 300000) := by have := HO2.out; refine Lib.hid ?_; omega
        have HA1c : Hid (Bk.Own w2 (nb + 1) 3 (.slice A1 (usesL ⟨op, a, b, c, x⟩).length c1) ((usesL ⟨op, a, b, c, x⟩).map (Value.int .i64))) := by
          refine Lib.hid ?_
          unfold Bk.Own
          rw [List.length_map]
          exact HA1b.out.mono (Nat.le_of_lt HSc.out)
        have HA2c : Hid (Bk.Own w2 (nb + 1) 3 (.slice A2 (outsL ⟨op, a, b, c, x⟩).length c2) ((outsL ⟨op, a, b, c, x⟩).map (Value.int .i64))) := by
          refine Lib.hid ?_
          unfold Bk.Own
          rw [List.length_map]
          exact HA2.out.mono (Nat.le_trans (Nat.le_of_lt HSc.out) Hsz1.out)
        clear HEc HIc HKc HFl HSc HB2 HA1b HA2
        go_wp2_with fail
        refine (BkI.keep_any (nb + 1) (nb + 1) F (.slice A1 (usesL ⟨op, a, b, c, x⟩).length c1) _ w2 HI2.out (Nat.le_of_lt HSz2.out) HA1c.out (by rw [List.length_map]; have := HU2.out; omega) (vals_ise _) (fun k hk hF => by have h1 := Hlt1.out k (block_of hk); have h2 := HFc.out k hF; have h3 := HZc.out; omega)).mono ?_
        rintro e w3 ⟨rfl, F1, hI3, hF3, hT3⟩
        have HA2d : Hid (Bk.Own w3 (nb + 1) 3 (.slice A2 (outsL ⟨op, a, b, c, x⟩).length c2) ((outsL ⟨op, a, b, c, x⟩).map (Value.int .i64))) := own_touch HA2c.out hT3 (fun k hk h => by have h1 := Hlt2.out k hk; have h2 := HFc.out k h.1; have h3 := HZc.out; have h4 := Hsz1.out; omega)
        have HA1d : Hid (Bk.Own w3 (nb + 1) 3 (.slice A1 (usesL ⟨op, a, b, c, x⟩).length c1) ((usesL ⟨op, a, b, c, x⟩).map (Value.int .i64))) := own_touch HA1c.out hT3 (fun k hk h => by have h1 := Hlt1.out k hk; have h2 := HFc.out k h.1; have h3 := HZc.out; omega)
        have HB3 : Hid (Below (nb + 1) w2 w3) := hT3.below (fun k h => HFo.out k h.1) (Nat.le_of_lt HSz2.out)
        have HK3 : Hid (Blk w3 bx 42 #[.int .i64 op, .int .i64 a, .int .i64 b, .int .i64 c, .int .i64 x]) := (hT3.block bx HK2.out.lt (fun h => by have h2 := HFc.out bx h.1; omega)).trans HK2.out
        have HE3 := Lib.hid (HE2.out.go HB3.out)
        have HI3 := Lib.hid (book_cut2 hI3)
        have HF3 : Hid (∀ k, F1 k ∧ nb + 1 ≤ k ∧ k < w3.heap.size → k < bx ∨ (Value.slice A1 (usesL ⟨op, a, b, c, x⟩).length c1).ownBlock = some k ∨ w2.heap.size ≤ k) := fun k hk => (hF3 k hk.1).imp (fun h => HFc.out k h) id
        have HSz3 : Hid (nb + 1 < w3.heap.size) := Nat.lt_of_lt_of_le HSz2.out hT3.size
        clear hI3 hF3 hT3 HE2 HI2 HK2 HA1c HA2c HB3 HFc
        go_wp2_with fail
        refine (BkI.keep_any (nb + 1) (nb + 1) (fun k => F1 k ∧ nb + 1 ≤ k ∧ k < w3.heap.size) (.slice A2 (outsL ⟨op, a, b, c, x⟩).length c2) _ w3 HI3.out (Nat.le_of_lt HSz3.out) HA2d.out (by rw [List.length_map]; have := HO2.out; omega) (vals_ise _) (fun k hk hF => by have h1 := Hlt2.out k (block_of hk); have h3 := HZc.out; have h4 := Hsz1.out; rcases HF3.out k hF with h | h | h; omega; (have h5 := Hlt1.out k (block_of h); omega); omega)).mono ?_
        rintro e w4 ⟨rfl, F2', hI4, hF4, hT4⟩
        have HA1e : Hid (Bk.Own w4 (nb + 1) 3 (.slice A1 (usesL ⟨op, a, b, c, x⟩).length c1) ((usesL ⟨op, a, b, c, x⟩).map (Value.int .i64))) := own_touch HA1d.out hT4 (fun k hk h => by obtain ⟨cs, hcs⟩ := own_blk HA1d.out hk; exact h.2 cs hcs)
        have HA2e : Hid (Bk.Own w4 (nb + 1) 3 (.slice A2 (outsL ⟨op, a, b, c, x⟩).length c2) ((outsL ⟨op, a, b, c, x⟩).map (Value.int .i64))) := own_touch HA2d.out hT4 (fun k hk h => by obtain ⟨cs, hcs⟩ := own_blk HA2d.out hk; exact h.2 cs hcs)
        have HB4 : Hid (Below (nb + 1) w3 w4) := hT4.below (fun k h => h.1.2.1) (Nat.le_of_lt HSz3.out)
        have HK4 : Hid (Blk w4 bx 42 #[.int .i64 op, .int .i64 a, .int .i64 b, .int .i64 c, .int .i64 x]) := (hT4.block bx HK3.out.lt (fun h => by have h3 := HZc.out; have h4 := Hsz1.out; have h5 := Hsz2.out; rcases HF3.out bx h.1 with h | h | h; omega; (have h6 := Hlt1.out bx (block_of h); omega); omega)).trans HK3.out
        have HE4 := Lib.hid (HE3.out.go HB4.out)
        have HI4' := Lib.hid (book_cut2 hI4)
        have HSz4 : Hid (nb + 1 < w4.heap.size) := Nat.lt_of_lt_of_le HSz3.out hT4.size
        have HF4 : Hid (∀ k, F2' k ∧ nb + 1 ≤ k ∧ k < w4.heap.size → nb + 1 ≤ k ∧ k < w4.heap.size) := fun k h => h.2
        have HA4 : Hid (IntsAt w4 w4.heap.size A1 (usesL ⟨op, a, b, c, x⟩).length (fun k => (usesL ⟨op, a, b, c, x⟩).getD k 0)) := GotOwn.ints (base := nb + 1) (c := c1) (by have h := HA1e.out; unfold Bk.Own at h; rw [List.length_map] at h; exact h)
        have HC4 : Hid (IntsAt w4 w4.heap.size A2 (outsL ⟨op, a, b, c, x⟩).length (fun k => (outsL ⟨op, a, b, c, x⟩).getD k 0)) := GotOwn.ints (base := nb + 1) (c := c2) (by have h := HA2e.out; unfold Bk.Own at h; rw [List.length_map] at h; exact h)
        clear hI4 hF4 hT4 HE3 HI3 HK3 HB4 HF3 HSz3 HA1d HA2d HA1e HA2e Hlt1 Hlt2 Hsz1 Hsz2 HZc HSz2
        generalize hFF : (fun k => F2' k ∧ nb + 1 ≤ k ∧ k < w4.heap.size) = F2 at *
        have HF5 : Hid (∀ k, F2 k → nb + 1 ≤ k ∧ k < w4.heap.size) := by subst hFF; exact HF4.out
        clear HF4 hFF
        have Ht4 : Hid (Dg.Tab w4) := HF.out w4 HE4.out.bel
        go_upto_region 18 with fail
        have HS4 : (fun W : World => W.cell? ⟨bx, 0, none⟩ = some (.int .i64 op) ∧ W.cell? ⟨bx, 1, none⟩ = some (.int .i64 a) ∧ W.cell? ⟨bx, 2, none⟩ = some (.int .i64 b) ∧ W.cell? ⟨bx, 3, none⟩ = some (.int .i64 c) ∧ W.cell? ⟨bx, 4, none⟩ = some (.int .i64 x)) w4.drew := ⟨HK4.out.cell 0, HK4.out.cell 1, HK4.out.cell 2, HK4.out.cell 3, HK4.out.cell 4⟩
        refine Pb.wp_region_U ((fun _ => true)) (fun W : World => W.cell? ⟨bx, 0, none⟩ = some (.int .i64 op) ∧ W.cell? ⟨bx, 1, none⟩ = some (.int .i64 a) ∧ W.cell? ⟨bx, 2, none⟩ = some (.int .i64 b) ∧ W.cell? ⟨bx, 3, none⟩ = some (.int .i64 c) ∧ W.cell? ⟨bx, 4, none⟩ = some (.int .i64 x)) (by kernel_rfl) ?_
        change Pb.wpU _ _ _ _ _ _ 13 #[false, false, false, false, false, false, false, false, false, false, false, false, false] _ _
        refine Pb.U_take (i := 0) (oi := { dst := some 106, op := .load 42 (.tmp 9), type := 42, pos := "law.go:48", after := #[], guard := none }) (v := .agg #[.int .i64 op, .int .i64 a, .int .i64 b, .int .i64 c, .int .i64 x]) rfl (by kernel_rfl) (by kernel_rfl) (by kernel_rfl) (by kernel_rfl) (fun _ _ _ h => h) (Or.inl ⟨by rfl, ?_⟩) (by assumption) ?_
        · intro W hSw; (try dsimp only at hSw); go_simp
        simp only [Act.put, List.setIfInBounds_toArray, List.set_cons_zero, List.set_cons_succ]
        refine Pb.U_take (i := 2) (oi := { dst := some 108, op := .move (.tmp 10), type := 9, pos := "law.go:48", after := #[], guard := none }) (v := .string tx) rfl (by kernel_rfl) (by kernel_rfl) (by kernel_rfl) (by kernel_rfl) (fun _ _ _ h => h) (Or.inl ⟨by rfl, ?_⟩) (by assumption) ?_
        · intro W hSw; (try dsimp only at hSw); go_simp
        simp only [Act.put, List.setIfInBounds_toArray, List.set_cons_zero, List.set_cons_succ]
        refine Pb.U_ready (rs := [1]) (by kernel_rfl) (by simp) ?_
        refine Pb.AllReadyU.cons rfl (fun K hK => ?_) Pb.AllReadyU.nil
        go_simp
        refine (text_any ⟨op, a, b, c, x⟩ Dg.numB w4.drew (args_small HI4.out) (args_itoa HI4.out Ht4.out)).mono ?_
        rintro e w8 ⟨rfl, hb8⟩
        rw [Hj.out]
        have hb8' : Below w4.heap.size w4 w8 := ⟨hb8.os, hb8.tape, hb8.output, hb8.size, hb8.block⟩
        have HK8 := Lib.hid (HK4.out.below hb8' HK4.out.lt)
        have HS8' : (fun W : World => W.cell? ⟨bx, 0, none⟩ = some (.int .i64 op) ∧ W.cell? ⟨bx, 1, none⟩ = some (.int .i64 a) ∧ W.cell? ⟨bx, 2, none⟩ = some (.int .i64 b) ∧ W.cell? ⟨bx, 3, none⟩ = some (.int .i64 c) ∧ W.cell? ⟨bx, 4, none⟩ = some (.int .i64 x)) w8 := ⟨HK8.out.cell 0, HK8.out.cell 1, HK8.out.cell 2, HK8.out.cell 3, HK8.out.cell 4⟩
        have HE8 := Lib.hid (HE4.out.go (hb8'.mono (Nat.le_of_lt HSz4.out)))
        have HI8 := Lib.hid (HI4'.out.below hb8')
        have HS8 : Hid (nb + 1 < w8.heap.size) := Nat.lt_of_lt_of_le HSz4.out hb8'.size
        have HF8 : Hid (∀ k, F2 k → nb + 1 ≤ k ∧ k < w8.heap.size) := fun k hk => ⟨(HF5.out k hk).1, Nat.lt_of_lt_of_le (HF5.out k hk).2 hb8'.size⟩
        have HA8 : Hid (IntsAt w8 w8.heap.size A1 (usesL ⟨op, a, b, c, x⟩).length (fun k => (usesL ⟨op, a, b, c, x⟩).getD k 0)) := (HA4.out.below hb8').up hb8'.size
        have HC8 : Hid (IntsAt w8 w8.heap.size A2 (outsL ⟨op, a, b, c, x⟩).length (fun k => (outsL ⟨op, a, b, c, x⟩).getD k 0)) := (HC4.out.below hb8').up hb8'.size
        clear hb8 hb8' HS4 HE4 HI4' HSz4 HF5 HA4 HC4 HK4 Ht4
        refine hK.out _ _ (fun _ => HS8') ?_
        clear hK K
        simp only [Act.put, List.setIfInBounds_toArray, List.set_cons_zero, List.set_cons_succ]
        refine Pb.U_take (i := 3) (oi := { dst := some 109, op := .binOp BinOp.neq 9 (.tmp 107) (.tmp 108) 9, type := 4, pos := "law.go:48", after := #[{ on := 1, ground := .data }, { on := 2, ground := .data }], guard := none }) (v := .bool false) rfl (by kernel_rfl) (by kernel_rfl) (by kernel_rfl) (by kernel_rfl) (fun _ _ _ h => h) (Or.inl ⟨by rfl, ?_⟩) (by assumption) ?_
        · intro W hSw; (try dsimp only at hSw); go_simp
        simp only [Act.put, List.setIfInBounds_toArray, List.set_cons_zero, List.set_cons_succ]
        refine Pb.U_take (i := 4) (oi := { dst := some 110, op := .move (.tmp 109), type := 4, pos := "law.go:48", after := #[{ on := 3, ground := .data }, { on := 1, ground := .chain }], guard := none }) (v := .bool false) rfl (by kernel_rfl) (by kernel_rfl) (by kernel_rfl) (by kernel_rfl) (fun _ _ _ h => h) (Or.inl ⟨by rfl, ?_⟩) (by assumption) ?_
        · intro W hSw; (try dsimp only at hSw); go_simp
        simp only [Act.put, List.setIfInBounds_toArray, List.set_cons_zero, List.set_cons_succ]
        refine Pb.U_take (i := 5) (oi := { dst := some 111, op := .fieldAddr 42 (.tmp 9) 0, type := 0, pos := "law.go:48", after := #[{ on := 4, ground := .guard }], guard := some (4, false) }) (v := .pointer (some ⟨bx, 0, none⟩)) rfl (by kernel_rfl) (by kernel_rfl) (by kernel_rfl) (by kernel_rfl) (fun _ _ _ h => h) (Or.inl ⟨by rfl, ?_⟩) (by assumption) ?_
        · intro W hSw; (try dsimp only at hSw); go_simp
        simp only [Act.put, List.setIfInBounds_toArray, List.set_cons_zero, List.set_cons_succ]
        refine Pb.U_take (i := 6) (oi := { dst := some 112, op := .load 3 (.tmp 111), type := 3, pos := "law.go:48", after := #[{ on := 5, ground := .data }, { on := 4, ground := .guard }], guard := some (4, false) }) (v := .int .i64 op) rfl (by kernel_rfl) (by kernel_rfl) (by kernel_rfl) (by kernel_rfl) (fun _ _ _ h => h) (Or.inl ⟨by rfl, ?_⟩) (by assumption) ?_
        · intro W hSw; (try dsimp only at hSw); go_simp
        simp only [Act.put, List.setIfInBounds_toArray, List.set_cons_zero, List.set_cons_succ]
        refine Pb.U_take (i := 8) (oi := { dst := some 114, op := .fieldAddr 42 (.tmp 9) 0, type := 0, pos := "law.go:48", after := #[{ on := 4, ground := .guard }], guard := some (4, false) }) (v := .pointer (some ⟨bx, 0, none⟩)) rfl (by kernel_rfl) (by kernel_rfl) (by kernel_rfl) (by kernel_rfl) (fun _ _ _ h => h) (Or.inl ⟨by rfl, ?_⟩) (by assumption) ?_
        · intro W hSw; (try dsimp only at hSw); go_simp
        simp only [Act.put, List.setIfInBounds_toArray, List.set_cons_zero, List.set_cons_succ]
        refine Pb.U_take (i := 9) (oi := { dst := some 115, op := .load 3 (.tmp 114), type := 3, pos := "law.go:48", after := #[{ on := 8, ground := .data }, { on := 4, ground := .guard }], guard := some (4, false) }) (v := .int .i64 op) rfl (by kernel_rfl) (by kernel_rfl) (by kernel_rfl) (by kernel_rfl) (fun _ _ _ h => h) (Or.inl ⟨by rfl, ?_⟩) (by assumption) ?_
        · intro W hSw; (try dsimp only at hSw); go_simp
        simp only [Act.put, List.setIfInBounds_toArray, List.set_cons_zero, List.set_cons_succ]
        refine Pb.U_ready (rs := [7]) (by kernel_rfl) (by simp) ?_
        refine Pb.AllReadyU.cons rfl (fun K hK => ?_) Pb.AllReadyU.nil
        go_simp
        refine (gives_any op w8).mono ?_
        rintro e w' ⟨rfl, rfl⟩
        refine hK.out _ _ (fun _ => HS8') ?_
        clear hK K
        simp only [Act.put, List.setIfInBounds_toArray, List.set_cons_zero, List.set_cons_succ]
        refine Pb.U_ready (rs := [10]) (by kernel_rfl) (by simp) ?_
        refine Pb.AllReadyU.cons rfl (fun K hK => ?_) Pb.AllReadyU.nil
        go_simp
        refine (rgives_any op w8).mono ?_
        rintro e w' ⟨rfl, rfl⟩
        refine hK.out _ _ (fun _ => HS8') ?_
        clear hK K
        simp only [Act.put, List.setIfInBounds_toArray, List.set_cons_zero, List.set_cons_succ]
        refine Pb.U_take (i := 11) (oi := { dst := some 117, op := .binOp BinOp.neq 4 (.tmp 113) (.tmp 116) 4, type := 4, pos := "law.go:48", after := #[{ on := 7, ground := .data }, { on := 10, ground := .data }, { on := 4, ground := .guard }], guard := some (4, false) }) (v := .bool false) rfl (by kernel_rfl) (by kernel_rfl) (by kernel_rfl) (by kernel_rfl) (fun _ _ _ h => h) (Or.inl ⟨by rfl, ?_⟩) (by assumption) ?_
        · intro W hSw; (try dsimp only at hSw); go_simp
        simp only [Act.put, List.setIfInBounds_toArray, List.set_cons_zero, List.set_cons_succ]
        refine Pb.U_take (i := 12) (oi := { dst := some 118, op := .pick (.tmp 110) (.const (Value.bool true)) (.tmp 117), type := 4, pos := "law.go:48", after := #[{ on := 4, ground := .data }, { on := 11, ground := .data }], guard := none }) (v := .bool false) rfl (by kernel_rfl) (by kernel_rfl) (by kernel_rfl) (by kernel_rfl) (fun _ _ _ h => h) (Or.inl ⟨by rfl, ?_⟩) (by assumption) ?_
        · intro W hSw; (try dsimp only at hSw); go_simp
        simp only [Act.put, List.setIfInBounds_toArray, List.set_cons_zero, List.set_cons_succ]
        refine Pb.U_done (by kernel_rfl) ?_ _
        clear HS8'
        go_upto_region 20 with fail
        have q0 : w8.cell? ⟨bx, 0, none⟩ = some (.int .i64 op) := HK8.out.cell 0
        have q1 : w8.cell? ⟨bx, 1, none⟩ = some (.int .i64 a) := HK8.out.cell 1
        by_cases h4 : op = 4
        case neg =>
          have h4' : (op == 4) = false := by simpa using h4
          go_upto_region 21 with fail
          clear q0 q1
          have q0 : w8.cell? ⟨bx, 0, none⟩ = some (.int .i64 op) := HK8.out.cell 0
          have q0 : w8.cell? ⟨bx, 0, none⟩ = some (.int .i64 op) := HK8.out.cell 0
          have q1 : w8.cell? ⟨bx, 1, none⟩ = some (.int .i64 a) := HK8.out.cell 1
          have q2 : w8.cell? ⟨bx, 2, none⟩ = some (.int .i64 b) := HK8.out.cell 2
          have q3 : w8.cell? ⟨bx, 3, none⟩ = some (.int .i64 c) := HK8.out.cell 3
          have q4 : w8.cell? ⟨bx, 4, none⟩ = some (.int .i64 x) := HK8.out.cell 4
          go_wp2_with fail
          refine (ruses_any ⟨op, a, b, c, x⟩ w8).mono ?_
          rintro e w9 ⟨A3, c3, rfl, ha3, hb9⟩
          have HE9 := Lib.hid (HE8.out.go (hb9.mono (Nat.le_of_lt HS8.out)))
          have HI9 := Lib.hid (HI8.out.below hb9)
          have HK9 := Lib.hid (HK8.out.below hb9 HK8.out.lt)
          have HA9 := Lib.hid (HA8.out.below hb9)
          have HC9 := Lib.hid (HC8.out.below hb9)
          have HS9 : Hid (nb + 1 < w9.heap.size) := Nat.lt_of_lt_of_le HS8.out hb9.size
          have HF9 : Hid (∀ k, F2 k → nb + 1 ≤ k ∧ k < w9.heap.size) := fun k hk => ⟨(HF8.out k hk).1, Nat.lt_of_lt_of_le (HF8.out k hk).2 hb9.size⟩
          have Hl9 : Hid (w8.heap.size ≤ w9.heap.size) := hb9.size
          have HA3 := Lib.hid ha3
          clear ha3 hb9 q0 q1 q2 q3 q4
          go_wp2_with fail
          refine (same_ints A1 A3 _ _ c1 c3 _ _ w8.heap.size w9.heap.size true w9 HA9.out HA3.out HUf.out HUf.out ⟨fun _ => ⟨rfl, fun _ _ => rfl⟩, fun _ => rfl⟩).mono ?_
          rintro e w' ⟨rfl, q, rfl⟩
          have HE10 := Lib.hid (HE9.out.go (below_of_draw (Below.refl (nb + 1) w9) q))
          have HI10 : Hid (BkI.Is (w9.drewN q) (nb + 1) (nb + 1) F2) := HI9.out.below (below_of_draw (Below.refl _ w9) q)
          have HK10 := Lib.hid (HK9.out.drewN q)
          have HC10 : Hid (IntsAt (w9.drewN q) w8.heap.size A2 (outsL ⟨op, a, b, c, x⟩).length (fun k => (outsL ⟨op, a, b, c, x⟩).getD k 0)) := HC9.out.below (below_of_draw (Below.refl _ w9) q)
          have HS10 : Hid (nb + 1 < (w9.drewN q).heap.size) := HS9.out
          have HF10 : Hid (∀ k, F2 k → nb + 1 ≤ k ∧ k < (w9.drewN q).heap.size) := HF9.out
          have Hl10 : Hid (w8.heap.size ≤ (w9.drewN q).heap.size) := Hl9.out
          clear HE9 HI9 HK9 HA9 HC9 HS9 HF9 HA3 Hl9
          generalize w9.drewN q = w10 at *
          have q0 : w10.cell? ⟨bx, 0, none⟩ = some (.int .i64 op) := HK10.out.cell 0
          have q1 : w10.cell? ⟨bx, 1, none⟩ = some (.int .i64 a) := HK10.out.cell 1
          have q2 : w10.cell? ⟨bx, 2, none⟩ = some (.int .i64 b) := HK10.out.cell 2
          have q3 : w10.cell? ⟨bx, 3, none⟩ = some (.int .i64 c) := HK10.out.cell 3
          have q4 : w10.cell? ⟨bx, 4, none⟩ = some (.int .i64 x) := HK10.out.cell 4
          go_wp2_with fail
          refine (routs_any ⟨op, a, b, c, x⟩ w10).mono ?_
          rintro e w11 ⟨A4, c4, rfl, ha4, hb11⟩
          have HE11 := Lib.hid (HE10.out.go (hb11.mono (Nat.le_of_lt HS10.out)))
          have HI11 := Lib.hid (HI10.out.below hb11)
          have HC11 := Lib.hid (HC10.out.below (hb11.mono Hl10.out))
          have HS11 : Hid (nb + 1 < w11.heap.size) := Nat.lt_of_lt_of_le HS10.out hb11.size
          have HF11 : Hid (∀ k, F2 k → nb + 1 ≤ k ∧ k < w11.heap.size) := fun k hk => ⟨(HF10.out k hk).1, Nat.lt_of_lt_of_le (HF10.out k hk).2 hb11.size⟩
          have HA4 := Lib.hid ha4
          clear ha4 hb11 q0 q1 q2 q3 q4 HK10 HC10 HE10 HI10 HS10 HF10
          go_wp2_with fail
          refine (same_ints A2 A4 _ _ c2 c4 _ _ w8.heap.size w11.heap.size true w11 HC11.out HA4.out HOf.out HOf.out ⟨fun _ => ⟨rfl, fun _ _ => rfl⟩, fun _ => rfl⟩).mono ?_
          rintro e w' ⟨rfl, q, rfl⟩
          have HE12 := Lib.hid (HE11.out.go (below_of_draw (Below.refl (nb + 1) w11) q))
          have HI12 : Hid (BkI.Is (w11.drewN q) (nb + 1) (nb + 1) F2) := HI11.out.below (below_of_draw (Below.refl _ w11) q)
          have HS12 : Hid (nb + 1 < (w11.drewN q).heap.size) := HS11.out
          have HF12 : Hid (∀ k, F2 k → nb + 1 ≤ k ∧ k < (w11.drewN q).heap.size) := HF11.out
          clear HE11 HI11 HC11 HS11 HF11 HA4
          generalize w11.drewN q = w12 at *
          go_wp2_with fail
          go_roundg (T.ni - (j + 1))
          case rel => exact ⟨j + 1, F2, rfl, by go_num, by omega, HI12.out, HF12.out, HE12.out, HS12.out⟩
          case measure => have := Hg.out; omega
        have h4' : (op == 4) = true := by simpa using h4
        clear h4
        by_cases h2 : isTwo a = true
        case pos =>
          have H2 := Lib.hid h2
          clear h2
          go_wp2_with fail
          refine (isTwo_any a w8).mono ?_
          rintro e w' ⟨rfl, rfl⟩
          rw [H2.out]
          go_upto_region 21 with fail
          clear q0 q1
          have q0 : w8.cell? ⟨bx, 0, none⟩ = some (.int .i64 op) := HK8.out.cell 0
          have q0 : w8.cell? ⟨bx, 0, none⟩ = some (.int .i64 op) := HK8.out.cell 0
          have q1 : w8.cell? ⟨bx, 1, none⟩ = some (.int .i64 a) := HK8.out.cell 1
          have q2 : w8.cell? ⟨bx, 2, none⟩ = some (.int .i64 b) := HK8.out.cell 2
          have q3 : w8.cell? ⟨bx, 3, none⟩ = some (.int .i64 c) := HK8.out.cell 3
          have q4 : w8.cell? ⟨bx, 4, none⟩ = some (.int .i64 x) := HK8.out.cell 4
          go_wp2_with fail
          refine (ruses_any ⟨op, a, b, c, x⟩ w8).mono ?_
          rintro e w9 ⟨A3, c3, rfl, ha3, hb9⟩
          have HE9 := Lib.hid (HE8.out.go (hb9.mono (Nat.le_of_lt HS8.out)))
          have HI9 := Lib.hid (HI8.out.below hb9)
          have HK9 := Lib.hid (HK8.out.below hb9 HK8.out.lt)
          have HA9 := Lib.hid (HA8.out.below hb9)
          have HC9 := Lib.hid (HC8.out.below hb9)
          have HS9 : Hid (nb + 1 < w9.heap.size) := Nat.lt_of_lt_of_le HS8.out hb9.size
          have HF9 : Hid (∀ k, F2 k → nb + 1 ≤ k ∧ k < w9.heap.size) := fun k hk => ⟨(HF8.out k hk).1, Nat.lt_of_lt_of_le (HF8.out k hk).2 hb9.size⟩
          have Hl9 : Hid (w8.heap.size ≤ w9.heap.size) := hb9.size
          have HA3 := Lib.hid ha3
          clear ha3 hb9 q0 q1 q2 q3 q4
          go_wp2_with fail
          refine (same_ints A1 A3 _ _ c1 c3 _ _ w8.heap.size w9.heap.size true w9 HA9.out HA3.out HUf.out HUf.out ⟨fun _ => ⟨rfl, fun _ _ => rfl⟩, fun _ => rfl⟩).mono ?_
          rintro e w' ⟨rfl, q, rfl⟩
          have HE10 := Lib.hid (HE9.out.go (below_of_draw (Below.refl (nb + 1) w9) q))
          have HI10 : Hid (BkI.Is (w9.drewN q) (nb + 1) (nb + 1) F2) := HI9.out.below (below_of_draw (Below.refl _ w9) q)
          have HK10 := Lib.hid (HK9.out.drewN q)
          have HC10 : Hid (IntsAt (w9.drewN q) w8.heap.size A2 (outsL ⟨op, a, b, c, x⟩).length (fun k => (outsL ⟨op, a, b, c, x⟩).getD k 0)) := HC9.out.below (below_of_draw (Below.refl _ w9) q)
          have HS10 : Hid (nb + 1 < (w9.drewN q).heap.size) := HS9.out
          have HF10 : Hid (∀ k, F2 k → nb + 1 ≤ k ∧ k < (w9.drewN q).heap.size) := HF9.out
          have Hl10 : Hid (w8.heap.size ≤ (w9.drewN q).heap.size) := Hl9.out
          clear HE9 HI9 HK9 HA9 HC9 HS9 HF9 HA3 Hl9
          generalize w9.drewN q = w10 at *
          have q0 : w10.cell? ⟨bx, 0, none⟩ = some (.int .i64 op) := HK10.out.cell 0
          have q1 : w10.cell? ⟨bx, 1, none⟩ = some (.int .i64 a) := HK10.out.cell 1
          have q2 : w10.cell? ⟨bx, 2, none⟩ = some (.int .i64 b) := HK10.out.cell 2
          have q3 : w10.cell? ⟨bx, 3, none⟩ = some (.int .i64 c) := HK10.out.cell 3
          have q4 : w10.cell? ⟨bx, 4, none⟩ = some (.int .i64 x) := HK10.out.cell 4
          go_wp2_with fail
          refine (routs_any ⟨op, a, b, c, x⟩ w10).mono ?_
          rintro e w11 ⟨A4, c4, rfl, ha4, hb11⟩
          have HE11 := Lib.hid (HE10.out.go (hb11.mono (Nat.le_of_lt HS10.out)))
          have HI11 := Lib.hid (HI10.out.below hb11)
          have HC11 := Lib.hid (HC10.out.below (hb11.mono Hl10.out))
          have HS11 : Hid (nb + 1 < w11.heap.size) := Nat.lt_of_lt_of_le HS10.out hb11.size
          have HF11 : Hid (∀ k, F2 k → nb + 1 ≤ k ∧ k < w11.heap.size) := fun k hk => ⟨(HF10.out k hk).1, Nat.lt_of_lt_of_le (HF10.out k hk).2 hb11.size⟩
          have HA4 := Lib.hid ha4
          clear ha4 hb11 q0 q1 q2 q3 q4 HK10 HC10 HE10 HI10 HS10 HF10
          go_wp2_with fail
          refine (same_ints A2 A4 _ _ c2 c4 _ _ w8.heap.size w11.heap.size true w11 HC11.out HA4.out HOf.out HOf.out ⟨fun _ => ⟨rfl, fun _ _ => rfl⟩, fun _ => rfl⟩).mono ?_
          rintro e w' ⟨rfl, q, rfl⟩
          have HE12 := Lib.hid (HE11.out.go (below_of_draw (Below.refl (nb + 1) w11) q))
          have HI12 : Hid (BkI.Is (w11.drewN q) (nb + 1) (nb + 1) F2) := HI11.out.below (below_of_draw (Below.refl _ w11) q)
          have HS12 : Hid (nb + 1 < (w11.drewN q).heap.size) := HS11.out
          have HF12 : Hid (∀ k, F2 k → nb + 1 ≤ k ∧ k < (w11.drewN q).heap.size) := HF11.out
          clear HE11 HI11 HC11 HS11 HF11 HA4
          generalize w11.drewN q = w12 at *
          go_wp2_with fail
          go_roundg (T.ni - (j + 1))
          case rel => exact ⟨j + 1, F2, rfl, by go_num, by omega, HI12.out, HF12.out, HE12.out, HS12.out⟩
          case measure => have := Hg.out; omega
        have h2' : isTwo a = false := by simpa using h2
        have H2 := Lib.hid h2'
        clear h2 h2'
        by_cases h1 : isOne a = true
        case pos =>
          have H1 := Lib.hid h1
          clear h1
          go_wp2_with fail
          refine (isTwo_any a w8).mono ?_
          rintro e w' ⟨rfl, rfl⟩
          rw [H2.out]
          go_wp2_with fail
          refine (isOne_any a w8).mono ?_
          rintro e w' ⟨rfl, rfl⟩
          rw [H1.out]
          go_upto_region 21 with fail
          clear q0 q1
          have q0 : w8.cell? ⟨bx, 0, none⟩ = some (.int .i64 op) := HK8.out.cell 0
          have q0 : w8.cell? ⟨bx, 0, none⟩ = some (.int .i64 op) := HK8.out.cell 0
          have q1 : w8.cell? ⟨bx, 1, none⟩ = some (.int .i64 a) := HK8.out.cell 1
          have q2 : w8.cell? ⟨bx, 2, none⟩ = some (.int .i64 b) := HK8.out.cell 2
          have q3 : w8.cell? ⟨bx, 3, none⟩ = some (.int .i64 c) := HK8.out.cell 3
          have q4 : w8.cell? ⟨bx, 4, none⟩ = some (.int .i64 x) := HK8.out.cell 4
          go_wp2_with fail
          refine (ruses_any ⟨op, a, b, c, x⟩ w8).mono ?_
          rintro e w9 ⟨A3, c3, rfl, ha3, hb9⟩
          have HE9 := Lib.hid (HE8.out.go (hb9.mono (Nat.le_of_lt HS8.out)))
          have HI9 := Lib.hid (HI8.out.below hb9)
          have HK9 := Lib.hid (HK8.out.below hb9 HK8.out.lt)
          have HA9 := Lib.hid (HA8.out.below hb9)
          have HC9 := Lib.hid (HC8.out.below hb9)
          have HS9 : Hid (nb + 1 < w9.heap.size) := Nat.lt_of_lt_of_le HS8.out hb9.size
          have HF9 : Hid (∀ k, F2 k → nb + 1 ≤ k ∧ k < w9.heap.size) := fun k hk => ⟨(HF8.out k hk).1, Nat.lt_of_lt_of_le (HF8.out k hk).2 hb9.size⟩
          have Hl9 : Hid (w8.heap.size ≤ w9.heap.size) := hb9.size
          have HA3 := Lib.hid ha3
          clear ha3 hb9 q0 q1 q2 q3 q4
          go_wp2_with fail
          refine (same_ints A1 A3 _ _ c1 c3 _ _ w8.heap.size w9.heap.size true w9 HA9.out HA3.out HUf.out HUf.out ⟨fun _ => ⟨rfl, fun _ _ => rfl⟩, fun _ => rfl⟩).mono ?_
          rintro e w' ⟨rfl, q, rfl⟩
          have HE10 := Lib.hid (HE9.out.go (below_of_draw (Below.refl (nb + 1) w9) q))
          have HI10 : Hid (BkI.Is (w9.drewN q) (nb + 1) (nb + 1) F2) := HI9.out.below (below_of_draw (Below.refl _ w9) q)
          have HK10 := Lib.hid (HK9.out.drewN q)
          have HC10 : Hid (IntsAt (w9.drewN q) w8.heap.size A2 (outsL ⟨op, a, b, c, x⟩).length (fun k => (outsL ⟨op, a, b, c, x⟩).getD k 0)) := HC9.out.below (below_of_draw (Below.refl _ w9) q)
          have HS10 : Hid (nb + 1 < (w9.drewN q).heap.size) := HS9.out
          have HF10 : Hid (∀ k, F2 k → nb + 1 ≤ k ∧ k < (w9.drewN q).heap.size) := HF9.out
          have Hl10 : Hid (w8.heap.size ≤ (w9.drewN q).heap.size) := Hl9.out
          clear HE9 HI9 HK9 HA9 HC9 HS9 HF9 HA3 Hl9
          generalize w9.drewN q = w10 at *
          have q0 : w10.cell? ⟨bx, 0, none⟩ = some (.int .i64 op) := HK10.out.cell 0
          have q1 : w10.cell? ⟨bx, 1, none⟩ = some (.int .i64 a) := HK10.out.cell 1
          have q2 : w10.cell? ⟨bx, 2, none⟩ = some (.int .i64 b) := HK10.out.cell 2
          have q3 : w10.cell? ⟨bx, 3, none⟩ = some (.int .i64 c) := HK10.out.cell 3
          have q4 : w10.cell? ⟨bx, 4, none⟩ = some (.int .i64 x) := HK10.out.cell 4
          go_wp2_with fail
          refine (routs_any ⟨op, a, b, c, x⟩ w10).mono ?_
          rintro e w11 ⟨A4, c4, rfl, ha4, hb11⟩
          have HE11 := Lib.hid (HE10.out.go (hb11.mono (Nat.le_of_lt HS10.out)))
          have HI11 := Lib.hid (HI10.out.below hb11)
          have HC11 := Lib.hid (HC10.out.below (hb11.mono Hl10.out))
          have HS11 : Hid (nb + 1 < w11.heap.size) := Nat.lt_of_lt_of_le HS10.out hb11.size
          have HF11 : Hid (∀ k, F2 k → nb + 1 ≤ k ∧ k < w11.heap.size) := fun k hk => ⟨(HF10.out k hk).1, Nat.lt_of_lt_of_le (HF10.out k hk).2 hb11.size⟩
          have HA4 := Lib.hid ha4
          clear ha4 hb11 q0 q1 q2 q3 q4 HK10 HC10 HE10 HI10 HS10 HF10
          go_wp2_with fail
          refine (same_ints A2 A4 _ _ c2 c4 _ _ w8.heap.size w11.heap.size true w11 HC11.out HA4.out HOf.out HOf.out ⟨fun _ => ⟨rfl, fun _ _ => rfl⟩, fun _ => rfl⟩).mono ?_
          rintro e w' ⟨rfl, q, rfl⟩
          have HE12 := Lib.hid (HE11.out.go (below_of_draw (Below.refl (nb + 1) w11) q))
          have HI12 : Hid (BkI.Is (w11.drewN q) (nb + 1) (nb + 1) F2) := HI11.out.below (below_of_draw (Below.refl _ w11) q)
          have HS12 : Hid (nb + 1 < (w11.drewN q).heap.size) := HS11.out
          have HF12 : Hid (∀ k, F2 k → nb + 1 ≤ k ∧ k < (w11.drewN q).heap.size) := HF11.out
          clear HE11 HI11 HC11 HS11 HF11 HA4
          generalize w11.drewN q = w12 at *
          go_wp2_with fail
          go_roundg (T.ni - (j + 1))
          case rel => exact ⟨j + 1, F2, rfl, by go_num, by omega, HI12.out, HF12.out, HE12.out, HS12.out⟩
          case measure => have := Hg.out; omega
        have h1' : isOne a = false := by simpa using h1
        have H1 := Lib.hid h1'
        clear h1 h1'
        go_wp2_with fail
        refine (isTwo_any a w8).mono ?_
        rintro e w' ⟨rfl, rfl⟩
        rw [H2.out]
        go_wp2_with fail
        refine (isOne_any a w8).mono ?_
        rintro e w' ⟨rfl, rfl⟩
        rw [H1.out]
        go_wp2_with fail
        go_roundg (T.ni - (j + 1))
        case rel => exact ⟨j + 1, F2, rfl, by go_num, by omega, HI8.out, HF8.out, HE8.out, HS8.out⟩
        case measure => have := Hg.out; omega
end Go.Proofs.YtoaidcjjjoafjaaGreatDoor.Ir
