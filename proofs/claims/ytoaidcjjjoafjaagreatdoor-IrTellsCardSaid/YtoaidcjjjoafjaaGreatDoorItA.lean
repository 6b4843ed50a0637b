/-
  Chapter 14 (ir): lists of one's own; a trace that was lent stays; numbers of instructions within their bounds.
-/
import Derived.Test.YtoaidcjjjoafjaaGreatDoorIrY
import Derived.Test.YtoaidcjjjoafjaaGreatDoorIrS
import Derived.Test.YtoaidcjjjoafjaaGreatDoorBkI
namespace Go.Proofs.YtoaidcjjjoafjaaGreatDoor.Ir
open Go.RowKit Go.ChangeShapes Go.WideShapes Go.ChangeAt Go.Deep

theorem book_cut {w : World} {B b : Nat} {F : Nat → Prop} (H : BkI.Is w B b F) : BkI.Is w B b (fun k => F k ∧ k < w.heap.size) := by
  obtain ⟨v, v', n, R, R', L, h⟩ := H
  have o1 : ∀ k, v.ownBlock = some k → k < w.heap.size := fun k hk => (h.rows.out.lt k hk).2
  have o2 : ∀ k, v'.ownBlock = some k → k < w.heap.size := fun k hk => (h.copies.out.lt k hk).2
  exact ⟨v, v', n, R, R', L, { h with
    fb := ⟨h.fb, h.blk.lt⟩
    fv := fun k hk => ⟨h.fv k hk, o1 k hk⟩
    fv' := fun k hk => ⟨h.fv' k hk, o2 k hk⟩
    fr := fun i hi k hk => ⟨h.fr i hi k hk, ((h.rows.inn i hi).lt hk).2⟩
    fr' := fun i hi k hk => ⟨h.fr' i hi k hk, ((h.copies.inn i hi).lt hk).2⟩ }⟩
/-- A list of numbers is handed back, in a row of its own. -/
def GotOwn (w : World) (l : List Int) (e : Ending) (w' : World) : Prop :=
  ∃ A c, e = .returned (.slice A l.length c) ∧ w'.ownsRow w.heap.size 3 1 (.slice A l.length c) l.length (l.map (Value.int .i64)) ∧ Below w.heap.size w w'
theorem own0 {w W1 : World} (h : Below w.heap.size w W1) : GotOwn w [] (.returned (.slice none 0 0)) W1 := ⟨none, 0, rfl, World.ownsRow_nil _ _ _ _, h⟩
theorem ownRow {w W1 : World} {n : Nat} (l : List Value) (h : Below w.heap.size w W1) (hn : n = W1.heap.size) (h0 : l.length ≤ 5) : (W1.alloc (.cells l.toArray 3)).ownsRow w.heap.size 3 1 (.slice (some ⟨n, 0, none⟩) l.length l.length) l.length l := by
  subst hn
  exact ⟨by simp, .inr ⟨W1.heap.size, l.length, l.toArray, rfl, h.size, heap_alloc_new _ _, Nat.le_refl _, by unfold maxLen; omega, by simp, by simp⟩⟩
theorem own1 {w W1 : World} {n : Nat} (b : Int) (h : Below w.heap.size w W1) (hn : n = W1.heap.size) : GotOwn w [b] (.returned (.slice (some ⟨n, 0, none⟩) 1 1)) (W1.alloc (.cells #[.int .i64 b] 3)) :=
  ⟨_, 1, rfl, ownRow [.int .i64 b] h hn (by simp), h.alloc h.size _⟩
theorem own2 {w W1 : World} {n : Nat} (b c : Int) (h : Below w.heap.size w W1) (hn : n = W1.heap.size) : GotOwn w [b, c] (.returned (.slice (some ⟨n, 0, none⟩) 2 2)) (W1.alloc (.cells #[.int .i64 b, .int .i64 c] 3)) :=
  ⟨_, 2, rfl, ownRow [.int .i64 b, .int .i64 c] h hn (by simp), h.alloc h.size _⟩
theorem GotOwn.ints {W : World} {base c : Nat} {A : Option Addr} {l : List Int} (h : W.ownsRow base 3 1 (.slice A l.length c) l.length (l.map (Value.int .i64))) : IntsAt W W.heap.size A l.length (fun k => l.getD k 0) := by
  rcases Nat.eq_zero_or_pos l.length with h0 | h0
  · exact .inl h0
  · obtain ⟨g, c2, hA, hg, hgl⟩ := World.ownsRow.form h h0
    injection hA with hA _ _
    subst hA
    refine .inr ⟨g, 0, rfl, hgl, fun i hi => ?_⟩
    show W.cell? ⟨g, 0 + i, none⟩ = some (.int .i64 (l.getD i 0))
    rw [Nat.zero_add, h.cellAt i (by omega), List.getElem?_map, List.getElem?_eq_getElem hi, List.getD_eq_getElem?_getD, List.getElem?_eq_getElem hi]
    rfl
set_option maxHeartbeats 1000000 in
theorem uses_own (i : Ins) (w : World) : Calls Tryz.prog 12 #[.agg (insCells i)] w (GotOwn w (usesL i)) := by
  obtain ⟨op, a, b, c, x⟩ := i
  have hba : ∀ o, Below w.heap.size w (w.alloc o) := fun o => (Below.refl _ _).alloc (Nat.le_refl _) o
  have HB := Lib.hid hba
  clear hba
  unfold insCells usesL
  by_cases h4 : op = 4
  · subst h4
    cases ht : isTwo a
    · have Ht := Lib.hid ht
      clear ht
      simp only [if_true, Bool.false_eq_true, if_false]
      go_enter Tryz.func12, Tryz.ntmps12
      go_wp2_with fail
      refine (two_any a _).mono ?_
      rintro e w' ⟨rfl, q, rfl⟩
      rw [Ht.out]
      go_wp2_with fail
      go_ret
      exact own1 b (below_of_draw (HB.out _) q) (by simp)
    · have Ht := Lib.hid ht
      clear ht
      simp only [if_true]
      go_enter Tryz.func12, Tryz.ntmps12
      go_wp2_with fail
      refine (two_any a _).mono ?_
      rintro e w' ⟨rfl, q, rfl⟩
      rw [Ht.out]
      go_wp2_with fail
      go_ret
      exact own2 b c (below_of_draw (HB.out _) q) (by simp)
  · rw [if_neg h4]
    by_cases h6 : op = 6 ∨ op = 9
    · rw [if_pos h6]
      rcases h6 with rfl | rfl
      all_goals
        go_enter Tryz.func12, Tryz.ntmps12
        go_wp2_with fail
        go_ret
        exact own2 b c (HB.out _) (by simp)
    · rw [if_neg h6]
      by_cases h5 : op = 5 ∨ op = 7 ∨ op = 8 ∨ op = 10 ∨ op = 11
      · rw [if_pos h5]
        rcases h5 with rfl | rfl | rfl | rfl | rfl
        all_goals
          go_enter Tryz.func12, Tryz.ntmps12
          go_wp2_with fail
          go_ret
          exact own1 b (HB.out _) (by simp)
      · rw [if_neg h5]
        simp only [not_or] at h6 h5
        obtain ⟨n6, n9⟩ := h6
        obtain ⟨n5, n7, n8, n10, n11⟩ := h5
        go_enter Tryz.func12, Tryz.ntmps12
        go_wp2_with fail
        go_ret
        exact own0 (HB.out _)

set_option maxHeartbeats 1000000 in
theorem outs_own (i : Ins) (w : World) : Calls Tryz.prog 13 #[.agg (insCells i)] w (GotOwn w (outsL i)) := by
  obtain ⟨op, a, b, c, x⟩ := i
  have hba : ∀ o, Below w.heap.size w (w.alloc o) := fun o => (Below.refl _ _).alloc (Nat.le_refl _) o
  have HB := Lib.hid hba
  clear hba
  unfold insCells outsL
  by_cases h4 : op = 4
  · subst h4
    simp only [if_true]
    by_cases ha : a = 14 ∨ a = 15
    · rw [if_pos ha]
      rcases ha with rfl | rfl
      all_goals
        go_enter Tryz.func13, Tryz.ntmps13
        go_wp2_with fail
        go_ret
        exact own1 x (HB.out _) (by simp)
    · rw [if_neg ha]
      simp only [not_or] at ha
      have a1 : (a != 14) = true := bne_iff_ne.2 ha.1
      have a2 : (a != 15) = true := bne_iff_ne.2 ha.2
      clear ha
      go_enter Tryz.func13, Tryz.ntmps13
      go_wp2_with fail
      go_ret
      exact own0 (HB.out _)
  · rw [if_neg h4]
    by_cases h5 : op = 5 ∨ op = 7 ∨ op = 8 ∨ op = 9 ∨ op = 10 ∨ op = 11
    · rw [if_pos h5]
      rcases h5 with rfl | rfl | rfl | rfl | rfl | rfl
      all_goals
        go_enter Tryz.func13, Tryz.ntmps13
        go_wp2_with fail
        go_ret
        exact own1 x (HB.out _) (by simp)
    · rw [if_neg h5]
      by_cases h6 : op = 6
      · rw [if_pos h6]
        subst h6
        go_enter Tryz.func13, Tryz.ntmps13
        go_wp2_with fail
        go_ret
        exact own2 x a (HB.out _) (by simp)
      · rw [if_neg h6]
        simp only [not_or] at h5
        obtain ⟨n5, n7, n8, n9, n10, n11⟩ := h5
        go_enter Tryz.func13, Tryz.ntmps13
        go_wp2_with fail
        go_ret
        exact own0 (HB.out _)


def In4 (i : Ins) : Prop := In64 i.a ∧ In64 i.b ∧ In64 i.c ∧ In64 i.x
section
variable {H : Type} {enc : TypeId × Value → H} {W : World} {A : Option Addr} {len cap fuel : Nat} {x : DataW H × List MemPlace} {base B : Nat} {spare : Nat → Bool} {held : Bool}
set_option maxRecDepth 100000 in
theorem rng4_ins {f : Nat → Ins} (h : DataW.trod enc Tryz.prog W base spare held fuel 22 [.slice A len cap] = some x) (hA : InsAt W B A len f) : ∀ i, i < len → In4 (f i) := by
  intro i hi
  obtain ⟨b, off, rfl, _, hc⟩ := hA.resolve_left (by omega)
  obtain ⟨x0, x1, x2, x3, x4⟩ := hc i hi
  rcases open_fields Tryz.underlying22 Tryz.underlying42 (by kernel_rfl) (by kernel_rfl) h with hcs | ⟨a, l, c, hcs, hm, hl, hi'⟩
  · simp at hcs
  · simp at hcs
    obtain ⟨rfl, rfl, rfl⟩ := hcs
    obtain ⟨n, hf⟩ := hi' i hi
    obtain ⟨v1, y1, c1, t1⟩ := hf 1 _ rfl
    obtain ⟨z1, e1, _, w1⟩ := DataW.trod_int Tryz.underlying3 t1
    simp at e1
    subst e1
    rw [add_plain] at c1
    have c1' : W.cell? ⟨b, off + (i * 5 + 1), none⟩ = some (.int .i64 z1) := c1
    rw [← Nat.add_assoc, x1] at c1'
    injection c1' with c1'
    injection c1' with _ c1'
    obtain ⟨v2, y2, c2, t2⟩ := hf 2 _ rfl
    obtain ⟨z2, e2, _, w2⟩ := DataW.trod_int Tryz.underlying3 t2
    simp at e2
    subst e2
    rw [add_plain] at c2
    have c2' : W.cell? ⟨b, off + (i * 5 + 2), none⟩ = some (.int .i64 z2) := c2
    rw [← Nat.add_assoc, x2] at c2'
    injection c2' with c2'
    injection c2' with _ c2'
    obtain ⟨v3, y3, c3, t3⟩ := hf 3 _ rfl
    obtain ⟨z3, e3, _, w3⟩ := DataW.trod_int Tryz.underlying3 t3
    simp at e3
    subst e3
    rw [add_plain] at c3
    have c3' : W.cell? ⟨b, off + (i * 5 + 3), none⟩ = some (.int .i64 z3) := c3
    rw [← Nat.add_assoc, x3] at c3'
    injection c3' with c3'
    injection c3' with _ c3'
    obtain ⟨v4, y4, c4, t4⟩ := hf 4 _ rfl
    obtain ⟨z4, e4, _, w4⟩ := DataW.trod_int Tryz.underlying3 t4
    simp at e4
    subst e4
    rw [add_plain] at c4
    have c4' : W.cell? ⟨b, off + (i * 5 + 4), none⟩ = some (.int .i64 z4) := c4
    rw [← Nat.add_assoc, x4] at c4'
    injection c4' with c4'
    injection c4' with _ c4'
    unfold In4
    rw [c1', c2', c3', c4']
    exact ⟨in64_of w1, in64_of w2, in64_of w3, in64_of w4⟩
set_option maxRecDepth 100000 in
theorem rng4_of {T : Tr} {Ai Ao Ac : Option Addr} {ci co cc : Nat} {d : DataW H} {p : List MemPlace} (h : DataW.Trod enc Tryz.prog W 0 (fun _ => true) true 26 (.agg (trCells T Ai ci Ao co Ac cc)) d p) (hB : TrBig W B T Ai Ao Ac) : ∀ i, i < T.ni → In4 (T.ins i) := by
  obtain ⟨fuel, hf⟩ := h
  obtain ⟨ys, n', hn', hy, hlen, hyl, hf⟩ := DataW.trod_struct Tryz.underlying26 hf
  have t5 := hf 5 _ rfl
  have g : ∀ (i : Nat), i < 9 → ∃ y, ys[i]? = some y := fun i hi => ⟨ys[i]'(by rw [hyl]; exact hi), List.getElem?_eq_getElem (by rw [hyl]; exact hi)⟩
  obtain ⟨y5, g5⟩ := g 5 (by omega)
  rw [g5] at t5
  have u5 : DataW.trod enc Tryz.prog W 0 (fun _ => true) true n' 22 [.slice Ai T.ni ci] = some y5 := t5
  exact rng4_ins u5 hB.ins
end

set_option maxHeartbeats 4000000 in
set_option maxRecDepth 100000 in
theorem stays_trace (T : Tr) (gi di go do_ gc dc : Nat) (Ai Ao Ac : Option Addr) (ci co cc : Nat) (B : Nat) (w : World) (hM : Lent w B T gi di go do_ gc dc) (hB : B ≤ w.heap.size) (hT : TrAt w B T Ai Ao Ac) (hL : LightT T) :
    Calls Tryz.prog 23 #[.agg (trCells T (some ⟨gi, 0, none⟩) di (some ⟨go, 0, none⟩) do_ (some ⟨gc, 0, none⟩) dc), .agg (trCells T Ai ci Ao co Ac cc)] w fun e w' => e = .returned (.bool true) ∧ Below w.heap.size w w' := by
  have hF := few_light hL
  have kA := (Blk.new w 26 (trCells T (some ⟨gi, 0, none⟩) di (some ⟨go, 0, none⟩) do_ (some ⟨gc, 0, none⟩) dc)).alloc (.cells (trCells T Ai ci Ao co Ac cc) 26)
  have kB : Blk ((w.alloc (.cells (trCells T (some ⟨gi, 0, none⟩) di (some ⟨go, 0, none⟩) do_ (some ⟨gc, 0, none⟩) dc) 26)).alloc (.cells (trCells T Ai ci Ao co Ac cc) 26)) (w.heap.size + 1) 26 (trCells T Ai ci Ao co Ac cc) := by
    have := Blk.new (w.alloc (.cells (trCells T (some ⟨gi, 0, none⟩) di (some ⟨go, 0, none⟩) do_ (some ⟨gc, 0, none⟩) dc) 26)) 26 (trCells T Ai ci Ao co Ac cc)
    simpa using this
  have hbel := bel2 w (.cells (trCells T (some ⟨gi, 0, none⟩) di (some ⟨go, 0, none⟩) do_ (some ⟨gc, 0, none⟩) dc) 26) (.cells (trCells T Ai ci Ao co Ac cc) 26)
  have HM : Hid (∀ W, Below w.heap.size w W → Lent W B T gi di go do_ gc dc) := fun W h => hM.below (h.mono hB)
  have HT : Hid (∀ W, Below w.heap.size w W → TrAt W B T Ai Ao Ac) := fun W h => hT.below (h.mono hB)
  have HF := Lib.hid hF
  have KA2 := Lib.hid kA
  have KB2 := Lib.hid kB
  have HB2 := Lib.hid hbel
  clear hM hT hL hF kA kB hbel hB
  unfold trCells at *
  go_enter Tryz.func23, Tryz.ntmps23
  go_wp2_with fail
  generalize (w.alloc (.cells #[.int .i64 T.start, .int .i64 T.slots, .int .i64 T.backs, .int .i64 T.grow, .int .i64 T.growBack, .slice (some ⟨gi, 0, none⟩) T.ni di, .slice (some ⟨go, 0, none⟩) T.no do_, .int .i64 T.last, .slice (some ⟨gc, 0, none⟩) T.nc dc] 26)).alloc (.cells #[.int .i64 T.start, .int .i64 T.slots, .int .i64 T.backs, .int .i64 T.grow, .int .i64 T.growBack, .slice Ai T.ni ci, .slice Ao T.no co, .int .i64 T.last, .slice Ac T.nc cc] 26) = w2 at *
  have k2 : w2.cell? ⟨w.heap.size, 5, none⟩ = some (.slice (some ⟨gi, 0, none⟩) T.ni di) := KA2.out.cell 5
  have l2 : w2.cell? ⟨w.heap.size + 1, 5, none⟩ = some (.slice Ai T.ni ci) := KB2.out.cell 5
  go_wp2_with fail
  refine (stays_codes gi Ai T.ni di ci T.ins B B w2 (HM.out _ HB2.out).at_.ins (HT.out _ HB2.out).ins HF.out.1 (HM.out _ HB2.out).ri (HM.out _ HB2.out).mi).mono ?_
  rintro e w' ⟨rfl, q, rfl⟩
  have KA3 := Lib.hid (KA2.out.drewN q)
  have KB3 := Lib.hid (KB2.out.drewN q)
  have HB3 := Lib.hid (below_of_draw HB2.out q)
  clear k2 l2 KA2 KB2 HB2
  generalize w2.drewN q = w3 at *
  have k3 : w3.cell? ⟨w.heap.size, 6, none⟩ = some (.slice (some ⟨go, 0, none⟩) T.no do_) := KA3.out.cell 6
  have l3 : w3.cell? ⟨w.heap.size + 1, 6, none⟩ = some (.slice Ao T.no co) := KB3.out.cell 6
  go_wp2_with fail
  refine (stays_exits go Ao T.no do_ co T.outs B B w3 (HM.out _ HB3.out).at_.outs (HT.out _ HB3.out).outs HF.out.2.1 (HM.out _ HB3.out).ro (HM.out _ HB3.out).mo).mono ?_
  rintro e w' ⟨rfl, q, rfl⟩
  have KA4 := Lib.hid (KA3.out.drewN q)
  have KB4 := Lib.hid (KB3.out.drewN q)
  have HB4 := Lib.hid (below_of_draw HB3.out q)
  clear k3 l3 KA3 KB3 HB3
  generalize w3.drewN q = w4 at *
  have k4 : w4.cell? ⟨w.heap.size, 8, none⟩ = some (.slice (some ⟨gc, 0, none⟩) T.nc dc) := KA4.out.cell 8
  have l4 : w4.cell? ⟨w.heap.size + 1, 8, none⟩ = some (.slice Ac T.nc cc) := KB4.out.cell 8
  go_wp2_with fail
  refine (stays_ints gc Ac T.nc dc cc T.cells B B w4 (HM.out _ HB4.out).at_.cells (HT.out _ HB4.out).cells HF.out.2.2.1 (HM.out _ HB4.out).rc (HM.out _ HB4.out).mc).mono ?_
  rintro e w' ⟨rfl, q, rfl⟩
  have KA5 := Lib.hid (KA4.out.drewN q)
  have KB5 := Lib.hid (KB4.out.drewN q)
  have HB5 := Lib.hid (below_of_draw HB4.out q)
  clear k4 l4 KA4 KB4 HB4
  generalize w4.drewN q = w5 at *
  go_wp2_with fail
  go_ret
  exact ⟨rfl, HB5.out⟩
end Go.Proofs.YtoaidcjjjoafjaaGreatDoor.Ir
