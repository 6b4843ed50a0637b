/-
  Lemmas on the way, for every input that they name: McR, McU, McW.
-/
import Derived.Test.YtompdfpjmdnhoabGreatDoorQ05
import Derived.Test.YtompdfpjmdnhoabGreatDoorQ08
import Derived.Test.YtompdfpjmdnhoabGreatDoorQ11
import Derived.Test.YtompdfpjmdnhoabGreatDoorQ12
set_option linter.unusedVariables false
set_option linter.unusedSimpArgs false
set_option linter.deprecated false
namespace Go.Proofs.YtompdfpjmdnhoabGreatDoor.Mc
open Go.RowKit Go.Proofs.YtompdfpjmdnhoabGreatDoor.Rs
theorem row_own {w : World} {B : Nat} {A : Option Addr} {n c : Nat} {xs : List Value} (h : Row w B 3 1 (.slice A n c) n xs) (hn : 0 < n) : w.ownsRow B 3 1 (.slice A n c) n xs := by
  rcases h.to_own with h | ⟨h0, _⟩
  · exact h
  · omega
theorem clone_row (B : Nat) (A : Option Addr) (c n : Nat) (l : List Int) (hn : n = l.length) (w : World) (H : Row w B 3 1 (.slice A n c) n (ints l)) (hs : l.length ≤ 5000) :
    Calls Tryz.prog 33 #[.slice A n c] w fun e w' => ∃ A' c', e = .returned (.slice A' n c') ∧ Row w' w.heap.size 3 1 (.slice A' n c') n (ints l) ∧ Below w.heap.size w w' := by
  subst hn
  rcases Nat.eq_zero_or_pos l.length with h0 | h0
  · have hM : l = [] := List.eq_nil_of_length_eq_zero h0
    subst hM
    cases A with
    | none =>
      refine (Tryz.slices_Clone_int_nil _ _ w).mono ?_
      rintro e w' ⟨rfl, rfl⟩
      exact ⟨none, 0, rfl, Row.nil _ _ _ _ _, Below.refl _ _⟩
    | some ad =>
      refine (Tryz.slices_Clone_int_zero ad c w).mono ?_
      rintro e w' ⟨v', rfl, ho, _, hb⟩
      obtain ⟨A', cap', rfl⟩ := own_slice ho
      exact ⟨A', cap', rfl, Row.of_own ho, hb⟩
  · refine (Wv.clone_own B A c l w (row_own H h0) hs).mono ?_
    rintro e w' ⟨A', c', rfl, ho, hb⟩
    exact ⟨A', c', rfl, Row.of_own ho, hb⟩
def stRows (sv bv mv : Value) (s : S) : List Res := [.row 3 1 sv s.stack.length (ints s.stack), .row 3 1 bv s.back.length (ints s.back), .row 3 1 mv s.mem.length (ints s.mem)]
structure StRows (w : World) (B : Nat) (sv bv mv : Value) (s : S) : Prop where
  st : Row w B 3 1 sv s.stack.length (ints s.stack)
  bk : Row w B 3 1 bv s.back.length (ints s.back)
  me : Row w B 3 1 mv s.mem.length (ints s.mem)
theorem StRows.below {w w' : World} {B N : Nat} {sv bv mv : Value} {s : S} (h : StRows w B sv bv mv s) (hb : Below N w w') (hN : w.heap.size ≤ N) : StRows w' B sv bv mv s := by
  have T : Touch w w' (fun _ => False) := Touch.of_below (hb.mono hN) _
  exact ⟨h.st.touch T (fun _ _ => id), h.bk.touch T (fun _ _ => id), h.me.touch T (fun _ _ => id)⟩
theorem rows3_held {w : World} {B : Nat} {sv bv mv : Value} {s : S} (h : StRows w B sv bv mv s) (h12 : ∀ k, roomBlock sv = some k → roomBlock bv ≠ some k) (h13 : ∀ k, roomBlock sv = some k → roomBlock mv ≠ some k) (h23 : ∀ k, roomBlock bv = some k → roomBlock mv ≠ some k) : Held w B (stRows sv bv mv s) := by
  refine ⟨fun r hr => ?_, ?_⟩
  · simp only [stRows, List.mem_cons, List.not_mem_nil, or_false] at hr
    rcases hr with rfl | rfl | rfl
    · exact h.st
    · exact h.bk
    · exact h.me
  · unfold stRows
    cases e1 : roomBlock sv <;> cases e2 : roomBlock bv <;> cases e3 : roomBlock mv <;> simp [blks, Res.blk, e1, e2, e3] <;> simp [e1, e2, e3] at h12 h13 h23
    · exact Ne.symm h23
    · exact Ne.symm h13
    · exact Ne.symm h12
    · exact ⟨⟨Ne.symm h12, Ne.symm h13⟩, Ne.symm h23⟩
set_option maxHeartbeats 4000000 in
set_option maxRecDepth 100000 in
theorem copy_any (B : Nat) (sv bv mv : Value) (s : S) (w : World) (H : StRows w B sv bv mv s) (hs : s.stack.length ≤ 5000) (hb : s.back.length ≤ 5000) (hm : s.mem.length ≤ 5000) :
    Calls Tryz.prog 23 #[.agg (sCells sv bv mv s)] w fun e w' => ∃ sv' bv' mv', e = .returned (.agg (sCells sv' bv' mv' s)) ∧ Held w' w.heap.size (stRows sv' bv' mv' s) ∧ Below w.heap.size w w' := by
  obtain ⟨SA, sc, rfl⟩ := H.st.slice
  obtain ⟨BA, bc, rfl⟩ := H.bk.slice
  obtain ⟨MA, mc, rfl⟩ := H.me.slice
  unfold sCells
  have k0 : Below w.heap.size w (w.alloc (.cells (sCells (.slice SA s.stack.length sc) (.slice BA s.back.length bc) (.slice MA s.mem.length mc) s) 33)) := (Below.refl _ _).alloc (Nat.le_refl _) _
  have k1 := k0.alloc (o := .cells #[.int .i64 0, .int .i64 0, .slice none 0 0, .slice none 0 0, .slice none 0 0, .string ⟨#[]⟩, .string ⟨#[]⟩, .int .i64 0, .int .i64 0, .int .i64 0] 33) (by simp)
  have b1 : Blk (w.alloc (.cells (sCells (.slice SA s.stack.length sc) (.slice BA s.back.length bc) (.slice MA s.mem.length mc) s) 33)) w.heap.size 33 (sCells (.slice SA s.stack.length sc) (.slice BA s.back.length bc) (.slice MA s.mem.length mc) s) := Blk.new _ _ _
  have b2 := b1.alloc (.cells #[.int .i64 0, .int .i64 0, .slice none 0 0, .slice none 0 0, .slice none 0 0, .string ⟨#[]⟩, .string ⟨#[]⟩, .int .i64 0, .int .i64 0, .int .i64 0] 33)
  have b3 : Blk ((w.alloc (.cells (sCells (.slice SA s.stack.length sc) (.slice BA s.back.length bc) (.slice MA s.mem.length mc) s) 33)).alloc (.cells #[.int .i64 0, .int .i64 0, .slice none 0 0, .slice none 0 0, .slice none 0 0, .string ⟨#[]⟩, .string ⟨#[]⟩, .int .i64 0, .int .i64 0, .int .i64 0] 33)) (w.heap.size + 1) 33 #[.int .i64 0, .int .i64 0, .slice none 0 0, .slice none 0 0, .slice none 0 0, .string ⟨#[]⟩, .string ⟨#[]⟩, .int .i64 0, .int .i64 0, .int .i64 0] := by
    have := Blk.new (w.alloc (.cells (sCells (.slice SA s.stack.length sc) (.slice BA s.back.length bc) (.slice MA s.mem.length mc) s) 33)) 33 #[.int .i64 0, .int .i64 0, .slice none 0 0, .slice none 0 0, .slice none 0 0, .string ⟨#[]⟩, .string ⟨#[]⟩, .int .i64 0, .int .i64 0, .int .i64 0]
    simpa using this
  have R1 := H.below k1 (Nat.le_refl _)
  unfold sCells at *
  go_enter Tryz.func23, Tryz.ntmps23
  go_wp2_with fail
  generalize hw1 : (w.alloc (.cells #[.int .i64 s.ip, .int .i64 s.handler, .slice SA s.stack.length sc, .slice BA s.back.length bc, .slice MA s.mem.length mc, .string s.out, .string s.inp, .int .i64 s.read, .int .i64 s.status, .int .i64 s.code] 33)).alloc (.cells #[.int .i64 0, .int .i64 0, .slice none 0 0, .slice none 0 0, .slice none 0 0, .string ⟨#[]⟩, .string ⟨#[]⟩, .int .i64 0, .int .i64 0, .int .i64 0] 33) = w1 at *
  clear hw1 k0 b1
  refine Ph.wp_region_U 9 (fun W => W.cell? ⟨w.heap.size, 2, none⟩ = some (.slice SA s.stack.length sc) ∧ W.cell? ⟨w.heap.size, 3, none⟩ = some (.slice BA s.back.length bc) ∧ W.cell? ⟨w.heap.size, 4, none⟩ = some (.slice MA s.mem.length mc)) (by kernel_rfl) ?_
  change Ph.wpU _ _ _ _ _ _ 15 #[false, false, false, false, false, false, false, false, false, false, false, false, false, false, false] _ _
  have S0 : w1.drew.cell? ⟨w.heap.size, 2, none⟩ = some (.slice SA s.stack.length sc) ∧ w1.drew.cell? ⟨w.heap.size, 3, none⟩ = some (.slice BA s.back.length bc) ∧ w1.drew.cell? ⟨w.heap.size, 4, none⟩ = some (.slice MA s.mem.length mc) := ⟨b2.cell 2, b2.cell 3, b2.cell 4⟩
  have R1d : StRows w1.drew B (.slice SA s.stack.length sc) (.slice BA s.back.length bc) (.slice MA s.mem.length mc) s := R1.below (below_of_draw (Below.refl w1.heap.size w1) 1) (Nat.le_refl _)
  have HS0 : (fun W : World => W.cell? ⟨w.heap.size, 2, none⟩ = some (.slice SA s.stack.length sc) ∧ W.cell? ⟨w.heap.size, 3, none⟩ = some (.slice BA s.back.length bc) ∧ W.cell? ⟨w.heap.size, 4, none⟩ = some (.slice MA s.mem.length mc)) w1.drew := S0
  refine Ph.U_take (i := 0) (oi := { dst := some 3, op := .fieldAddr 33 (.tmp 1) 2, type := 0, pos := "inner.go:18", after := #[], guard := none }) (v := .pointer (some ⟨w.heap.size, 2, none⟩)) rfl (by kernel_rfl) (by kernel_rfl) (by kernel_rfl) (by kernel_rfl) (fun _ _ _ h => h) (Or.inl ⟨by rfl, ?_⟩) (by assumption) ?_
  · intro W hSw; (try dsimp only at hSw); go_simp
  simp only [Act.put, List.setIfInBounds_toArray, List.set_cons_zero, List.set_cons_succ]
  refine Ph.U_take (i := 1) (oi := { dst := some 4, op := .load 31 (.tmp 3), type := 31, pos := "inner.go:18", after := #[{ on := 0, ground := .data }], guard := none }) (v := .slice SA s.stack.length sc) rfl (by kernel_rfl) (by kernel_rfl) (by kernel_rfl) (by kernel_rfl) (fun _ _ _ h => h) (Or.inl ⟨by rfl, ?_⟩) (by assumption) ?_
  · intro W hSw; (try dsimp only at hSw); go_simp
  simp only [Act.put, List.setIfInBounds_toArray, List.set_cons_zero, List.set_cons_succ]
  refine Ph.U_take (i := 3) (oi := { dst := some 6, op := .fieldAddr 33 (.tmp 1) 3, type := 0, pos := "inner.go:18", after := #[], guard := none }) (v := .pointer (some ⟨w.heap.size, 3, none⟩)) rfl (by kernel_rfl) (by kernel_rfl) (by kernel_rfl) (by kernel_rfl) (fun _ _ _ h => h) (Or.inl ⟨by rfl, ?_⟩) (by assumption) ?_
  · intro W hSw; (try dsimp only at hSw); go_simp
  simp only [Act.put, List.setIfInBounds_toArray, List.set_cons_zero, List.set_cons_succ]
  refine Ph.U_take (i := 4) (oi := { dst := some 7, op := .load 31 (.tmp 6), type := 31, pos := "inner.go:18", after := #[{ on := 3, ground := .data }], guard := none }) (v := .slice BA s.back.length bc) rfl (by kernel_rfl) (by kernel_rfl) (by kernel_rfl) (by kernel_rfl) (fun _ _ _ h => h) (Or.inl ⟨by rfl, ?_⟩) (by assumption) ?_
  · intro W hSw; (try dsimp only at hSw); go_simp
  simp only [Act.put, List.setIfInBounds_toArray, List.set_cons_zero, List.set_cons_succ]
  refine Ph.U_take (i := 6) (oi := { dst := some 9, op := .fieldAddr 33 (.tmp 1) 4, type := 0, pos := "inner.go:18", after := #[], guard := none }) (v := .pointer (some ⟨w.heap.size, 4, none⟩)) rfl (by kernel_rfl) (by kernel_rfl) (by kernel_rfl) (by kernel_rfl) (fun _ _ _ h => h) (Or.inl ⟨by rfl, ?_⟩) (by assumption) ?_
  · intro W hSw; (try dsimp only at hSw); go_simp
  simp only [Act.put, List.setIfInBounds_toArray, List.set_cons_zero, List.set_cons_succ]
  refine Ph.U_take (i := 7) (oi := { dst := some 10, op := .load 31 (.tmp 9), type := 31, pos := "inner.go:18", after := #[{ on := 6, ground := .data }], guard := none }) (v := .slice MA s.mem.length mc) rfl (by kernel_rfl) (by kernel_rfl) (by kernel_rfl) (by kernel_rfl) (fun _ _ _ h => h) (Or.inl ⟨by rfl, ?_⟩) (by assumption) ?_
  · intro W hSw; (try dsimp only at hSw); go_simp
  simp only [Act.put, List.setIfInBounds_toArray, List.set_cons_zero, List.set_cons_succ]
  refine Ph.U_ready (rs := [2]) (by kernel_rfl) (by simp) ?_
  refine Ph.AllReadyU.cons rfl (fun K hK => ?_) Ph.AllReadyU.nil
  go_simp
  refine (clone_row B SA sc _ s.stack rfl _ R1d.st hs).mono ?_
  rintro e w2 ⟨A2, c2, rfl, r2, t2⟩
  have R2 := R1d.below t2 (Nat.le_refl _)
  have B2 := (b2.drewN 1).below t2 (b2.drewN 1).lt
  have D2 := (b3.drewN 1).below t2 (b3.drewN 1).lt
  refine hK.out _ _ (fun _ => ⟨B2.cell 2, B2.cell 3, B2.cell 4⟩) ?_
  clear hK K
  simp only [Act.put, List.setIfInBounds_toArray, List.set_cons_zero, List.set_cons_succ]
  refine Ph.U_pure (i := 9) (oi := { dst := some 12, op := .fieldAddr 33 (.tmp 1) 2, type := 0, pos := "inner.go:18", after := #[{ on := 0, ground := .phase }, { on := 1, ground := .phase }, { on := 2, ground := .phase }, { on := 3, ground := .phase }, { on := 4, ground := .phase }, { on := 5, ground := .textOnly .lateStoresUnsure }, { on := 6, ground := .phase }, { on := 7, ground := .phase }, { on := 8, ground := .textOnly .lateStoresUnsure }], guard := none }) (v := .pointer (some ⟨w.heap.size, 2, none⟩)) rfl (by kernel_rfl) (by kernel_rfl) (by kernel_rfl) (by decide) (fun _ _ _ h => h) (Or.inl ⟨by rfl, ?_⟩) ?_
  · intro W hSw; go_simp
  simp only [Act.put, List.setIfInBounds_toArray, List.set_cons_zero, List.set_cons_succ]
  refine Ph.U_ready (rs := [5]) (by kernel_rfl) (by simp) ?_
  refine Ph.AllReadyU.cons rfl (fun K hK => ?_) Ph.AllReadyU.nil
  go_simp
  refine (clone_row B BA bc _ s.back rfl _ R2.bk hb).mono ?_
  rintro e w3 ⟨A3, c3, rfl, r3, t3⟩
  have R3 := R2.below t3 (Nat.le_refl _)
  have B3 := B2.below t3 B2.lt
  have D3 := D2.below t3 D2.lt
  refine hK.out _ _ (fun _ => ⟨B3.cell 2, B3.cell 3, B3.cell 4⟩) ?_
  clear hK K
  simp only [Act.put, List.setIfInBounds_toArray, List.set_cons_zero, List.set_cons_succ]
  refine Ph.U_ready (rs := [8]) (by kernel_rfl) (by simp) ?_
  refine Ph.AllReadyU.cons rfl (fun K hK => ?_) Ph.AllReadyU.nil
  go_simp
  refine (clone_row B MA mc _ s.mem rfl _ R3.me hm).mono ?_
  rintro e w4 ⟨A4, c4, rfl, r4, t4⟩
  have B4 := B3.below t4 B3.lt
  have D4 := D3.below t4 D3.lt
  refine hK.out _ _ (fun _ => ⟨B4.cell 2, B4.cell 3, B4.cell 4⟩) ?_
  clear hK K
  simp only [Act.put, List.setIfInBounds_toArray, List.set_cons_zero, List.set_cons_succ]
  have g2 := B4.cell 2
  have z2 := B4.frozen 2
  have T2 : Touch w4 (w4.setCell ⟨w.heap.size, 2, none⟩ (.slice A2 s.stack.length c2)) (fun k => k = w.heap.size) := set_touch _ _ _ _
  have B5 := B4.set_ 2 (.slice A2 s.stack.length c2)
  refine Ph.U_ready (rs := [10]) (by kernel_rfl) (by simp) ?_
  refine Ph.AllReadyU.cons rfl (fun K hK => ?_) Ph.AllReadyU.nil
  go_simp
  refine hK.out _ _ (fun h => absurd h (by decide)) ?_
  clear hK K
  simp only [Act.put, List.setIfInBounds_toArray, List.set_cons_zero, List.set_cons_succ]
  generalize w4.setCell ⟨w.heap.size, 2, none⟩ (.slice A2 s.stack.length c2) = w5 at *
  refine Ph.U_pure (i := 11) (oi := { dst := some 13, op := .fieldAddr 33 (.tmp 1) 3, type := 0, pos := "inner.go:18", after := #[{ on := 0, ground := .phase }, { on := 1, ground := .phase }, { on := 2, ground := .phase }, { on := 3, ground := .phase }, { on := 4, ground := .phase }, { on := 5, ground := .phase }, { on := 6, ground := .phase }, { on := 7, ground := .phase }, { on := 8, ground := .textOnly .lateStoresUnsure }, { on := 9, ground := .phase }, { on := 10, ground := .phase }], guard := none }) (v := .pointer (some ⟨w.heap.size, 3, none⟩)) rfl (by kernel_rfl) (by kernel_rfl) (by kernel_rfl) (by decide) (fun _ _ _ h => h) (Or.inl ⟨by rfl, ?_⟩) ?_
  · intro W hSw; go_simp
  simp only [Act.put, List.setIfInBounds_toArray, List.set_cons_zero, List.set_cons_succ]
  have g3 := B5.cell 3
  have z3 := B5.frozen 3
  have T3 : Touch w5 (w5.setCell ⟨w.heap.size, 3, none⟩ (.slice A3 s.back.length c3)) (fun k => k = w.heap.size) := set_touch _ _ _ _
  have B6 := B5.set_ 3 (.slice A3 s.back.length c3)
  refine Ph.U_ready (rs := [12]) (by kernel_rfl) (by simp) ?_
  refine Ph.AllReadyU.cons rfl (fun K hK => ?_) Ph.AllReadyU.nil
  go_simp
  refine hK.out _ _ (fun h => absurd h (by decide)) ?_
  clear hK K
  simp only [Act.put, List.setIfInBounds_toArray, List.set_cons_zero, List.set_cons_succ]
  generalize w5.setCell ⟨w.heap.size, 3, none⟩ (.slice A3 s.back.length c3) = w6 at *
  refine Ph.U_pure (i := 13) (oi := { dst := some 14, op := .fieldAddr 33 (.tmp 1) 4, type := 0, pos := "inner.go:18", after := #[{ on := 0, ground := .phase }, { on := 1, ground := .phase }, { on := 2, ground := .phase }, { on := 3, ground := .phase }, { on := 4, ground := .phase }, { on := 5, ground := .phase }, { on := 6, ground := .phase }, { on := 7, ground := .phase }, { on := 8, ground := .phase }, { on := 9, ground := .phase }, { on := 10, ground := .phase }, { on := 11, ground := .phase }, { on := 12, ground := .phase }], guard := none }) (v := .pointer (some ⟨w.heap.size, 4, none⟩)) rfl (by kernel_rfl) (by kernel_rfl) (by kernel_rfl) (by decide) (fun _ _ _ h => h) (Or.inl ⟨by rfl, ?_⟩) ?_
  · intro W hSw; go_simp
  simp only [Act.put, List.setIfInBounds_toArray, List.set_cons_zero, List.set_cons_succ]
  have g4 := B6.cell 4
  have z4 := B6.frozen 4
  have T4 : Touch w6 (w6.setCell ⟨w.heap.size, 4, none⟩ (.slice A4 s.mem.length c4)) (fun k => k = w.heap.size) := set_touch _ _ _ _
  have B7 := B6.set_ 4 (.slice A4 s.mem.length c4)
  refine Ph.U_ready (rs := [14]) (by kernel_rfl) (by simp) ?_
  refine Ph.AllReadyU.cons rfl (fun K hK => ?_) Ph.AllReadyU.nil
  go_simp
  refine hK.out _ _ (fun h => absurd h (by decide)) ?_
  clear hK K
  simp only [Act.put, List.setIfInBounds_toArray, List.set_cons_zero, List.set_cons_succ]
  generalize w6.setCell ⟨w.heap.size, 4, none⟩ (.slice A4 s.mem.length c4) = w7 at *
  refine Ph.U_done (by kernel_rfl) ?_ _
  have TT : Touch w4 w7 (fun k => k = w.heap.size) := (T2.trans T3 (fun _ h => .inl h)).trans T4 (fun _ h => .inl h)
  have hz4 : w.heap.size + 1 < w4.heap.size := D4.lt
  have D7 : Blk w7 (w.heap.size + 1) 33 _ := (TT.block _ hz4 (by omega)).trans D4
  have x0 := B7.cell 0; have x1 := B7.cell 1; have x2 := B7.cell 2; have x3 := B7.cell 3; have x4 := B7.cell 4
  have x5 := B7.cell 5; have x6 := B7.cell 6; have x7 := B7.cell 7; have x8 := B7.cell 8; have x9 := B7.cell 9
  simp only [List.setIfInBounds_toArray, List.set_cons_zero, List.set_cons_succ, List.getElem?_toArray, List.getElem?_cons_zero, List.getElem?_cons_succ] at x0 x1 x2 x3 x4 x5 x6 x7 x8 x9
  have F : Below w.heap.size w w7 := by
    have e1 : Below w.heap.size w w4 := ((below_of_draw k1 1).trans ((t2.mono (by have := k1.size; exact this)).trans ((t3.mono (by have := k1.size; have := t2.size; exact Nat.le_trans ‹_› ‹_›)).trans (t4.mono (by have := k1.size; have := t2.size; have := t3.size; exact Nat.le_trans ‹_› (Nat.le_trans ‹_› ‹_›))))))
    exact e1.trans (TT.below (fun k h => by omega) e1.size)
  have z2 := t2.size
  have z3 := t3.size
  have z4 := t4.size
  have z1 : w.heap.size + 1 < w1.heap.size := b3.lt
  have T2' : Touch w2 w7 (fun k => k = w.heap.size) := (Touch.of_below (t3.trans (t4.mono z3)) (fun k => k = w.heap.size)).trans TT (fun _ h => .inl h)
  have T3' : Touch w3 w7 (fun k => k = w.heap.size) := (Touch.of_below t4 (fun k => k = w.heap.size)).trans TT (fun _ h => .inl h)
  have L2 : ∀ k, roomBlock (.slice A2 s.stack.length c2) = some k → w1.heap.size ≤ k ∧ k < w2.heap.size := fun k hk => r2.lt k hk
  have L3 : ∀ k, roomBlock (.slice A3 s.back.length c3) = some k → w2.heap.size ≤ k ∧ k < w3.heap.size := fun k hk => r3.lt k hk
  have L4 : ∀ k, roomBlock (.slice A4 s.mem.length c4) = some k → w3.heap.size ≤ k ∧ k < w4.heap.size := fun k hk => r4.lt k hk
  have z2' : w1.heap.size ≤ w2.heap.size := z2
  have Q2 := (r2.touch T2' (fun k hk h => by have := L2 k hk; omega)).mono (B' := w.heap.size) (by show w.heap.size ≤ w1.heap.size; omega)
  have Q3 := (r3.touch T3' (fun k hk h => by have := L3 k hk; omega)).mono (B' := w.heap.size) (by omega)
  have Q4 := (r4.touch TT (fun k hk h => by have := L4 k hk; omega)).mono (B' := w.heap.size) (by omega)
  have HH : Held w7 w.heap.size (stRows (.slice A2 s.stack.length c2) (.slice A3 s.back.length c3) (.slice A4 s.mem.length c4) s) :=
    rows3_held ⟨Q2, Q3, Q4⟩ (fun k h h' => by have := L2 k h; have := L3 k h'; omega) (fun k h h' => by have := L2 k h; have := L4 k h'; omega) (fun k h h' => by have := L3 k h; have := L4 k h'; omega)
  have HH' := Lib.hid HH
  have Far : Hid (∀ k, k ∈ blks (stRows (.slice A2 s.stack.length c2) (.slice A3 s.back.length c3) (.slice A4 s.mem.length c4) s) → ¬ k = w.heap.size + 1) := by
    intro k hk h
    obtain ⟨r, hr, e⟩ := mem_blks.1 hk
    simp only [stRows, List.mem_cons, List.not_mem_nil, or_false] at hr
    rcases hr with rfl | rfl | rfl
    · have := L2 k e; omega
    · have := L3 k e; omega
    · have := L4 k e; omega
  have F' := Lib.hid F
  clear Q2 Q3 Q4 L2 L3 L4 T2' T3' HH F TT T2 T3 T4 t2 t3 t4 r2 r3 r4 R1 R1d R2 R3 B2 B3 B4 B5 B6 D2 D3 D4 b2 b3 k1 S0 HS0 H
  unfold Blk at D7
  have h1 : (#[.int .i64 s.ip, .int .i64 s.handler, .slice A2 s.stack.length c2, .slice A3 s.back.length c3, .slice A4 s.mem.length c4, .string s.out, .string s.inp, .int .i64 s.read, .int .i64 s.status, .int .i64 s.code] : Array Value).all (·.oneCell') = true := by simp [Value.oneCell']
  have hi : (Tryz.prog.info? 33).map (·.size) = some (#[.int .i64 s.ip, .int .i64 s.handler, .slice A2 s.stack.length c2, .slice A3 s.back.length c3, .slice A4 s.mem.length c4, .string s.out, .string s.inp, .int .i64 s.read, .int .i64 s.status, .int .i64 s.code] : Array Value).size := by kernel_rfl
  have H1 := Lib.hid h1
  have HI := Lib.hid hi
  clear h1 hi
  go_wp2_with (refine wpList_store_row rfl _ _ _ rfl (w.heap.size + 1) #[.int .i64 s.ip, .int .i64 s.handler, .slice A2 s.stack.length c2, .slice A3 s.back.length c3, .slice A4 s.mem.length c4, .string s.out, .string s.inp, .int .i64 s.read, .int .i64 s.status, .int .i64 s.code] rfl rfl _ _ D7 HI.out rfl H1.out ?_)
  refine bodyPost_ret (results_cell_row rfl _ _ (w.heap.size + 1) _ _ (0, 0) _ rfl (setRow_heap _ _ _ _ _ _ D7) Tryz.underlying33 rfl HI.out) rfl ⟨_, _, _, rfl, ?_, ?_⟩
  · have T : Touch w7 (w7.setRow (w.heap.size + 1) #[.int .i64 s.ip, .int .i64 s.handler, .slice A2 s.stack.length c2, .slice A3 s.back.length c3, .slice A4 s.mem.length c4, .string s.out, .string s.inp, .int .i64 s.read, .int .i64 s.status, .int .i64 s.code]) (fun k => k = w.heap.size + 1) := Wv.touch_setRow _ _ _
    exact HH'.out.touch T (fun k hk h => Far.out k hk h)
  · exact F'.out.trans ⟨rfl, rfl, rfl, by simp, fun k hk => setRow_other _ _ _ _ (by omega)⟩
end Go.Proofs.YtompdfpjmdnhoabGreatDoor.Mc
namespace Go.Proofs.YtompdfpjmdnhoabGreatDoor.Mc
open Go.RowKit Go.Proofs.YtompdfpjmdnhoabGreatDoor.Rs
set_option maxHeartbeats 2000000 in
set_option maxRecDepth 100000 in
theorem caught_any (B : Nat) (sv bv mv : Value) (s : S) (w : World) (H : StRows w B sv bv mv s) (hb : s.back.length ≤ 100) (hin : In s.handler) :
    Calls Tryz.prog 71 #[.agg (sCells sv bv mv s)] w fun e w' => ∃ x, e = .returned (.tuple #[.int .i64 x, .bool (caught s).isSome]) ∧ (∀ n, caught s = some n → x = n) ∧ Below w.heap.size w w' := by
  obtain ⟨BA, bc, rfl⟩ := H.bk.slice
  unfold sCells
  have k0 : Below w.heap.size w (w.alloc (.cells #[.int .i64 s.ip, .int .i64 s.handler, sv, .slice BA s.back.length bc, mv, .string s.out, .string s.inp, .int .i64 s.read, .int .i64 s.status, .int .i64 s.code] 33)) := (Below.refl _ _).alloc (Nat.le_refl _) _
  have K0 := Lib.hid k0
  by_cases h1 : s.handler < 3
  · have hc : caught s = none := by unfold caught; rw [if_pos (.inl h1)]
    rw [hc]
    clear hc H hb k0 hin
    go_enter Tryz.func71, Tryz.ntmps71
    go_wp2_with fail
    go_ret2
    refine ⟨_, rfl, ?_⟩
    first
      | exact ⟨fun n h => (by cases h), K0.out⟩
      | exact K0.out
  by_cases h2 : (s.back.length : Int) < s.handler
  · have hc : caught s = none := by unfold caught; rw [if_pos (.inr h2)]
    rw [hc]
    generalize s.back.length = nb at *
    clear hc H k0 hin
    go_enter Tryz.func71, Tryz.ntmps71
    go_wp2_with fail
    all_goals
      go_ret2
      exact ⟨⟨_, rfl⟩, K0.out⟩
  · obtain ⟨h, hh⟩ : ∃ h : Nat, s.handler = (h : Int) + 1 := ⟨(s.handler - 1).toNat, by omega⟩
    have hlt : h < s.back.length := by omega
    have h1' : ¬ ((h : Int) + 1 < 3) := by omega
    have h1d : decide ((h : Int) + 1 < 3) = false := by simpa using h1'
    obtain ⟨g, c, hv, hcap, hbg, hg, hcell, _⟩ := H.bk.form (by omega)
    injection hv with hv1 _ hv2
    subst hv1 hv2
    have hx := hcell h (by omega)
    rw [ints_get _ _ hlt] at hx
    have hcd : (caught s) = if 0 ≤ s.back.getD h 0 ∧ s.back.getD h 0 < 48 then some (s.back.getD h 0).toNat else none := by
      unfold caught
      rw [if_neg (by omega), show s.handler.toNat - 1 = h by omega]
    have hx' : (w.alloc (.cells #[.int .i64 s.ip, .int .i64 s.handler, sv, .slice (some ⟨g, 0, none⟩) s.back.length (c + 1), mv, .string s.out, .string s.inp, .int .i64 s.read, .int .i64 s.status, .int .i64 s.code] 33)).cell? ⟨g, h, none⟩ = _ := (World.cell?_alloc_lt _ _ _ hg).trans hx
    generalize s.back.getD h 0 = x at *
    generalize s.back.length = nb at *
    have e1 : wrap64 ((h : Int) + 1 - 1) = (h : Int) := by unfold wrap64; omega
    have i1 : (h : Int) < (nb : Int) := by omega
    rw [hh] at *
    have HC := Lib.hid hcd
    generalize caught s = q at *
    have h2' : ¬ ((nb : Int) < (h : Int) + 1) := h2
    clear hcd H k0 hcell hx hin hh
    by_cases h3 : 0 ≤ x
    · by_cases h4 : x < 48
      · go_enter Tryz.func71, Tryz.ntmps71
        go_wp2_with fail
        go_ret2
        refine ⟨x, ?_, fun n h => ?_, K0.out⟩
        · rw [HC.out, if_pos ⟨h3, h4⟩]; simp [h3, h4]
        · rw [HC.out, if_pos ⟨h3, h4⟩] at h; injection h with h; omega
      · go_enter Tryz.func71, Tryz.ntmps71
        go_wp2_with fail
        go_ret2
        refine ⟨x, ?_, fun n h => ?_, K0.out⟩
        · rw [HC.out, if_neg (by omega)]; simp [h3, h4]
        · rw [HC.out, if_neg (by omega)] at h; cases h
    · go_enter Tryz.func71, Tryz.ntmps71
      go_wp2_with fail
      go_ret2
      refine ⟨x, ?_, fun n h => ?_, K0.out⟩
      · rw [HC.out, if_neg (by omega)]; simp [h3]
      · rw [HC.out, if_neg (by omega)] at h; cases h
end Go.Proofs.YtompdfpjmdnhoabGreatDoor.Mc
namespace Go.Proofs.YtompdfpjmdnhoabGreatDoor.Mc
open Go.RowKit Go.Proofs.YtompdfpjmdnhoabGreatDoor.Rs
theorem st_rows {w : World} {B : Nat} {sv bv mv : Value} {s : S} (H : Held w B (stRows sv bv mv s)) : StRows w B sv bv mv s :=
  ⟨H.row (by simp [stRows]), H.row (by simp [stRows]), H.row (by simp [stRows])⟩
set_option maxHeartbeats 2000000 in
set_option maxRecDepth 100000 in
theorem faulty_none (B : Nat) (sv bv mv : Value) (s : S) (code : Int) (w : World) (H : StRows w B sv bv mv s) (W : Wf s) (hc : caught s = none) :
    Calls Tryz.prog 46 #[.agg (sCells sv bv mv s), .int .i64 code] w fun e w' => e = .returned (.agg (sCells sv bv mv { s with status := 2, code := code })) ∧ Below w.heap.size w w' := by
  have nb := W.nb
  have k1 := ((Below.refl w.heap.size w).alloc (Nat.le_refl _) (.cells (sCells sv bv mv s) 33)).alloc (by simp) (.cells #[.int .i64 0, .int .i64 0, .slice none 0 0, .slice none 0 0, .slice none 0 0, .string ⟨#[]⟩, .string ⟨#[]⟩, .int .i64 0, .int .i64 0, .int .i64 0] 33)
  have HC := Lib.hid (fun (w1 : World) (hb : Below w.heap.size w w1) => caught_any B sv bv mv s w1 (H.below hb (Nat.le_refl _)) (by omega) W.hd)
  have b1 := (Blk.new w 33 (sCells sv bv mv s)).alloc (.cells #[.int .i64 0, .int .i64 0, .slice none 0 0, .slice none 0 0, .slice none 0 0, .string ⟨#[]⟩, .string ⟨#[]⟩, .int .i64 0, .int .i64 0, .int .i64 0] 33)
  have b2 : Blk ((w.alloc (.cells (sCells sv bv mv s) 33)).alloc (.cells #[.int .i64 0, .int .i64 0, .slice none 0 0, .slice none 0 0, .slice none 0 0, .string ⟨#[]⟩, .string ⟨#[]⟩, .int .i64 0, .int .i64 0, .int .i64 0] 33)) (w.heap.size + 1) 33 #[.int .i64 0, .int .i64 0, .slice none 0 0, .slice none 0 0, .slice none 0 0, .string ⟨#[]⟩, .string ⟨#[]⟩, .int .i64 0, .int .i64 0, .int .i64 0] := by
    simpa using Blk.new (w.alloc (.cells (sCells sv bv mv s) 33)) 33 #[.int .i64 0, .int .i64 0, .slice none 0 0, .slice none 0 0, .slice none 0 0, .string ⟨#[]⟩, .string ⟨#[]⟩, .int .i64 0, .int .i64 0, .int .i64 0]
  unfold sCells at *
  rw [hc] at HC
  go_enter Tryz.func46, Tryz.ntmps46
  go_wp2_with fail
  generalize hw1 : (w.alloc (.cells #[.int .i64 s.ip, .int .i64 s.handler, sv, bv, mv, .string s.out, .string s.inp, .int .i64 s.read, .int .i64 s.status, .int .i64 s.code] 33)).alloc (.cells #[.int .i64 0, .int .i64 0, .slice none 0 0, .slice none 0 0, .slice none 0 0, .string ⟨#[]⟩, .string ⟨#[]⟩, .int .i64 0, .int .i64 0, .int .i64 0] 33) = w1 at *
  clear hw1
  refine (HC.out _ k1).mono ?_
  rintro e w2 ⟨x, rfl, _, t2⟩
  have B2 := b1.below t2 b1.lt
  have D2 := b2.below t2 b2.lt
  have F2 := k1.trans (t2.mono k1.size)
  have g0 := B2.cell 0; have g1 := B2.cell 1; have g2 := B2.cell 2; have g3 := B2.cell 3; have g4 := B2.cell 4
  have g5 := B2.cell 5; have g6 := B2.cell 6; have g7 := B2.cell 7; have g8 := B2.cell 8; have g9 := B2.cell 9
  simp only [List.getElem?_toArray, List.getElem?_cons_zero, List.getElem?_cons_succ] at g0 g1 g2 g3 g4 g5 g6 g7 g8 g9
  have z8 := B2.frozen 8
  have z9 := B2.frozen 9
  have B3 := (B2.set_ 8 (.int .i64 2)).set_ 9 (.int .i64 code)
  have D3 := (D2.far (p := ⟨w.heap.size, 8, none⟩) (by simp) (.int .i64 2)).far (p := ⟨w.heap.size, 9, none⟩) (by simp) (.int .i64 code)
  have F3 : Below w.heap.size w ((w2.setCell ⟨w.heap.size, 8, none⟩ (.int .i64 2)).setCell ⟨w.heap.size, 9, none⟩ (.int .i64 code)) := by
    refine F2.trans ((set_touch _ _ _ _).below (B := w.heap.size) (fun k h => by omega) F2.size |>.trans ((set_touch _ _ _ _).below (fun k h => by omega) (by simpa using F2.size)))
  have F3' := Lib.hid F3
  have D3' := Lib.hid D3
  have h1 : (#[.int .i64 s.ip, .int .i64 s.handler, sv, bv, mv, .string s.out, .string s.inp, .int .i64 s.read, .int .i64 2, .int .i64 code] : Array Value).all (·.oneCell') = true := by
    obtain ⟨SA, sc, rfl⟩ := H.st.slice
    obtain ⟨BA, bc, rfl⟩ := H.bk.slice
    obtain ⟨MA, mc, rfl⟩ := H.me.slice
    simp [Value.oneCell']
  have hi : (Tryz.prog.info? 33).map (·.size) = some (#[.int .i64 s.ip, .int .i64 s.handler, sv, bv, mv, .string s.out, .string s.inp, .int .i64 s.read, .int .i64 2, .int .i64 code] : Array Value).size := by kernel_rfl
  have H1 := Lib.hid h1
  have HI := Lib.hid hi
  clear B2 D2 b1 b2 t2 HC k1 F2 B3 D3 F3 h1 hi
  go_wp2_with (refine wpList_store_row rfl _ _ _ rfl (w.heap.size + 1) #[.int .i64 s.ip, .int .i64 s.handler, sv, bv, mv, .string s.out, .string s.inp, .int .i64 s.read, .int .i64 2, .int .i64 code] rfl rfl _ _ D3'.out HI.out rfl H1.out ?_)
  refine bodyPost_ret (results_cell_row rfl _ _ (w.heap.size + 1) _ _ (0, 0) _ rfl (setRow_heap _ _ _ _ _ _ D3'.out) Tryz.underlying33 rfl HI.out) rfl ⟨rfl, ?_⟩
  exact F3'.out.trans ⟨rfl, rfl, rfl, by simp, fun k hk => setRow_other _ _ _ _ (by omega)⟩
end Go.Proofs.YtompdfpjmdnhoabGreatDoor.Mc
