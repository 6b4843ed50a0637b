/-
  Lemmas on the way, for every input that they name: McY, Na, OwB.
-/
import Derived.Laws.ResultCell
import Derived.Test.YtompdfpjmdnhoabGreatDoorQ04
import Derived.Test.YtompdfpjmdnhoabGreatDoorQ09
import Derived.Test.YtompdfpjmdnhoabGreatDoorQ24
set_option linter.unusedVariables false
set_option linter.unusedSimpArgs false
set_option linter.deprecated false
namespace Go.Proofs.YtompdfpjmdnhoabGreatDoor.Mc
open Go.RowKit Go.Proofs.YtompdfpjmdnhoabGreatDoor.Rs Go.Proofs.YtompdfpjmdnhoabGreatDoor.Ft
set_option maxHeartbeats 4000000 in
set_option maxRecDepth 100000 in
theorem advance_any (w0 : World) (hg : HandleIs w0) (B m : Nat) (sv bv mv : Value) (s : S) (t : Bool) (w : World) (H : Held w B (mach m sv bv mv s t)) (h0 : w0.heap.size ≤ B) (hb0 : Below w0.heap.size w0 w) (hB : B ≤ w.heap.size) (W : Wf s) :
    Calls Tryz.prog 32 #[.pointer (some ⟨m, 0, none⟩)] w fun e w' => e = .returned (.tuple #[]) ∧ ∃ t', Goes w B m sv bv mv s t (advance s) t' w' := by
  obtain ⟨SA, sc, rfl⟩ := (m_stack H).slice
  obtain ⟨BA, bc, rfl⟩ := (m_back H).slice
  obtain ⟨MA, mc, rfl⟩ := (m_mem H).slice
  have k := m_blk H
  have c0 : w.cell? ⟨m, 0, none⟩ = some (.int .i64 s.ip) := k.cell 0
  have c1 : w.cell? ⟨m, 1, none⟩ = some (.int .i64 s.handler) := k.cell 1
  have c2 : w.cell? ⟨m, 2, none⟩ = some (.slice SA s.stack.length sc) := k.cell 2
  have c3 : w.cell? ⟨m, 3, none⟩ = some (.slice BA s.back.length bc) := k.cell 3
  have c4 : w.cell? ⟨m, 4, none⟩ = some (.slice MA s.mem.length mc) := k.cell 4
  have c5 : w.cell? ⟨m, 5, none⟩ = some (.string s.out) := k.cell 5
  have c6 : w.cell? ⟨m, 6, none⟩ = some (.string s.inp) := k.cell 6
  have c7 : w.cell? ⟨m, 7, none⟩ = some (.int .i64 s.read) := k.cell 7
  have c8 : w.cell? ⟨m, 8, none⟩ = some (.int .i64 s.status) := k.cell 8
  have c9 : w.cell? ⟨m, 9, none⟩ = some (.int .i64 s.code) := k.cell 9
  have hns := W.ns
  have hnb := W.nb
  have hmlt := (m_blk H).lt
  have N1 := Lib.hid (Turns.new_st H hB 33 (sCells (.slice SA s.stack.length sc) (.slice BA s.back.length bc) (.slice MA s.mem.length mc) s))
  unfold sCells at N1
  have HH := Lib.hid H
  clear k H
  go_enter Tryz.func32, Tryz.ntmps32
  go_wp2_with fail
  generalize hw1 : w.alloc (.cells #[.int .i64 s.ip, .int .i64 s.handler, .slice SA s.stack.length sc, .slice BA s.back.length bc, .slice MA s.mem.length mc, .string s.out, .string s.inp, .int .i64 s.read, .int .i64 s.status, .int .i64 s.code] 33) = w1 at *
  clear hw1 c0 c1 c2 c3 c4 c5 c6 c7 c8 c9
  have KK1 : Hid (Blk w1.drew m 70 (mCells (.slice SA s.stack.length sc) (.slice BA s.back.length bc) (.slice MA s.mem.length mc) s t)) := N1.out.held.blk (by simp [mach])
  have HS0 : (fun W : World => W.cell? ⟨m, 2, none⟩ = some (.slice SA s.stack.length sc) ∧ W.cell? ⟨m, 3, none⟩ = some (.slice BA s.back.length bc)) w1.drew := ⟨KK1.out.cell 2, KK1.out.cell 3⟩
  refine Ph.wp_region_U 16 (fun W : World => W.cell? ⟨m, 2, none⟩ = some (.slice SA s.stack.length sc) ∧ W.cell? ⟨m, 3, none⟩ = some (.slice BA s.back.length bc)) (by kernel_rfl) ?_
  change Ph.wpU _ _ _ _ _ _ 16 #[false, false, false, false, false, false, false, false, false, false, false, false, false, false, false, false] _ _
  refine Ph.U_take (i := 0) (oi := { dst := some 8, op := .move (.tmp 0), type := 68, pos := "machine.go:24", after := #[], guard := none }) (v := .pointer (some ⟨m, 0, none⟩)) rfl (by kernel_rfl) (by kernel_rfl) (by kernel_rfl) (by kernel_rfl) (fun _ _ _ h => h) (Or.inl ⟨by rfl, ?_⟩) (by assumption) ?_
  · intro W hSw; (try dsimp only at hSw); go_simp
  simp only [Act.put, List.setIfInBounds_toArray, List.set_cons_zero, List.set_cons_succ]
  refine Ph.U_take (i := 1) (oi := { dst := some 9, op := .nilCheck (.tmp 8), type := 0, pos := "machine.go:24", after := #[{ on := 0, ground := .data }], guard := none }) (v := .pointer (some ⟨m, 0, none⟩)) rfl (by kernel_rfl) (by kernel_rfl) (by kernel_rfl) (by kernel_rfl) (fun _ _ _ h => h) (Or.inl ⟨by rfl, ?_⟩) (by assumption) ?_
  · intro W hSw; (try dsimp only at hSw); go_simp
  simp only [Act.put, List.setIfInBounds_toArray, List.set_cons_zero, List.set_cons_succ]
  refine Ph.U_take (i := 2) (oi := { dst := some 10, op := .fieldAddr 70 (.tmp 9) 0, type := 0, pos := "machine.go:24", after := #[{ on := 1, ground := .data }], guard := none }) (v := .pointer (some ⟨m, 0, none⟩)) rfl (by kernel_rfl) (by kernel_rfl) (by kernel_rfl) (by kernel_rfl) (fun _ _ _ h => h) (Or.inl ⟨by rfl, ?_⟩) (by assumption) ?_
  · intro W hSw; (try dsimp only at hSw); go_simp
  simp only [Act.put, List.setIfInBounds_toArray, List.set_cons_zero, List.set_cons_succ]
  refine Ph.U_take (i := 3) (oi := { dst := some 11, op := .fieldAddr 33 (.tmp 10) 2, type := 0, pos := "machine.go:24", after := #[{ on := 2, ground := .data }], guard := none }) (v := .pointer (some ⟨m, 2, none⟩)) rfl (by kernel_rfl) (by kernel_rfl) (by kernel_rfl) (by kernel_rfl) (fun _ _ _ h => h) (Or.inl ⟨by rfl, ?_⟩) (by assumption) ?_
  · intro W hSw; (try dsimp only at hSw); go_simp
  simp only [Act.put, List.setIfInBounds_toArray, List.set_cons_zero, List.set_cons_succ]
  refine Ph.U_take (i := 4) (oi := { dst := some 12, op := .load 31 (.tmp 11), type := 31, pos := "machine.go:24", after := #[{ on := 3, ground := .data }], guard := none }) (v := .slice SA s.stack.length sc) rfl (by kernel_rfl) (by kernel_rfl) (by kernel_rfl) (by kernel_rfl) (fun _ _ _ h => h) (Or.inl ⟨by rfl, ?_⟩) (by assumption) ?_
  · intro W hSw; (try dsimp only at hSw); go_simp
  simp only [Act.put, List.setIfInBounds_toArray, List.set_cons_zero, List.set_cons_succ]
  refine Ph.U_take (i := 6) (oi := { dst := some 14, op := .move (.tmp 0), type := 68, pos := "machine.go:24", after := #[], guard := none }) (v := .pointer (some ⟨m, 0, none⟩)) rfl (by kernel_rfl) (by kernel_rfl) (by kernel_rfl) (by kernel_rfl) (fun _ _ _ h => h) (Or.inl ⟨by rfl, ?_⟩) (by assumption) ?_
  · intro W hSw; (try dsimp only at hSw); go_simp
  simp only [Act.put, List.setIfInBounds_toArray, List.set_cons_zero, List.set_cons_succ]
  refine Ph.U_take (i := 7) (oi := { dst := some 15, op := .nilCheck (.tmp 14), type := 0, pos := "machine.go:24", after := #[{ on := 6, ground := .data }], guard := none }) (v := .pointer (some ⟨m, 0, none⟩)) rfl (by kernel_rfl) (by kernel_rfl) (by kernel_rfl) (by kernel_rfl) (fun _ _ _ h => h) (Or.inl ⟨by rfl, ?_⟩) (by assumption) ?_
  · intro W hSw; (try dsimp only at hSw); go_simp
  simp only [Act.put, List.setIfInBounds_toArray, List.set_cons_zero, List.set_cons_succ]
  refine Ph.U_take (i := 8) (oi := { dst := some 16, op := .fieldAddr 70 (.tmp 15) 0, type := 0, pos := "machine.go:24", after := #[{ on := 7, ground := .data }], guard := none }) (v := .pointer (some ⟨m, 0, none⟩)) rfl (by kernel_rfl) (by kernel_rfl) (by kernel_rfl) (by kernel_rfl) (fun _ _ _ h => h) (Or.inl ⟨by rfl, ?_⟩) (by assumption) ?_
  · intro W hSw; (try dsimp only at hSw); go_simp
  simp only [Act.put, List.setIfInBounds_toArray, List.set_cons_zero, List.set_cons_succ]
  refine Ph.U_take (i := 9) (oi := { dst := some 17, op := .fieldAddr 33 (.tmp 16) 3, type := 0, pos := "machine.go:24", after := #[{ on := 8, ground := .data }], guard := none }) (v := .pointer (some ⟨m, 3, none⟩)) rfl (by kernel_rfl) (by kernel_rfl) (by kernel_rfl) (by kernel_rfl) (fun _ _ _ h => h) (Or.inl ⟨by rfl, ?_⟩) (by assumption) ?_
  · intro W hSw; (try dsimp only at hSw); go_simp
  simp only [Act.put, List.setIfInBounds_toArray, List.set_cons_zero, List.set_cons_succ]
  refine Ph.U_take (i := 10) (oi := { dst := some 18, op := .load 31 (.tmp 17), type := 31, pos := "machine.go:24", after := #[{ on := 9, ground := .data }], guard := none }) (v := .slice BA s.back.length bc) rfl (by kernel_rfl) (by kernel_rfl) (by kernel_rfl) (by kernel_rfl) (fun _ _ _ h => h) (Or.inl ⟨by rfl, ?_⟩) (by assumption) ?_
  · intro W hSw; (try dsimp only at hSw); go_simp
  simp only [Act.put, List.setIfInBounds_toArray, List.set_cons_zero, List.set_cons_succ]
  have N1d := Lib.hid (N1.out.drew)
  have hzB : B ≤ w1.drew.heap.size := Nat.le_trans hB N1d.out.size
  refine Ph.U_ready (rs := [5]) (by kernel_rfl) (by simp) ?_
  refine Ph.AllReadyU.cons rfl (fun K hK => ?_) Ph.AllReadyU.nil
  go_simp
  refine (clone_row B SA sc _ s.stack rfl _ (N1d.out.held.row (by simp [mach])) (by omega)).mono ?_
  rintro e w2 ⟨A2, c2, rfl, r2, t2⟩
  have N2 := Lib.hid (N1d.out.trans (Turns.made N1d.out.held (made_row r2 t2 hzB)))
  have hz2 := t2.size
  have KK2 : Hid (Blk w2 m 70 (mCells (.slice SA s.stack.length sc) (.slice BA s.back.length bc) (.slice MA s.mem.length mc) s t)) := N2.out.held.blk (by simp [mach])
  have HS2 : (fun W : World => W.cell? ⟨m, 2, none⟩ = some (.slice SA s.stack.length sc) ∧ W.cell? ⟨m, 3, none⟩ = some (.slice BA s.back.length bc)) w2 := ⟨KK2.out.cell 2, KK2.out.cell 3⟩
  refine hK.out _ _ (fun _ => HS2) ?_
  clear hK K
  simp only [Act.put, List.setIfInBounds_toArray, List.set_cons_zero, List.set_cons_succ]
  refine Ph.U_take (i := 12) (oi := { dst := some 20, op := .fieldAddr 33 (.tmp 2) 2, type := 0, pos := "machine.go:24", after := #[{ on := 0, ground := .phase }, { on := 1, ground := .phase }, { on := 2, ground := .phase }, { on := 3, ground := .phase }, { on := 4, ground := .phase }, { on := 5, ground := .phase }, { on := 6, ground := .textOnly .lateStores }, { on := 7, ground := .textOnly .lateStores }, { on := 8, ground := .textOnly .lateStores }, { on := 9, ground := .textOnly .lateStores }, { on := 10, ground := .textOnly .lateStores }, { on := 11, ground := .textOnly .lateStoresUnsure }], guard := none }) (v := .pointer (some ⟨w.heap.size, 2, none⟩)) rfl (by kernel_rfl) (by kernel_rfl) (by kernel_rfl) (by kernel_rfl) (fun _ _ _ h => h) (Or.inl ⟨by rfl, ?_⟩) (by assumption) ?_
  · intro W hSw; (try dsimp only at hSw); go_simp
  simp only [Act.put, List.setIfInBounds_toArray, List.set_cons_zero, List.set_cons_succ]
  refine Ph.U_ready (rs := [11]) (by kernel_rfl) (by simp) ?_
  refine Ph.AllReadyU.cons rfl (fun K hK => ?_) Ph.AllReadyU.nil
  go_simp
  refine (clone_row B BA bc _ s.back rfl _ (N2.out.held.row (by simp [mach])) (by omega)).mono ?_
  rintro e w3 ⟨A3, c3, rfl, r3, t3⟩
  have N3 := Lib.hid (N2.out.trans (Turns.made N2.out.held (made_row r3 t3 (Nat.le_trans hzB hz2))))
  have KK3 : Hid (Blk w3 m 70 (mCells (.slice SA s.stack.length sc) (.slice BA s.back.length bc) (.slice MA s.mem.length mc) s t)) := N3.out.held.blk (by simp [mach])
  have HS3 : (fun W : World => W.cell? ⟨m, 2, none⟩ = some (.slice SA s.stack.length sc) ∧ W.cell? ⟨m, 3, none⟩ = some (.slice BA s.back.length bc)) w3 := ⟨KK3.out.cell 2, KK3.out.cell 3⟩
  refine hK.out _ _ (fun _ => HS3) ?_
  clear hK K
  simp only [Act.put, List.setIfInBounds_toArray, List.set_cons_zero, List.set_cons_succ]
  have KB3 : Hid (Blk w3 w.heap.size 33 #[.int .i64 s.ip, .int .i64 s.handler, .slice SA s.stack.length sc, .slice BA s.back.length bc, .slice MA s.mem.length mc, .string s.out, .string s.inp, .int .i64 s.read, .int .i64 s.status, .int .i64 s.code]) := N3.out.held.blk (by simp)
  have g2 := KB3.out.cell 2
  have z2 := KB3.out.frozen 2
  have N4 : Hid (Turns w B (mach m (.slice SA s.stack.length sc) (.slice BA s.back.length bc) (.slice MA s.mem.length mc) s t) ([.row 3 1 (.slice A3 s.back.length c3) s.back.length (ints s.back), .row 3 1 (.slice A2 s.stack.length c2) s.stack.length (ints s.stack)] ++ .st w.heap.size 33 #[.int .i64 s.ip, .int .i64 s.handler, .slice A2 s.stack.length c2, .slice BA s.back.length bc, .slice MA s.mem.length mc, .string s.out, .string s.inp, .int .i64 s.read, .int .i64 s.status, .int .i64 s.code] :: mach m (.slice SA s.stack.length sc) (.slice BA s.back.length bc) (.slice MA s.mem.length mc) s t) (w3.setCell ⟨w.heap.size, 2, none⟩ (.slice A2 s.stack.length c2))) := N3.out.trans (Turns.set_at [.row 3 1 (.slice A3 s.back.length c3) s.back.length (ints s.back), .row 3 1 (.slice A2 s.stack.length c2) s.stack.length (ints s.stack)] (mach m (.slice SA s.stack.length sc) (.slice BA s.back.length bc) (.slice MA s.mem.length mc) s t) N3.out.held 2 (.slice A2 s.stack.length c2))
  have KK4 : Hid (Blk (w3.setCell ⟨w.heap.size, 2, none⟩ (.slice A2 s.stack.length c2)) m 70 (mCells (.slice SA s.stack.length sc) (.slice BA s.back.length bc) (.slice MA s.mem.length mc) s t)) := N4.out.held.blk (by simp [mach])
  have HS4 : (fun W : World => W.cell? ⟨m, 2, none⟩ = some (.slice SA s.stack.length sc) ∧ W.cell? ⟨m, 3, none⟩ = some (.slice BA s.back.length bc)) (w3.setCell ⟨w.heap.size, 2, none⟩ (.slice A2 s.stack.length c2)) := ⟨KK4.out.cell 2, KK4.out.cell 3⟩
  refine Ph.U_ready (rs := [13]) (by kernel_rfl) (by simp) ?_
  refine Ph.AllReadyU.cons rfl (fun K hK => ?_) Ph.AllReadyU.nil
  go_simp
  refine hK.out _ _ (fun _ => HS4) ?_
  clear hK K
  simp only [Act.put, List.setIfInBounds_toArray, List.set_cons_zero, List.set_cons_succ]
  clear g2 z2 HS3
  generalize w3.setCell ⟨w.heap.size, 2, none⟩ (.slice A2 s.stack.length c2) = w4 at *
  refine Ph.U_take (i := 14) (oi := { dst := some 21, op := .fieldAddr 33 (.tmp 2) 3, type := 0, pos := "machine.go:24", after := #[{ on := 0, ground := .phase }, { on := 1, ground := .phase }, { on := 2, ground := .phase }, { on := 3, ground := .phase }, { on := 4, ground := .phase }, { on := 5, ground := .phase }, { on := 6, ground := .phase }, { on := 7, ground := .phase }, { on := 8, ground := .phase }, { on := 9, ground := .phase }, { on := 10, ground := .phase }, { on := 11, ground := .phase }, { on := 12, ground := .phase }, { on := 13, ground := .phase }], guard := none }) (v := .pointer (some ⟨w.heap.size, 3, none⟩)) rfl (by kernel_rfl) (by kernel_rfl) (by kernel_rfl) (by kernel_rfl) (fun _ _ _ h => h) (Or.inl ⟨by rfl, ?_⟩) (by assumption) ?_
  · intro W hSw; (try dsimp only at hSw); go_simp
  simp only [Act.put, List.setIfInBounds_toArray, List.set_cons_zero, List.set_cons_succ]
  have KB4 : Hid (Blk w4 w.heap.size 33 #[.int .i64 s.ip, .int .i64 s.handler, .slice A2 s.stack.length c2, .slice BA s.back.length bc, .slice MA s.mem.length mc, .string s.out, .string s.inp, .int .i64 s.read, .int .i64 s.status, .int .i64 s.code]) := N4.out.held.blk (by simp)
  have g3 := KB4.out.cell 3
  have z3 := KB4.out.frozen 3
  have N5 : Hid (Turns w B (mach m (.slice SA s.stack.length sc) (.slice BA s.back.length bc) (.slice MA s.mem.length mc) s t) ([.row 3 1 (.slice A3 s.back.length c3) s.back.length (ints s.back), .row 3 1 (.slice A2 s.stack.length c2) s.stack.length (ints s.stack)] ++ .st w.heap.size 33 #[.int .i64 s.ip, .int .i64 s.handler, .slice A2 s.stack.length c2, .slice A3 s.back.length c3, .slice MA s.mem.length mc, .string s.out, .string s.inp, .int .i64 s.read, .int .i64 s.status, .int .i64 s.code] :: mach m (.slice SA s.stack.length sc) (.slice BA s.back.length bc) (.slice MA s.mem.length mc) s t) (w4.setCell ⟨w.heap.size, 3, none⟩ (.slice A3 s.back.length c3))) := N4.out.trans (Turns.set_at [.row 3 1 (.slice A3 s.back.length c3) s.back.length (ints s.back), .row 3 1 (.slice A2 s.stack.length c2) s.stack.length (ints s.stack)] (mach m (.slice SA s.stack.length sc) (.slice BA s.back.length bc) (.slice MA s.mem.length mc) s t) N4.out.held 3 (.slice A3 s.back.length c3))
  have KK5 : Hid (Blk (w4.setCell ⟨w.heap.size, 3, none⟩ (.slice A3 s.back.length c3)) m 70 (mCells (.slice SA s.stack.length sc) (.slice BA s.back.length bc) (.slice MA s.mem.length mc) s t)) := N5.out.held.blk (by simp [mach])
  have HS5 : (fun W : World => W.cell? ⟨m, 2, none⟩ = some (.slice SA s.stack.length sc) ∧ W.cell? ⟨m, 3, none⟩ = some (.slice BA s.back.length bc)) (w4.setCell ⟨w.heap.size, 3, none⟩ (.slice A3 s.back.length c3)) := ⟨KK5.out.cell 2, KK5.out.cell 3⟩
  refine Ph.U_ready (rs := [15]) (by kernel_rfl) (by simp) ?_
  refine Ph.AllReadyU.cons rfl (fun K hK => ?_) Ph.AllReadyU.nil
  go_simp
  refine hK.out _ _ (fun _ => HS5) ?_
  clear hK K
  simp only [Act.put, List.setIfInBounds_toArray, List.set_cons_zero, List.set_cons_succ]
  clear g3 z3 HS4 HS5 KB3 KB4 KK1 KK2 KK3 KK4 N1 N1d N2 N3 N4 HS0 HS2
  generalize w4.setCell ⟨w.heap.size, 3, none⟩ (.slice A3 s.back.length c3) = w5 at *
  refine Ph.U_done (by kernel_rfl) ?_ _
  have N6 : Hid (Turns w B (mach m (.slice SA s.stack.length sc) (.slice BA s.back.length bc) (.slice MA s.mem.length mc) s t) ([.row 3 1 (.slice A3 s.back.length c3) s.back.length (ints s.back), .row 3 1 (.slice A2 s.stack.length c2) s.stack.length (ints s.stack), .st w.heap.size 33 #[.int .i64 s.ip, .int .i64 s.handler, .slice A2 s.stack.length c2, .slice A3 s.back.length c3, .slice MA s.mem.length mc, .string s.out, .string s.inp, .int .i64 s.read, .int .i64 s.status, .int .i64 s.code]] ++ mach m (.slice SA s.stack.length sc) (.slice BA s.back.length bc) (.slice MA s.mem.length mc) s false) (w5.setCell ⟨m, 10, none⟩ (.bool false))) := N5.out.trans (Turns.set_at [.row 3 1 (.slice A3 s.back.length c3) s.back.length (ints s.back), .row 3 1 (.slice A2 s.stack.length c2) s.stack.length (ints s.stack), .st w.heap.size 33 #[.int .i64 s.ip, .int .i64 s.handler, .slice A2 s.stack.length c2, .slice A3 s.back.length c3, .slice MA s.mem.length mc, .string s.out, .string s.inp, .int .i64 s.read, .int .i64 s.status, .int .i64 s.code]] [.row 3 1 (.slice SA s.stack.length sc) s.stack.length (ints s.stack), .row 3 1 (.slice BA s.back.length bc) s.back.length (ints s.back), .row 3 1 (.slice MA s.mem.length mc) s.mem.length (ints s.mem)] N5.out.held 10 (.bool false))
  have N7 := Lib.hid (N6.out.perm List.perm_append_comm)
  have d10 : w5.cell? ⟨m, 10, none⟩ = some (.bool t) := KK5.out.cell 10
  have f10 := KK5.out.frozen 10
  have HStep := Lib.hid (step_any B m _ _ _ s _ N7.out.held.left (Nat.le_trans hB N7.out.size) W)
  clear KK5 N5 N6
  go_wp2_with fail
  refine HStep.out.mono ?_
  generalize w5.setCell ⟨m, 10, none⟩ (.bool false) = w6 at *
  rintro e w7 ha
  cases hex : exec s with
  | ok s' =>
    rw [hex] at ha
    obtain ⟨rfl, t', sv', bv', M⟩ := ha
    have hadv : advance s = s' := by unfold advance; rw [hex]
    have G : Hid (∃ t', Goes w B m (.slice SA s.stack.length sc) (.slice BA s.back.length bc) (.slice MA s.mem.length mc) s t (advance s) t' w7) := by
      rw [hadv]
      exact ⟨t', sv', bv', (N7.out.trans (M.frame N7.out.held)).sub (List.sublist_append_left _ _)⟩
    clear M hadv
    go_wp2_with fail
    exact bodyPost_ret (results_none rfl _ _ _) rfl ⟨rfl, G.out⟩
  | bad code thr =>
    rw [hex] at ha
    obtain ⟨v, ip, ws, rfl, h1, s', hm', sv', bv', M⟩ := ha
    have N8 := Lib.hid (N7.out.trans (M.frame N7.out.held))
    have hg7 : Hid (HandleIs w7) := hg.below ((hb0.trans ((N8.out.below hB HH.out).mono h0)))
    have HCode := Lib.hid (fun (W : World) (hW : Below w7.heap.size w7 W) => code_any code ip ws v W (h1.below hW) (hg7.out.below (hW.mono (Nat.le_refl _))))
    obtain ⟨TT, p, rfl⟩ := h1.form
    have KM : Hid (Blk w7 m 70 (mCells sv' bv' (.slice MA s.mem.length mc) s' thr)) := N8.out.held.blk (by simp [mach])
    have d10 : w7.cell? ⟨m, 10, none⟩ = some (.bool thr) := KM.out.cell 10
    have KB : Hid (Blk w7 w.heap.size 33 #[.int .i64 s.ip, .int .i64 s.handler, .slice A2 s.stack.length c2, .slice A3 s.back.length c3, .slice MA s.mem.length mc, .string s.out, .string s.inp, .int .i64 s.read, .int .i64 s.status, .int .i64 s.code]) := N8.out.held.blk (by simp)
    have Herr7 := Lib.hid h1
    have HErrT := Lib.hid h1
    clear M h1 HStep N7 HCode
    cases thr with
    | false =>
      go_wp2_with fail
      have KBq := KB
      have Nq := N8
      have hgq := hg7
      have Herr := Herr7
      have HS0 : (fun W : World => Blk W w.heap.size 33 #[.int .i64 s.ip, .int .i64 s.handler, .slice A2 s.stack.length c2, .slice A3 s.back.length c3, .slice MA s.mem.length mc, .string s.out, .string s.inp, .int .i64 s.read, .int .i64 s.status, .int .i64 s.code]) w7.drew := KBq.out
      refine Ph.wp_region_U 8 (fun W : World => Blk W w.heap.size 33 #[.int .i64 s.ip, .int .i64 s.handler, .slice A2 s.stack.length c2, .slice A3 s.back.length c3, .slice MA s.mem.length mc, .string s.out, .string s.inp, .int .i64 s.read, .int .i64 s.status, .int .i64 s.code]) (by kernel_rfl) ?_
      change Ph.wpU _ _ _ _ _ _ 8 #[false, false, false, false, false, false, false, false] _ _
      refine Ph.U_take (i := 0) (oi := { dst := some 41, op := .move (.tmp 0), type := 68, pos := "machine.go:33", after := #[], guard := none }) (v := .pointer (some ⟨m, 0, none⟩)) rfl (by kernel_rfl) (by kernel_rfl) (by kernel_rfl) (by kernel_rfl) (fun _ _ _ h => h) (Or.inl ⟨by rfl, ?_⟩) (by assumption) ?_
      · intro W hSw; (try dsimp only at hSw); go_simp
      simp only [Act.put, List.setIfInBounds_toArray, List.set_cons_zero, List.set_cons_succ]
      refine Ph.U_take (i := 1) (oi := { dst := some 42, op := .load 33 (.tmp 2), type := 33, pos := "machine.go:33", after := #[], guard := none }) (v := .agg #[.int .i64 s.ip, .int .i64 s.handler, .slice A2 s.stack.length c2, .slice A3 s.back.length c3, .slice MA s.mem.length mc, .string s.out, .string s.inp, .int .i64 s.read, .int .i64 s.status, .int .i64 s.code]) rfl (by kernel_rfl) (by kernel_rfl) (by kernel_rfl) (by kernel_rfl) (fun _ _ _ h => h) (Or.inl ⟨by rfl, ?_⟩) (by assumption) ?_
      · intro W hSw
        have x0 := Blk.cell hSw 0; have x1 := Blk.cell hSw 1; have x2 := Blk.cell hSw 2; have x3 := Blk.cell hSw 3; have x4 := Blk.cell hSw 4
        have x5 := Blk.cell hSw 5; have x6 := Blk.cell hSw 6; have x7 := Blk.cell hSw 7; have x8 := Blk.cell hSw 8; have x9 := Blk.cell hSw 9
        simp only [List.getElem?_toArray, List.getElem?_cons_zero, List.getElem?_cons_succ] at x0 x1 x2 x3 x4 x5 x6 x7 x8 x9
        clear hSw
        go_simp
      simp only [Act.put, List.setIfInBounds_toArray, List.set_cons_zero, List.set_cons_succ]
      refine Ph.U_take (i := 2) (oi := { dst := some 43, op := .move (.tmp 3), type := 86, pos := "machine.go:33", after := #[], guard := none }) (v := .iface TT p) rfl (by kernel_rfl) (by kernel_rfl) (by kernel_rfl) (by kernel_rfl) (fun _ _ _ h => h) (Or.inl ⟨by rfl, ?_⟩) (by assumption) ?_
      · intro W hSw; (try dsimp only at hSw); go_simp
      simp only [Act.put, List.setIfInBounds_toArray, List.set_cons_zero, List.set_cons_succ]
      refine Ph.U_ready (rs := [3]) (by kernel_rfl) (by simp) ?_
      refine Ph.AllReadyU.cons rfl (fun K hK => ?_) Ph.AllReadyU.nil
      go_simp
      refine (code_any code ip ws _ w7.drew (Herr.out.drewN 1) hgq.out).mono ?_
      rintro e w8 ⟨rfl, t8⟩
      have N9 := Lib.hid (Nq.out.drew.trans (Turns.of_below Nq.out.drew.held t8 (Nat.le_refl _)))
      have HS8 : (fun W : World => Blk W w.heap.size 33 #[.int .i64 s.ip, .int .i64 s.handler, .slice A2 s.stack.length c2, .slice A3 s.back.length c3, .slice MA s.mem.length mc, .string s.out, .string s.inp, .int .i64 s.read, .int .i64 s.status, .int .i64 s.code]) w8 := Blk.below HS0 t8 (Blk.lt HS0)
      refine hK.out _ _ (fun _ => HS8) ?_
      clear hK K
      simp only [Act.put, List.setIfInBounds_toArray, List.set_cons_zero, List.set_cons_succ]
      refine Ph.U_ready (rs := [4]) (by kernel_rfl) (by simp) ?_
      refine Ph.AllReadyU.cons rfl (fun K hK => ?_) Ph.AllReadyU.nil
      go_simp
      have hst8 : StRows w8 B (.slice A2 s.stack.length c2) (.slice A3 s.back.length c3) (.slice MA s.mem.length mc) s := ⟨N9.out.held.row (by simp), N9.out.held.row (by simp), by have := N9.out.held.row (e := 3) (sz := 1) (v := .slice MA s.mem.length mc) (n := s'.mem.length) (xs := ints s'.mem) (by simp [mach]); rw [hm'] at this; exact this⟩
      refine (faulty_any B _ _ _ s code w8 hst8 W (Nat.le_trans hB N9.out.size)).mono ?_
      rintro e w9 ⟨sv2, bv2, rfl, q1, q2, q3, q4, t9⟩
      unfold sCells
      have HS9 : (fun W : World => Blk W w.heap.size 33 #[.int .i64 s.ip, .int .i64 s.handler, .slice A2 s.stack.length c2, .slice A3 s.back.length c3, .slice MA s.mem.length mc, .string s.out, .string s.inp, .int .i64 s.read, .int .i64 s.status, .int .i64 s.code]) w9 := Blk.below HS8 t9 (Blk.lt HS8)
      refine hK.out _ _ (fun _ => HS9) ?_
      clear hK K
      simp only [Act.put, List.setIfInBounds_toArray, List.set_cons_zero, List.set_cons_succ]
      refine Ph.U_take (i := 5) (oi := { dst := some 46, op := .nilCheck (.tmp 41), type := 0, pos := "machine.go:33", after := #[{ on := 0, ground := .data }, { on := 0, ground := .phase }, { on := 1, ground := .phase }, { on := 2, ground := .phase }, { on := 3, ground := .phase }, { on := 4, ground := .phase }], guard := none }) (v := .pointer (some ⟨m, 0, none⟩)) rfl (by kernel_rfl) (by kernel_rfl) (by kernel_rfl) (by kernel_rfl) (fun _ _ _ h => h) (Or.inl ⟨by rfl, ?_⟩) (by assumption) ?_
      · intro W hSw; (try dsimp only at hSw); go_simp
      simp only [Act.put, List.setIfInBounds_toArray, List.set_cons_zero, List.set_cons_succ]
      refine Ph.U_take (i := 6) (oi := { dst := some 47, op := .fieldAddr 70 (.tmp 46) 0, type := 0, pos := "machine.go:33", after := #[{ on := 5, ground := .data }, { on := 0, ground := .phase }, { on := 1, ground := .phase }, { on := 2, ground := .phase }, { on := 3, ground := .phase }, { on := 4, ground := .phase }], guard := none }) (v := .pointer (some ⟨m, 0, none⟩)) rfl (by kernel_rfl) (by kernel_rfl) (by kernel_rfl) (by kernel_rfl) (fun _ _ _ h => h) (Or.inl ⟨by rfl, ?_⟩) (by assumption) ?_
      · intro W hSw; (try dsimp only at hSw); go_simp
      simp only [Act.put, List.setIfInBounds_toArray, List.set_cons_zero, List.set_cons_succ]
      have KM9 : Blk w9 m 70 (mCells sv' bv' (.slice MA s.mem.length mc) s' false) := (N9.out.held.blk (by simp [mach])).below t9 (N9.out.held.blk (b := m) (T := 70) (vs := mCells sv' bv' (.slice MA s.mem.length mc) s' false) (by simp [mach])).lt
      obtain ⟨S2, s2, rfl⟩ := q1.slice
      obtain ⟨V2, b2, rfl⟩ := q3.slice
      have hfm : (faulty s code).mem = s.mem := by unfold faulty; split <;> rfl
      have hadv : advance s = faulty s code := by unfold advance; rw [hex]; rfl
      have hfl : (faulty s code).mem.length = s.mem.length := by rw [hfm]
      generalize hr : faulty s code = r at *
      have E9 := Lib.hid (fun (w10 : World) (hT : Touch w9 w10 (fun k => k = m)) (hB10 : Blk w10 m 70 (mCells (.slice S2 r.stack.length s2) (.slice V2 r.back.length b2) (.slice MA s.mem.length mc) r false)) => adv_held (was := s) N9.out t9 q1 q2 q3 q4 hm' hfm hT hB10)
      have y0 := KM9.cell 0; have y1 := KM9.cell 1; have y2 := KM9.cell 2; have y3 := KM9.cell 3; have y4 := KM9.cell 4
      have y5 := KM9.cell 5; have y6 := KM9.cell 6; have y7 := KM9.cell 7; have y8 := KM9.cell 8; have y9 := KM9.cell 9
      simp only [mCells, List.getElem?_toArray, List.getElem?_cons_zero, List.getElem?_cons_succ] at y0 y1 y2 y3 y4 y5 y6 y7 y8 y9
      have v0 := KM9.frozen 0; have v1 := KM9.frozen 1; have v2 := KM9.frozen 2; have v3 := KM9.frozen 3; have v4 := KM9.frozen 4
      have v5 := KM9.frozen 5; have v6 := KM9.frozen 6; have v7 := KM9.frozen 7; have v8 := KM9.frozen 8; have v9 := KM9.frozen 9
      have K9 := Lib.hid KM9
      have HS9' := Lib.hid HS9
      have HSL : Hid (w.heap.size < w9.heap.size) := Blk.lt HS9
      clear KM9 HS9 HS8 HS0 q1 q2 q3 q4 t8 t9 hst8 N9
      refine Ph.U_ready (rs := [7]) (by kernel_rfl) (by simp) ?_
      refine Ph.AllReadyU.cons rfl (fun K hK => ?_) Ph.AllReadyU.nil
      go_simp
      have hPS := put_state (sv2 := .slice S2 r.stack.length s2) (bv2 := .slice V2 r.back.length b2) (mv2 := .slice MA s.mem.length mc) (r := r) K9.out
      have hE := E9.out _ hPS.1 hPS.2
      have hbm : w.heap.size ≠ m := Nat.ne_of_gt hmlt
      have HS10 := (hPS.1.block _ HSL.out hbm).trans HS9'.out
      refine hK.out _ _ (fun _ => HS10) ?_
      have HE := Lib.hid hE
      clear hPS hE HS10
      clear hK K
      simp only [Act.put, List.setIfInBounds_toArray, List.set_cons_zero, List.set_cons_succ]
      refine Ph.U_done (by kernel_rfl) ?_ _
      go_wp2
      go_end0
      exact ⟨rfl, .inl ⟨_, _, HE.out⟩⟩
    | true =>
      have hst := threw_exec hex
      have hdl : s.stack.dropLast.length = s.stack.length - 1 := List.length_dropLast
      have hlen := len_dropLast (l := s.stack) (ne_of_pos (by omega))
      have hr2 : Row w7 B 3 1 (.slice A2 s.stack.length c2) s.stack.length (ints s.stack) := N8.out.held.row (by simp)
      have hcap := row_cap hr2
      have hrt := hr2.take (k := s.stack.dropLast.length) (by omega)
      rw [Nat.mul_one, ints_take, take_dropLast] at hrt
      have N8b := Lib.hid (N8.out.trans (Turns.turn_at (mach m sv' bv' (.slice MA s.mem.length mc) s' true ++ [.row 3 1 (.slice A3 s.back.length c3) s.back.length (ints s.back)]) [.st w.heap.size 33 #[.int .i64 s.ip, .int .i64 s.handler, .slice A2 s.stack.length c2, .slice A3 s.back.length c3, .slice MA s.mem.length mc, .string s.out, .string s.inp, .int .i64 s.read, .int .i64 s.status, .int .i64 s.code]] (v' := .slice A2 s.stack.dropLast.length c2) N8.out.held hrt (fun k h => by
        cases A2 with
        | none => simp [roomBlock] at h
        | some a => cases c2 with
          | zero => simp [roomBlock] at h
          | succ c => simpa [roomBlock] using h)))
      have g2 := KB.out.cell 2
      have z2 := KB.out.frozen 2
      simp only [List.getElem?_toArray, List.getElem?_cons_zero, List.getElem?_cons_succ] at g2
      have Nq : Hid (Turns w B (mach m (.slice SA s.stack.length sc) (.slice BA s.back.length bc) (.slice MA s.mem.length mc) s t) (mach m sv' bv' (.slice MA s.mem.length mc) s' true ++ [.row 3 1 (.slice A3 s.back.length c3) (pop s).back.length (ints (pop s).back), .row 3 1 (.slice A2 s.stack.dropLast.length c2) (pop s).stack.length (ints (pop s).stack), .st w.heap.size 33 #[.int .i64 s.ip, .int .i64 s.handler, .slice A2 s.stack.dropLast.length c2, .slice A3 s.back.length c3, .slice MA s.mem.length mc, .string s.out, .string s.inp, .int .i64 s.read, .int .i64 s.status, .int .i64 s.code]]) (w7.setCell ⟨w.heap.size, 2, none⟩ (.slice A2 s.stack.dropLast.length c2))) := N8b.out.trans (Turns.set_at (mach m sv' bv' (.slice MA s.mem.length mc) s' true ++ [.row 3 1 (.slice A3 s.back.length c3) s.back.length (ints s.back), .row 3 1 (.slice A2 s.stack.dropLast.length c2) s.stack.dropLast.length (ints s.stack.dropLast)]) [] N8b.out.held 2 (.slice A2 s.stack.dropLast.length c2))
      have KBq : Hid (Blk (w7.setCell ⟨w.heap.size, 2, none⟩ (.slice A2 s.stack.dropLast.length c2)) w.heap.size 33 #[.int .i64 s.ip, .int .i64 s.handler, .slice A2 s.stack.dropLast.length c2, .slice A3 s.back.length c3, .slice MA s.mem.length mc, .string s.out, .string s.inp, .int .i64 s.read, .int .i64 s.status, .int .i64 s.code]) := KB.out.set_ 2 _
      have Herr := Lib.hid (ErrIs.set KB.out (i := 2) (u := .slice A2 s.stack.dropLast.length c2) Herr7.out)
      have hgq : Hid (HandleIs (w7.setCell ⟨w.heap.size, 2, none⟩ (.slice A2 s.stack.dropLast.length c2))) := hg.below ((hb0.trans ((Nq.out.below hB HH.out).mono h0)))
      have i3 : s.stack.dropLast.length ≤ c2 := by clear Nq KBq Herr hgq N8b; omega
      clear hr2 hrt N8 N8b hcap KM hdl
      generalize hd : s.stack.dropLast.length = d at *
      have hdc : d + 1 ≤ 1000 := by clear Nq KBq Herr hgq; omega
      have i4 : (d : Int) ≤ (c2 : Int) := by clear Nq KBq Herr hgq; omega
      have Hd := Lib.hid hd
      have Hlen := Lib.hid hlen
      rw [hlen] at g2 ⊢
      clear hd hlen
      have KM0 := KB
      clear KB
      go_wp2_with fail
      trace_state
      have HS0 : (fun W : World => Blk W w.heap.size 33 #[.int .i64 s.ip, .int .i64 s.handler, .slice A2 d c2, .slice A3 s.back.length c3, .slice MA s.mem.length mc, .string s.out, .string s.inp, .int .i64 s.read, .int .i64 s.status, .int .i64 s.code]) (w7.setCell ⟨w.heap.size, 2, none⟩ (.slice A2 d c2)).drew := KBq.out
      refine Ph.wp_region_U 8 (fun W : World => Blk W w.heap.size 33 #[.int .i64 s.ip, .int .i64 s.handler, .slice A2 d c2, .slice A3 s.back.length c3, .slice MA s.mem.length mc, .string s.out, .string s.inp, .int .i64 s.read, .int .i64 s.status, .int .i64 s.code]) (by kernel_rfl) ?_
      change Ph.wpU _ _ _ _ _ _ 8 #[false, false, false, false, false, false, false, false] _ _
      refine Ph.U_take (i := 0) (oi := { dst := some 41, op := .move (.tmp 0), type := 68, pos := "machine.go:33", after := #[], guard := none }) (v := .pointer (some ⟨m, 0, none⟩)) rfl (by kernel_rfl) (by kernel_rfl) (by kernel_rfl) (by kernel_rfl) (fun _ _ _ h => h) (Or.inl ⟨by rfl, ?_⟩) (by assumption) ?_
      · intro W hSw; (try dsimp only at hSw); go_simp
      simp only [Act.put, List.setIfInBounds_toArray, List.set_cons_zero, List.set_cons_succ]
      refine Ph.U_take (i := 1) (oi := { dst := some 42, op := .load 33 (.tmp 2), type := 33, pos := "machine.go:33", after := #[], guard := none }) (v := .agg #[.int .i64 s.ip, .int .i64 s.handler, .slice A2 d c2, .slice A3 s.back.length c3, .slice MA s.mem.length mc, .string s.out, .string s.inp, .int .i64 s.read, .int .i64 s.status, .int .i64 s.code]) rfl (by kernel_rfl) (by kernel_rfl) (by kernel_rfl) (by kernel_rfl) (fun _ _ _ h => h) (Or.inl ⟨by rfl, ?_⟩) (by assumption) ?_
      · intro W hSw
        have x0 := Blk.cell hSw 0; have x1 := Blk.cell hSw 1; have x2 := Blk.cell hSw 2; have x3 := Blk.cell hSw 3; have x4 := Blk.cell hSw 4
        have x5 := Blk.cell hSw 5; have x6 := Blk.cell hSw 6; have x7 := Blk.cell hSw 7; have x8 := Blk.cell hSw 8; have x9 := Blk.cell hSw 9
        simp only [List.getElem?_toArray, List.getElem?_cons_zero, List.getElem?_cons_succ] at x0 x1 x2 x3 x4 x5 x6 x7 x8 x9
        clear hSw
        go_simp
      simp only [Act.put, List.setIfInBounds_toArray, List.set_cons_zero, List.set_cons_succ]
      refine Ph.U_take (i := 2) (oi := { dst := some 43, op := .move (.tmp 3), type := 86, pos := "machine.go:33", after := #[], guard := none }) (v := .iface TT p) rfl (by kernel_rfl) (by kernel_rfl) (by kernel_rfl) (by kernel_rfl) (fun _ _ _ h => h) (Or.inl ⟨by rfl, ?_⟩) (by assumption) ?_
      · intro W hSw; (try dsimp only at hSw); go_simp
      simp only [Act.put, List.setIfInBounds_toArray, List.set_cons_zero, List.set_cons_succ]
      refine Ph.U_ready (rs := [3]) (by kernel_rfl) (by simp) ?_
      refine Ph.AllReadyU.cons rfl (fun K hK => ?_) Ph.AllReadyU.nil
      go_simp
      refine (code_any code ip ws _ (w7.setCell ⟨w.heap.size, 2, none⟩ (.slice A2 d c2)).drew (Herr.out.drewN 1) hgq.out).mono ?_
      rintro e w8 ⟨rfl, t8⟩
      have N9 := Lib.hid (Nq.out.drew.trans (Turns.of_below Nq.out.drew.held t8 (Nat.le_refl _)))
      have HS8 : (fun W : World => Blk W w.heap.size 33 #[.int .i64 s.ip, .int .i64 s.handler, .slice A2 d c2, .slice A3 s.back.length c3, .slice MA s.mem.length mc, .string s.out, .string s.inp, .int .i64 s.read, .int .i64 s.status, .int .i64 s.code]) w8 := Blk.below HS0 t8 (Blk.lt HS0)
      refine hK.out _ _ (fun _ => HS8) ?_
      clear hK K
      simp only [Act.put, List.setIfInBounds_toArray, List.set_cons_zero, List.set_cons_succ]
      refine Ph.U_ready (rs := [4]) (by kernel_rfl) (by simp) ?_
      refine Ph.AllReadyU.cons rfl (fun K hK => ?_) Ph.AllReadyU.nil
      go_simp
      have hst8 : StRows w8 B (.slice A2 d c2) (.slice A3 s.back.length c3) (.slice MA s.mem.length mc) (pop s) := ⟨N9.out.held.row (by simp), N9.out.held.row (by simp), by have := N9.out.held.row (e := 3) (sz := 1) (v := .slice MA s.mem.length mc) (n := s'.mem.length) (xs := ints s'.mem) (by simp [mach]); rw [hm'] at this; exact this⟩
      refine (faulty_any B _ _ _ (pop s) code w8 hst8 W.pop (Nat.le_trans hB N9.out.size)).mono ?_
      rintro e w9 ⟨sv2, bv2, rfl, q1, q2, q3, q4, t9⟩
      unfold sCells
      have HS9 : (fun W : World => Blk W w.heap.size 33 #[.int .i64 s.ip, .int .i64 s.handler, .slice A2 d c2, .slice A3 s.back.length c3, .slice MA s.mem.length mc, .string s.out, .string s.inp, .int .i64 s.read, .int .i64 s.status, .int .i64 s.code]) w9 := Blk.below HS8 t9 (Blk.lt HS8)
      refine hK.out _ _ (fun _ => HS9) ?_
      clear hK K
      simp only [Act.put, List.setIfInBounds_toArray, List.set_cons_zero, List.set_cons_succ]
      refine Ph.U_take (i := 5) (oi := { dst := some 46, op := .nilCheck (.tmp 41), type := 0, pos := "machine.go:33", after := #[{ on := 0, ground := .data }, { on := 0, ground := .phase }, { on := 1, ground := .phase }, { on := 2, ground := .phase }, { on := 3, ground := .phase }, { on := 4, ground := .phase }], guard := none }) (v := .pointer (some ⟨m, 0, none⟩)) rfl (by kernel_rfl) (by kernel_rfl) (by kernel_rfl) (by kernel_rfl) (fun _ _ _ h => h) (Or.inl ⟨by rfl, ?_⟩) (by assumption) ?_
      · intro W hSw; (try dsimp only at hSw); go_simp
      simp only [Act.put, List.setIfInBounds_toArray, List.set_cons_zero, List.set_cons_succ]
      refine Ph.U_take (i := 6) (oi := { dst := some 47, op := .fieldAddr 70 (.tmp 46) 0, type := 0, pos := "machine.go:33", after := #[{ on := 5, ground := .data }, { on := 0, ground := .phase }, { on := 1, ground := .phase }, { on := 2, ground := .phase }, { on := 3, ground := .phase }, { on := 4, ground := .phase }], guard := none }) (v := .pointer (some ⟨m, 0, none⟩)) rfl (by kernel_rfl) (by kernel_rfl) (by kernel_rfl) (by kernel_rfl) (fun _ _ _ h => h) (Or.inl ⟨by rfl, ?_⟩) (by assumption) ?_
      · intro W hSw; (try dsimp only at hSw); go_simp
      simp only [Act.put, List.setIfInBounds_toArray, List.set_cons_zero, List.set_cons_succ]
      have KM9 : Blk w9 m 70 (mCells sv' bv' (.slice MA s.mem.length mc) s' true) := (N9.out.held.blk (by simp [mach])).below t9 (N9.out.held.blk (b := m) (T := 70) (vs := mCells sv' bv' (.slice MA s.mem.length mc) s' true) (by simp [mach])).lt
      obtain ⟨S2, s2, rfl⟩ := q1.slice
      obtain ⟨V2, b2, rfl⟩ := q3.slice
      have hfm : (faulty (pop s) code).mem = s.mem := by unfold faulty; split <;> rfl
      have hadv : advance s = faulty (pop s) code := by unfold advance; rw [hex]; rfl
      have hfl : (faulty (pop s) code).mem.length = s.mem.length := by rw [hfm]
      generalize hr : faulty (pop s) code = r at *
      have E9 := Lib.hid (fun (w10 : World) (hT : Touch w9 w10 (fun k => k = m)) (hB10 : Blk w10 m 70 (mCells (.slice S2 r.stack.length s2) (.slice V2 r.back.length b2) (.slice MA s.mem.length mc) r true)) => adv_held (was := (pop s)) N9.out t9 q1 q2 q3 q4 hm' hfm hT hB10)
      have y0 := KM9.cell 0; have y1 := KM9.cell 1; have y2 := KM9.cell 2; have y3 := KM9.cell 3; have y4 := KM9.cell 4
      have y5 := KM9.cell 5; have y6 := KM9.cell 6; have y7 := KM9.cell 7; have y8 := KM9.cell 8; have y9 := KM9.cell 9
      simp only [mCells, List.getElem?_toArray, List.getElem?_cons_zero, List.getElem?_cons_succ] at y0 y1 y2 y3 y4 y5 y6 y7 y8 y9
      have v0 := KM9.frozen 0; have v1 := KM9.frozen 1; have v2 := KM9.frozen 2; have v3 := KM9.frozen 3; have v4 := KM9.frozen 4
      have v5 := KM9.frozen 5; have v6 := KM9.frozen 6; have v7 := KM9.frozen 7; have v8 := KM9.frozen 8; have v9 := KM9.frozen 9
      have K9 := Lib.hid KM9
      have HS9' := Lib.hid HS9
      have HSL : Hid (w.heap.size < w9.heap.size) := Blk.lt HS9
      clear KM9 HS9 HS8 HS0 q1 q2 q3 q4 t8 t9 hst8 N9
      refine Ph.U_ready (rs := [7]) (by kernel_rfl) (by simp) ?_
      refine Ph.AllReadyU.cons rfl (fun K hK => ?_) Ph.AllReadyU.nil
      go_simp
      have hPS := put_state (sv2 := .slice S2 r.stack.length s2) (bv2 := .slice V2 r.back.length b2) (mv2 := .slice MA s.mem.length mc) (r := r) K9.out
      have hE := E9.out _ hPS.1 hPS.2
      have hbm : w.heap.size ≠ m := Nat.ne_of_gt hmlt
      have HS10 := (hPS.1.block _ HSL.out hbm).trans HS9'.out
      refine hK.out _ _ (fun _ => HS10) ?_
      have HE := Lib.hid hE
      clear hPS hE HS10
      clear hK K
      simp only [Act.put, List.setIfInBounds_toArray, List.set_cons_zero, List.set_cons_succ]
      refine Ph.U_done (by kernel_rfl) ?_ _
      go_wp2
      go_end0
      exact ⟨rfl, .inr ⟨_, _, HE.out⟩⟩
end Go.Proofs.YtompdfpjmdnhoabGreatDoor.Mc
namespace Go.Proofs.YtompdfpjmdnhoabGreatDoor.Mc
open Go.RowKit Go.Proofs.YtompdfpjmdnhoabGreatDoor.Rs Go.Proofs.YtompdfpjmdnhoabGreatDoor.Ft
theorem results_row_tmp {P : Program} {fn : Func} {p u : Tmp} {ty : TypeId} (h : fn.results = #[.cell p ty, .tmp u]) (tmps : Array Value) (w : World) (g : Nat) (t : TypeId) (cs : Array Value) (fr : Nat × Nat) (d : TypeDesc)
    (hp : tmps.getD p undef = .pointer (some ⟨g, 0, none⟩)) (hg : w.heap[g]? = some (.cells cs t fr))
    (hu : P.underlying ty = some d) (hd : (match d with | .struct _ | .array _ _ => true | _ => false) = true) (hi : (P.info? ty).map (·.size) = some cs.size) :
    (results fn tmps).run P w = .ok (.tuple #[.agg cs, tmps.getD u undef]) w := by
  rw [results_cell_tmp h, hp]
  simp [asAddr, run_loadVar_row w g t ty cs fr d hg hu hd hi, Result.andThen]
theorem adv_goes {w w1 : World} {B m : Nat} {sv bv mv : Value} {s s1 : S} {t t1 : Bool} (h : Goes w B m sv bv mv s t s1 t1 w1) : ∃ sv1 bv1, Held w1 B (mach m sv1 bv1 mv s1 t1) ∧ Touch w w1 (· ∈ blks (mach m sv bv mv s t)) := by
  obtain ⟨a, b, N⟩ := h
  exact ⟨a, b, N.held, N.touch⟩
set_option maxHeartbeats 4000000 in
set_option maxRecDepth 100000 in
theorem run_any (w0 : World) (hg : HandleIs w0) (B : Nat) (sv bv mv : Value) (s : S) (fuel : Nat) (w : World) (H : StRows w B sv bv mv s) (W : Wf s) (hf : fuel ≤ 1000000) (h0 : w0.heap.size ≤ w.heap.size) (hb0 : Below w0.heap.size w0 w) :
    Calls Tryz.prog 21 #[.agg (sCells sv bv mv s), .int .i64 fuel] w fun e w' => ∃ sv' bv' mv', e = .returned (.tuple #[.agg (sCells sv' bv' mv' (run fuel s).1), .int .i64 (run fuel s).2]) ∧ Held w' w.heap.size (stRows sv' bv' mv' (run fuel s).1) ∧ Below w.heap.size w w' := by
  have hns := W.ns
  have hnb := W.nb
  have hnm := W.nm
  obtain ⟨SA, sc, rfl⟩ := H.st.slice
  obtain ⟨BA, bc, rfl⟩ := H.bk.slice
  obtain ⟨MA, mc, rfl⟩ := H.me.slice
  have k1 := ((Below.refl w.heap.size w).alloc (Nat.le_refl _) (.cells (sCells (.slice SA s.stack.length sc) (.slice BA s.back.length bc) (.slice MA s.mem.length mc) s) 33)).alloc (by simp) (.cells #[.int .i64 0, .int .i64 0, .slice none 0 0, .slice none 0 0, .slice none 0 0, .string ⟨#[]⟩, .string ⟨#[]⟩, .int .i64 0, .int .i64 0, .int .i64 0] 33)
  have b2 : Blk ((w.alloc (.cells (sCells (.slice SA s.stack.length sc) (.slice BA s.back.length bc) (.slice MA s.mem.length mc) s) 33)).alloc (.cells #[.int .i64 0, .int .i64 0, .slice none 0 0, .slice none 0 0, .slice none 0 0, .string ⟨#[]⟩, .string ⟨#[]⟩, .int .i64 0, .int .i64 0, .int .i64 0] 33)) (w.heap.size + 1) 33 #[.int .i64 0, .int .i64 0, .slice none 0 0, .slice none 0 0, .slice none 0 0, .string ⟨#[]⟩, .string ⟨#[]⟩, .int .i64 0, .int .i64 0, .int .i64 0] := by
    simpa using Blk.new (w.alloc (.cells (sCells (.slice SA s.stack.length sc) (.slice BA s.back.length bc) (.slice MA s.mem.length mc) s) 33)) 33 #[.int .i64 0, .int .i64 0, .slice none 0 0, .slice none 0 0, .slice none 0 0, .string ⟨#[]⟩, .string ⟨#[]⟩, .int .i64 0, .int .i64 0, .int .i64 0]
  have hz1 : ((w.alloc (.cells (sCells (.slice SA s.stack.length sc) (.slice BA s.back.length bc) (.slice MA s.mem.length mc) s) 33)).alloc (.cells #[.int .i64 0, .int .i64 0, .slice none 0 0, .slice none 0 0, .slice none 0 0, .string ⟨#[]⟩, .string ⟨#[]⟩, .int .i64 0, .int .i64 0, .int .i64 0] 33)).heap.size = w.heap.size + 2 := by simp
  have HC := Lib.hid (copy_any B _ _ _ s _ (H.below k1 (Nat.le_refl _)) (by omega) (by omega) (by omega))
  unfold sCells at *
  have K1 := Lib.hid k1
  have B2 := Lib.hid b2
  clear k1 b2
  go_enter Tryz.func21, Tryz.ntmps21
  go_wp2_with fail
  generalize hw1 : (w.alloc (.cells #[.int .i64 s.ip, .int .i64 s.handler, .slice SA s.stack.length sc, .slice BA s.back.length bc, .slice MA s.mem.length mc, .string s.out, .string s.inp, .int .i64 s.read, .int .i64 s.status, .int .i64 s.code] 33)).alloc (.cells #[.int .i64 0, .int .i64 0, .slice none 0 0, .slice none 0 0, .slice none 0 0, .string ⟨#[]⟩, .string ⟨#[]⟩, .int .i64 0, .int .i64 0, .int .i64 0] 33) = w1 at *
  clear hw1
  refine HC.out.mono ?_
  rintro e w2 ⟨sv1, bv1, mv1, rfl, H2, t2⟩
  have hrs := st_rows H2
  obtain ⟨S1, s1, rfl⟩ := hrs.st.slice
  obtain ⟨V1, v1, rfl⟩ := hrs.bk.slice
  obtain ⟨M1, m1, rfl⟩ := hrs.me.slice
  have hz2 := t2.size
  have N3 := Turns.new_st H2 hz2 70 (mCells (.slice S1 s.stack.length s1) (.slice V1 s.back.length v1) (.slice M1 s.mem.length m1) s false)
  rw [hz1] at N3 H2 hz2
  have H3 : Hid (Held (w2.alloc (.cells (mCells (.slice S1 s.stack.length s1) (.slice V1 s.back.length v1) (.slice M1 s.mem.length m1) s false) 70)) (w.heap.size + 2) (mach w2.heap.size (.slice S1 s.stack.length s1) (.slice V1 s.back.length v1) (.slice M1 s.mem.length m1) s false)) := N3.held
  have F3 := Lib.hid ((K1.out.trans (t2.mono K1.out.size)).alloc (Nat.le_trans K1.out.size (by rw [hz1]; exact hz2)) (.cells (mCells (.slice S1 s.stack.length s1) (.slice V1 s.back.length v1) (.slice M1 s.mem.length m1) s false) 70))
  have D3 := Lib.hid ((B2.out.below t2 B2.out.lt).alloc (.cells (mCells (.slice S1 s.stack.length s1) (.slice V1 s.back.length v1) (.slice M1 s.mem.length m1) s false) 70))
  clear N3 H2 t2 hrs HC B2 K1 H
  unfold mCells at H3 F3 D3
  go_wp2_with fail
  generalize w2.alloc (.cells #[.int .i64 s.ip, .int .i64 s.handler, .slice S1 s.stack.length s1, .slice V1 s.back.length v1, .slice M1 s.mem.length m1, .string s.out, .string s.inp, .int .i64 s.read, .int .i64 s.status, .int .i64 s.code, .bool false] 70) = w3 at *
  generalize w2.heap.size = m at *
  clear hz1 hz2
  have Hb0 := Lib.hid hb0
  have hWf := Lib.hid W
  generalize hr : run fuel s = rr at *
  have Hr := Lib.hid hr
  clear hr hb0 W hns hnb hnm
  go_loopg [1] fuel (fun gg v1 wr => ∃ (f : Nat) (s' : S) (t' : Bool) (sv' bv' mv' : Value), gg = f ∧ v1 = .int .i64 f ∧ f ≤ fuel ∧ Hid (Held wr (w.heap.size + 2) (mach m sv' bv' mv' s' t')) ∧ Hid (Below w.heap.size w wr) ∧ Hid (Blk wr (w.heap.size + 1) 33 #[.int .i64 0, .int .i64 0, .slice none 0 0, .slice none 0 0, .slice none 0 0, .string ⟨#[]⟩, .string ⟨#[]⟩, .int .i64 0, .int .i64 0, .int .i64 0]) ∧ Hid (Wf s') ∧ Hid (rr = run f s'))
  case atStart => exact ⟨fuel, s, false, _, _, _, rfl, rfl, Nat.le_refl _, H3, F3, D3, hWf, Hr.out.symm⟩
  case round =>
    obtain ⟨f, s', t', sv', bv', mv', hgg, rfl, hff, HM, HF, HD, HW, HR⟩ := hrel
    have Hgg := Lib.hid hgg
    clear hgg
    obtain ⟨S2, s2, rfl⟩ := (m_stack HM.out).slice
    obtain ⟨V2, v2, rfl⟩ := (m_back HM.out).slice
    obtain ⟨M2, m2, rfl⟩ := (m_mem HM.out).slice
    have kb := m_blk HM.out
    have c8 : wr.cell? ⟨m, 8, none⟩ = some (.int .i64 s'.status) := kb.cell 8
    have KB := Lib.hid kb
    clear kb
    have hBz : w.heap.size + 2 ≤ wr.heap.size := by have := HD.out.lt; omega
    by_cases hst : s'.status = 0
    · by_cases hf0 : f = 0
      · subst hf0
        have hsd : (s'.status == 0) = true := by simpa using hst
        clear hst
        have hres : rr = (s', 0) := by rw [HR.out]; rfl
        have c0 : wr.cell? ⟨m, 0, none⟩ = some (.int .i64 s'.ip) := KB.out.cell 0
        have c1 : wr.cell? ⟨m, 1, none⟩ = some (.int .i64 s'.handler) := KB.out.cell 1
        have c2 : wr.cell? ⟨m, 2, none⟩ = some (.slice S2 s'.stack.length s2) := KB.out.cell 2
        have c3 : wr.cell? ⟨m, 3, none⟩ = some (.slice V2 s'.back.length v2) := KB.out.cell 3
        have c4 : wr.cell? ⟨m, 4, none⟩ = some (.slice M2 s'.mem.length m2) := KB.out.cell 4
        have c5 : wr.cell? ⟨m, 5, none⟩ = some (.string s'.out) := KB.out.cell 5
        have c6 : wr.cell? ⟨m, 6, none⟩ = some (.string s'.inp) := KB.out.cell 6
        have c7 : wr.cell? ⟨m, 7, none⟩ = some (.int .i64 s'.read) := KB.out.cell 7
        have c9 : wr.cell? ⟨m, 9, none⟩ = some (.int .i64 s'.code) := KB.out.cell 9
        have h1 : (#[.int .i64 s'.ip, .int .i64 s'.handler, .slice S2 s'.stack.length s2, .slice V2 s'.back.length v2, .slice M2 s'.mem.length m2, .string s'.out, .string s'.inp, .int .i64 s'.read, .int .i64 s'.status, .int .i64 s'.code] : Array Value).all (·.oneCell') = true := by simp [Value.oneCell']
        have hi : (Tryz.prog.info? 33).map (·.size) = some (#[.int .i64 s'.ip, .int .i64 s'.handler, .slice S2 s'.stack.length s2, .slice V2 s'.back.length v2, .slice M2 s'.mem.length m2, .string s'.out, .string s'.inp, .int .i64 s'.read, .int .i64 s'.status, .int .i64 s'.code] : Array Value).size := by kernel_rfl
        have H1 := Lib.hid h1
        have HI := Lib.hid hi
        have HRS := Lib.hid hres
        clear h1 hi hres
        go_wp2_with (refine wpList_store_row rfl _ _ _ rfl (w.heap.size + 1) #[.int .i64 s'.ip, .int .i64 s'.handler, .slice S2 s'.stack.length s2, .slice V2 s'.back.length v2, .slice M2 s'.mem.length m2, .string s'.out, .string s'.inp, .int .i64 s'.read, .int .i64 s'.status, .int .i64 s'.code] rfl rfl _ _ HD.out HI.out rfl H1.out ?_)
        have HRS' := HRS.out
        refine bodyPost_ret (results_row_tmp rfl _ _ (w.heap.size + 1) _ _ (0, 0) _ rfl (setRow_heap _ _ _ _ _ _ HD.out) Tryz.underlying33 rfl HI.out) rfl ⟨.slice S2 s'.stack.length s2, .slice V2 s'.back.length v2, .slice M2 s'.mem.length m2, ?_, ?_, ?_⟩
        · rw [Hr.out, HRS']; rfl
        · rw [Hr.out, HRS']
          have T : Touch wr (wr.setRow (w.heap.size + 1) #[.int .i64 s'.ip, .int .i64 s'.handler, .slice S2 s'.stack.length s2, .slice V2 s'.back.length v2, .slice M2 s'.mem.length m2, .string s'.out, .string s'.inp, .int .i64 s'.read, .int .i64 s'.status, .int .i64 s'.code]) (fun k => k = w.heap.size + 1) := Wv.touch_setRow _ _ _
          have HS : Held wr (w.heap.size + 2) (stRows (.slice S2 s'.stack.length s2) (.slice V2 s'.back.length v2) (.slice M2 s'.mem.length m2) s') := HM.out.sub (List.sublist_cons_self _ _)
          exact (HS.touch T (fun k hk e => by have := (HS.low hk).1; omega)).mono (by omega)
        · exact HF.out.trans ⟨rfl, rfl, rfl, by simp, fun k hk => setRow_other _ _ _ _ (Nat.ne_of_lt (Nat.lt_succ_of_lt hk))⟩
      · obtain ⟨f1, rfl⟩ : ∃ f1, f = f1 + 1 := ⟨f - 1, by omega⟩
        have hA := Lib.hid (advance_any w0 hg (w.heap.size + 2) m _ _ _ s' t' wr HM.out (by omega) (Hb0.out.trans (HF.out.mono h0)) hBz HW.out)
        have hfp : (0 : Int) < (f1 : Int) + 1 := by omega
        have e1 : wrap64 ((f1 : Int) + 1 - 1) = (f1 : Int) := by clear hA; unfold wrap64; omega
        go_wp2_with fail
        refine hA.out.mono ?_
        rintro e w5 ⟨rfl, t5, G⟩
        obtain ⟨sv5, bv5, H5, T5⟩ := adv_goes G
        have F5 : Below w.heap.size w w5 := HF.out.trans (T5.below (B := w.heap.size) (fun k hk => by have := (HM.out.low hk).1; omega) HF.out.size)
        have D5 : Blk w5 (w.heap.size + 1) 33 #[.int .i64 0, .int .i64 0, .slice none 0 0, .slice none 0 0, .slice none 0 0, .string ⟨#[]⟩, .string ⟨#[]⟩, .int .i64 0, .int .i64 0, .int .i64 0] := (T5.block _ HD.out.lt (fun hk => by have := (HM.out.low hk).1; omega)).trans HD.out
        have W5 := (advance_wf s' HW.out).1
        have R5 : rr = run f1 (advance s') := by rw [HR.out]; show (if s'.status = 0 then run f1 (advance s') else (s', f1 + 1)) = _; rw [if_pos hst]
        have F5' := Lib.hid F5
        have D5' := Lib.hid D5
        have W5' := Lib.hid W5
        have R5' := Lib.hid R5
        have H5' := Lib.hid H5
        clear G H5 T5 F5 D5 W5 R5 hA
        go_wp2
        go_roundg f1
        case rel => exact ⟨f1, advance s', t5, sv5, bv5, _, rfl, rfl, by omega, H5', F5', D5', W5', R5'⟩
        case measure => have := Hgg.out; omega
    · have hsd : (s'.status == 0) = false := by simpa using hst
      have hres : rr = (s', f) := by rw [HR.out]; cases f with | zero => rfl | succ f1 => (show (if s'.status = 0 then run f1 (advance s') else (s', f1 + 1)) = _; rw [if_neg hst])
      have c0 : wr.cell? ⟨m, 0, none⟩ = some (.int .i64 s'.ip) := KB.out.cell 0
      have c1 : wr.cell? ⟨m, 1, none⟩ = some (.int .i64 s'.handler) := KB.out.cell 1
      have c2 : wr.cell? ⟨m, 2, none⟩ = some (.slice S2 s'.stack.length s2) := KB.out.cell 2
      have c3 : wr.cell? ⟨m, 3, none⟩ = some (.slice V2 s'.back.length v2) := KB.out.cell 3
      have c4 : wr.cell? ⟨m, 4, none⟩ = some (.slice M2 s'.mem.length m2) := KB.out.cell 4
      have c5 : wr.cell? ⟨m, 5, none⟩ = some (.string s'.out) := KB.out.cell 5
      have c6 : wr.cell? ⟨m, 6, none⟩ = some (.string s'.inp) := KB.out.cell 6
      have c7 : wr.cell? ⟨m, 7, none⟩ = some (.int .i64 s'.read) := KB.out.cell 7
      have c9 : wr.cell? ⟨m, 9, none⟩ = some (.int .i64 s'.code) := KB.out.cell 9
      have h1 : (#[.int .i64 s'.ip, .int .i64 s'.handler, .slice S2 s'.stack.length s2, .slice V2 s'.back.length v2, .slice M2 s'.mem.length m2, .string s'.out, .string s'.inp, .int .i64 s'.read, .int .i64 s'.status, .int .i64 s'.code] : Array Value).all (·.oneCell') = true := by simp [Value.oneCell']
      have hi : (Tryz.prog.info? 33).map (·.size) = some (#[.int .i64 s'.ip, .int .i64 s'.handler, .slice S2 s'.stack.length s2, .slice V2 s'.back.length v2, .slice M2 s'.mem.length m2, .string s'.out, .string s'.inp, .int .i64 s'.read, .int .i64 s'.status, .int .i64 s'.code] : Array Value).size := by kernel_rfl
      have H1 := Lib.hid h1
      have HI := Lib.hid hi
      have HRS := Lib.hid hres
      clear h1 hi hres
      go_wp2_with (refine wpList_store_row rfl _ _ _ rfl (w.heap.size + 1) #[.int .i64 s'.ip, .int .i64 s'.handler, .slice S2 s'.stack.length s2, .slice V2 s'.back.length v2, .slice M2 s'.mem.length m2, .string s'.out, .string s'.inp, .int .i64 s'.read, .int .i64 s'.status, .int .i64 s'.code] rfl rfl _ _ HD.out HI.out rfl H1.out ?_)
      have HRS' := HRS.out
      refine bodyPost_ret (results_row_tmp rfl _ _ (w.heap.size + 1) _ _ (0, 0) _ rfl (setRow_heap _ _ _ _ _ _ HD.out) Tryz.underlying33 rfl HI.out) rfl ⟨.slice S2 s'.stack.length s2, .slice V2 s'.back.length v2, .slice M2 s'.mem.length m2, ?_, ?_, ?_⟩
      · rw [Hr.out, HRS']; rfl
      · rw [Hr.out, HRS']
        have T : Touch wr (wr.setRow (w.heap.size + 1) #[.int .i64 s'.ip, .int .i64 s'.handler, .slice S2 s'.stack.length s2, .slice V2 s'.back.length v2, .slice M2 s'.mem.length m2, .string s'.out, .string s'.inp, .int .i64 s'.read, .int .i64 s'.status, .int .i64 s'.code]) (fun k => k = w.heap.size + 1) := Wv.touch_setRow _ _ _
        have HS : Held wr (w.heap.size + 2) (stRows (.slice S2 s'.stack.length s2) (.slice V2 s'.back.length v2) (.slice M2 s'.mem.length m2) s') := HM.out.sub (List.sublist_cons_self _ _)
        exact (HS.touch T (fun k hk e => by have := (HS.low hk).1; omega)).mono (by omega)
      · exact HF.out.trans ⟨rfl, rfl, rfl, by simp, fun k hk => setRow_other _ _ _ _ (Nat.ne_of_lt (Nat.lt_succ_of_lt hk))⟩
end Go.Proofs.YtompdfpjmdnhoabGreatDoor.Mc
namespace Go.Proofs.YtompdfpjmdnhoabGreatDoor.Ou
open Go.RowKit Go.Proofs.YtompdfpjmdnhoabGreatDoor.Rs
def wdV (x : Wd) : List Value := [.string x.name, .int .i64 x.xt, .int .i64 x.op, .bool x.imm]
def wdsV (ws : List Wd) : List Value := ws.flatMap wdV
theorem wdsV_append (a b : List Wd) : wdsV (a ++ b) = wdsV a ++ wdsV b := by simp [wdsV]
theorem wdsV_take (ws : List Wd) (n : Nat) : (wdsV ws).take (n * 4) = wdsV (ws.take n) := by
  induction ws generalizing n with
  | nil => simp [wdsV]
  | cons x r ih =>
    cases n with
    | zero => rfl
    | succ n =>
      have := ih n
      simp only [wdsV, List.flatMap_cons, List.take_succ_cons] at *
      rw [show (n + 1) * 4 = 4 + n * 4 by omega, List.take_append, List.take_of_length_le (by simp [wdV])]
      simp [wdV] at *
      exact this
theorem wdsV_get (ws : List Wd) (i : Nat) (h : i < ws.length) (k : Nat) (hk : k < 4) : (wdsV ws)[i * 4 + k]? = (wdV (ws.getD i wd0))[k]? := by
  induction ws generalizing i with
  | nil => simp at h
  | cons x r ih =>
    have e : wdsV (x :: r) = wdV x ++ wdsV r := rfl
    rw [e]
    cases i with
    | zero =>
      rw [List.getElem?_append_left (by simp [wdV]; omega)]
      simp
    | succ i =>
      rw [List.getElem?_append_right (by simp [wdV]; omega)]
      have := ih i (by simpa using h)
      rw [show (i + 1) * 4 + k - (wdV x).length = i * 4 + k by simp [wdV]; omega, this]
      simp
theorem wdsV_one (ws : List Wd) : ∀ u ∈ wdsV ws, u.oneCell' = true := by
  intro u hu
  simp only [wdsV, List.mem_flatMap] at hu
  obtain ⟨x, _, hu⟩ := hu
  simp [wdV] at hu
  rcases hu with rfl | rfl | rfl | rfl <;> rfl
def wRes (wb : Nat) (wv : Value) (ws : List Wd) : List Res := [.st wb 59 #[wv], .row 62 4 wv ws.length (wdsV ws)]
theorem w_blk {w : World} {B wb : Nat} {wv : Value} {ws : List Wd} (H : Held w B (wRes wb wv ws)) : Blk w wb 59 #[wv] := H.blk (List.mem_cons_self ..)
theorem w_row {w : World} {B wb : Nat} {wv : Value} {ws : List Wd} (H : Held w B (wRes wb wv ws)) : Row w B 62 4 wv ws.length (wdsV ws) := H.row (by simp [wRes])
theorem len_any (wb B : Nat) (wv : Value) (ws : List Wd) (w : World) (H : Held w B (wRes wb wv ws)) : Calls Tryz.prog 124 #[.pointer (some ⟨wb, 0, none⟩)] w fun e w' => e = .returned (.int .i64 ws.length) ∧ w = w' := by
  obtain ⟨A, c, rfl⟩ := (w_row H).slice
  have c0 : w.cell? ⟨wb, 0, none⟩ = some (.slice A ws.length c) := (w_blk H).cell 0
  clear H
  go_enter Tryz.func124, Tryz.ntmps124
  go_wp2_with fail
  go_ret
  exact ⟨rfl, rfl⟩
def wdC (x : Wd) : Array Value := #[.string x.name, .int .i64 x.xt, .int .i64 x.op, .bool x.imm]
set_option maxHeartbeats 4000000 in
set_option maxRecDepth 100000 in
theorem find_any (wb B : Nat) (wv : Value) (ws : List Wd) (n : ByteArray) (w : World) (H : Held w B (wRes wb wv ws)) (hn : n.size ≤ 100000) (hws : ws.length ≤ 1000) (hnm : ∀ x ∈ ws, x.name.size ≤ 100000) :
    Calls Tryz.prog 39 #[.pointer (some ⟨wb, 0, none⟩), .string n] w fun e w' => e = .returned (.tuple #[.agg (wdC ((find ws n).getD wd0)), .bool (find ws n).isSome]) ∧ Below w.heap.size w w' := by
  obtain ⟨A, c, rfl⟩ := (w_row H).slice
  have c0 : w.cell? ⟨wb, 0, none⟩ = some (.slice A ws.length c) := (w_blk H).cell 0
  have hF : Hid (find ws n = (findIx ws n ws.length).map fun k => ws.getD k wd0) := rfl
  have a1 : (Below w.heap.size w (w.alloc (.cells #[.string ⟨#[]⟩, .int .i64 0, .int .i64 0, .bool false] 62))) := (Below.refl w.heap.size w).alloc (Nat.le_refl _) _
  have a2 : Blk (w.alloc (.cells #[.string ⟨#[]⟩, .int .i64 0, .int .i64 0, .bool false] 62)) w.heap.size 62 #[.string ⟨#[]⟩, .int .i64 0, .int .i64 0, .bool false] := Blk.new _ _ _
  have A1 := Lib.hid a1
  have A2 := Lib.hid a2
  have HH := Lib.hid (H.touch (alloc_touch w (.cells #[.string ⟨#[]⟩, .int .i64 0, .int .i64 0, .bool false] 62) (fun _ => False)) (fun _ _ => id))
  have e0 : wrap64 ((ws.length : Int) - 1) = (ws.length : Int) - 1 := by clear hF A1 A2 HH; unfold wrap64; omega
  have d0 : (w.alloc (.cells #[.string ⟨#[]⟩, .int .i64 0, .int .i64 0, .bool false] 62)).cell? ⟨wb, 0, none⟩ = some (.slice A ws.length c) := (w_blk HH.out).cell 0
  clear a1 a2 H c0
  go_enter Tryz.func39, Tryz.ntmps39
  go_wp2_with fail
  generalize hw1 : w.alloc (.cells #[.string ⟨#[]⟩, .int .i64 0, .int .i64 0, .bool false] 62) = w1 at *
  clear hw1 d0
  go_loopg [6] ws.length (fun gg v6 wr => ∃ k : Nat, gg = k ∧ v6 = .int .i64 ((k : Int) - 1) ∧ k ≤ ws.length ∧ Hid (findIx ws n ws.length = findIx ws n k) ∧ Hid (Held wr B (wRes wb (.slice A ws.length c) ws)) ∧ Hid (Below w.heap.size w wr) ∧ Hid (Blk wr w.heap.size 62 #[.string ⟨#[]⟩, .int .i64 0, .int .i64 0, .bool false]))
  case atStart => exact ⟨ws.length, rfl, rfl, Nat.le_refl _, rfl, HH, A1, A2⟩
  case round =>
    obtain ⟨k, hgg, rfl, hk, hix, hH, hb, hB⟩ := hrel
    have Hgg := Lib.hid hgg
    clear hgg
    cases k with
    | zero =>
      have hfn : find ws n = none := by rw [hF.out, hix.out]; rfl
      have Hfn := Lib.hid hfn
      clear hfn
      have hz : ((0 : Nat) : Int) - 1 = -1 := rfl
      rw [hz]
      have hi : (Tryz.prog.info? 62).map (·.size) = some (#[.string ⟨#[]⟩, .int .i64 0, .int .i64 0, .bool false] : Array Value).size := by kernel_rfl
      have h1 : (#[.string ⟨#[]⟩, .int .i64 0, .int .i64 0, .bool false] : Array Value).all (·.oneCell') = true := by simp [Value.oneCell']
      have H1 := Lib.hid h1
      have HI := Lib.hid hi
      clear hi h1
      go_wp2_with (refine wpList_store_row rfl _ _ _ rfl w.heap.size #[.string ⟨#[]⟩, .int .i64 0, .int .i64 0, .bool false] rfl rfl _ _ hB.out HI.out rfl H1.out ?_)
      refine bodyPost_ret (Mc.results_row_tmp rfl _ _ w.heap.size _ _ (0, 0) _ rfl (setRow_heap _ _ _ _ _ _ hB.out) Tryz.underlying62 rfl HI.out) rfl ⟨by rw [Hfn.out]; rfl, ?_⟩
      exact hb.out.trans ⟨rfl, rfl, rfl, by simp, fun k hk => setRow_other _ _ _ _ (Nat.ne_of_lt hk)⟩
    | succ i =>
      have hlt : i < ws.length := by omega
      have e1 : (((i + 1 : Nat) : Int) - 1) = (i : Int) := by omega
      rw [e1]
      obtain ⟨g, c', hv, hcap, hbg, hg, hcell, hfz⟩ := (w_row hH.out).form (by omega)
      injection hv with hv1 _ hv3
      subst hv1 hv3
      have d0 : wr.cell? ⟨wb, 0, none⟩ = some (.slice (some ⟨g, 0, none⟩) ws.length (c' + 1)) := (w_blk hH.out).cell 0
      have x0 := (hcell (i * 4 + 0) (by omega)).trans (wdsV_get ws i hlt 0 (by omega))
      have x1 := (hcell (i * 4 + 1) (by omega)).trans (wdsV_get ws i hlt 1 (by omega))
      have x2 := (hcell (i * 4 + 2) (by omega)).trans (wdsV_get ws i hlt 2 (by omega))
      have x3 := (hcell (i * 4 + 3) (by omega)).trans (wdsV_get ws i hlt 3 (by omega))
      have hmem : ws.getD i wd0 ∈ ws := by rw [List.getD_eq_getElem?_getD, List.getElem?_eq_getElem hlt]; exact List.getElem_mem _
      have hnx := hnm _ hmem
      simp only [wdV, List.getElem?_cons_zero, List.getElem?_cons_succ, Nat.add_zero] at x0 x1 x2 x3
      have hi : (i : Int) < (ws.length : Int) := by omega
      have hi0 : (0 : Int) ≤ (i : Int) := by omega
      have HS := Lib.hid (same_any (ws.getD i wd0).name n wr hnx hn)
      have HX : Hid (findIx ws n (i + 1) = if same (ws.getD i wd0).name n = true then some i else findIx ws n i) := rfl
      have hbl : Hid (Below w.heap.size w wr) := hb
      have HXi : Hid (ws.getD i wd0 = ws.getD i wd0) := rfl
      generalize hx : ws.getD i wd0 = x at *
      have Hx := Lib.hid hx
      clear hx hmem hnx hcell hfz
      cases hs : same x.name n with
      | false =>
        rw [hs] at HS HX
        have e2 : wrap64 ((i : Int) - 1) = (i : Int) - 1 := by clear HS HX hix hH hb hB; unfold wrap64; omega
        go_wp2_with fail
        refine HS.out.mono ?_
        rintro e w2 ⟨rfl, q, rfl⟩
        go_wp2
        go_roundg i
        case rel => exact ⟨i, rfl, rfl, by omega, hix.out.trans HX.out, hH.out.drewN q, below_of_draw hb.out q, hB⟩
        case measure => have := Hgg.out; omega
      | true =>
        rw [hs] at HS HX
        have hfs : find ws n = some x := by rw [hF.out, hix.out, HX.out, ← Hx.out]; rfl
        have Hfs := Lib.hid hfs
        have hi2 : (Tryz.prog.info? 62).map (·.size) = some (#[.string x.name, .int .i64 x.xt, .int .i64 x.op, .bool x.imm] : Array Value).size := by kernel_rfl
        have h1 : (#[.string x.name, .int .i64 x.xt, .int .i64 x.op, .bool x.imm] : Array Value).all (·.oneCell') = true := by simp [Value.oneCell']
        have H1 := Lib.hid h1
        have HI := Lib.hid hi2
        clear hi2 hfs h1
        go_wp2_with fail
        refine HS.out.mono ?_
        rintro e w2 ⟨rfl, q, rfl⟩
        have y0 : (wr.drewN q).cell? ⟨g, i * 4, none⟩ = some (.string x.name) := x0
        go_wp2_with (refine wpList_store_row rfl _ _ _ rfl w.heap.size #[.string x.name, .int .i64 x.xt, .int .i64 x.op, .bool x.imm] rfl rfl _ _ hB.out HI.out rfl H1.out ?_)
        refine bodyPost_ret (Mc.results_row_tmp rfl _ _ w.heap.size _ _ (0, 0) _ rfl (setRow_heap _ _ _ _ _ _ hB.out) Tryz.underlying62 rfl HI.out) rfl ⟨by rw [Hfs.out]; rfl, ?_⟩
        exact (below_of_draw hb.out q).trans ⟨rfl, rfl, rfl, by simp, fun k hk => setRow_other _ _ _ _ (Nat.ne_of_lt hk)⟩
end Go.Proofs.YtompdfpjmdnhoabGreatDoor.Ou
