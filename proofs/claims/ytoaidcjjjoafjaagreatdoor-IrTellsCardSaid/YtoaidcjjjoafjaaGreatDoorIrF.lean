/-
  Chapter 14 (ir): whether an exit may be named, both. (Printed by genirf.py.)
-/
import Derived.Test.YtoaidcjjjoafjaaGreatDoorIrE
import Derived.Test.YtoaidcjjjoafjaaGreatDoorPh
set_option linter.unusedVariables false
set_option linter.unusedSimpArgs false
set_option linter.unnecessarySimpa false
set_option linter.deprecated false
namespace Go.Proofs.YtoaidcjjjoafjaaGreatDoor.Ir
open Go.RowKit

theorem bel_draw {B : Nat} {a w : World} (h : Below B a w) (n : Nat) : Below B a (w.drewN n) := below_of_draw h n
theorem below_frame_drew {B : Nat} {a w : World} (h : Below B a.drew w) : Below B a w := ⟨h.os, h.tape, h.output, h.size, h.block⟩

set_option maxHeartbeats 4000000 in
set_option maxRecDepth 100000 in
theorem named_any (T : Tr) (Ai Ao Ac : Option Addr) (ci co cc : Nat) (y at_ : Int) (B : Nat) (b : Bool) (w : World) (hT : InsAt w B Ai T.ni T.ins) (hO : OutsAt w B Ao T.no T.outs) (hB : B ≤ w.heap.size) (hat : at_ ≤ T.ni) (hb : b = true ↔ Named T y at_) :
    Calls Tryz.prog 30 #[.agg (trCells T Ai ci Ao co Ac cc), .int .i64 y, .int .i64 at_] w fun e w' => e = .returned (.bool b) ∧ Below w.heap.size w w' := by
  have HB := Lib.hid ((Below.refl w.heap.size w).alloc (Nat.le_refl _) (.cells (trCells T Ai ci Ao co Ac cc) 26))
  have Hb := Lib.hid hb
  by_cases h0 : y < 0
  · obtain rfl : b = false := bfalse hb (fun h => by have := h.1; omega)
    have h0' : ¬ (0 : Int) ≤ y := by omega
    have hd0 : decide ((0 : Int) ≤ y) = false := by simpa using h0
    clear hT hO hb Hb h0 h0'
    unfold trCells at *
    go_enter Tryz.func30, Tryz.ntmps30
    go_wp2_with fail
    go_quiet (fail)
    go_wp2_with fail
    go_ret
    exact ⟨rfl, bel_draw HB.out _⟩
  have h0' : (0 : Int) ≤ y := by omega
  by_cases h1 : (T.no : Int) ≤ y
  · obtain rfl : b = false := bfalse hb (fun h => by have := h.2.1; omega)
    have h1' : ¬ y < (T.no : Int) := by omega
    have hd0 : decide ((0 : Int) ≤ y) = true := by simpa using h0'
    have hd1 : decide (y < (T.no : Int)) = false := by simpa using h1'
    clear hT hO hb Hb h0 h0' h1 h1'
    unfold trCells at *
    go_enter Tryz.func30, Tryz.ntmps30
    go_wp2_with fail
    go_quiet (fail)
    go_wp2_with fail
    go_ret
    exact ⟨rfl, bel_draw HB.out _⟩
  obtain ⟨x, rfl⟩ : ∃ x : Nat, y = x := ⟨y.toNat, by omega⟩
  have hx : x < T.no := by omega
  have hxi : (x : Int) < (T.no : Int) := by omega
  clear h0 h1 h0'
  have h0' : (0 : Int) ≤ (x : Int) := by omega
  obtain ⟨bo, offo, rfl, hbo, hoc⟩ := hO.resolve_left (by omega)
  obtain ⟨_, _, _, _, ⟨rfl, rfl, ⟨As, cs, rfl, hs⟩, ⟨Ab, cb, rfl, hk⟩, ls, lb⟩, o0, o1, o2, o3⟩ := hoc x hx
  obtain ⟨bs, hbs⟩ : ∃ bs : Bool, bs = true ↔ Places T (T.outs x).ns (T.outs x).st at_ := by
    by_cases h : Places T (T.outs x).ns (T.outs x).st at_
    · exact ⟨true, by simp [h]⟩
    · exact ⟨false, by simp [h]⟩
  obtain ⟨bb, hbb⟩ : ∃ bb : Bool, bb = true ↔ Places T (T.outs x).nb (T.outs x).bk at_ := by
    by_cases h : Places T (T.outs x).nb (T.outs x).bk at_
    · exact ⟨true, by simp [h]⟩
    · exact ⟨false, by simp [h]⟩
  have hbv : b = (bs && bb) := by
    have : (bs && bb) = true ↔ Named T x at_ := by
      rw [Bool.and_eq_true, hbs, hbb]
      unfold Named
      rw [show ((x : Int)).toNat = x by omega]
      exact ⟨fun h => ⟨by omega, hxi, h.1, h.2⟩, fun h => h.2.2⟩
    cases b <;> cases hc : (bs && bb) <;> simp_all
  have hk0 : ∀ W, Below w.heap.size (w.alloc (.cells (trCells T Ai ci (some ⟨bo, offo, none⟩) co Ac cc) 26)) W → W.heap.size ≥ w.heap.size + 1 → (∀ i, W.cell? ⟨w.heap.size, i, none⟩ = (w.alloc (.cells (trCells T Ai ci (some ⟨bo, offo, none⟩) co Ac cc) 26)).cell? ⟨w.heap.size, i, none⟩) →
      W.cell? ⟨w.heap.size, 0, none⟩ = some (.int .i64 T.start) ∧ W.cell? ⟨w.heap.size, 1, none⟩ = some (.int .i64 T.slots) ∧ W.cell? ⟨w.heap.size, 2, none⟩ = some (.int .i64 T.backs) ∧ W.cell? ⟨w.heap.size, 3, none⟩ = some (.int .i64 T.grow) ∧ W.cell? ⟨w.heap.size, 4, none⟩ = some (.int .i64 T.growBack) ∧ W.cell? ⟨w.heap.size, 5, none⟩ = some (.slice Ai T.ni ci) ∧ W.cell? ⟨w.heap.size, 6, none⟩ = some (.slice (some ⟨bo, offo, none⟩) T.no co) ∧ W.cell? ⟨w.heap.size, 7, none⟩ = some (.int .i64 T.last) ∧ W.cell? ⟨w.heap.size, 8, none⟩ = some (.slice Ac T.nc cc) ∧ W.cell? ⟨bo, offo + x * 4 + 2, none⟩ = some (.slice As (T.outs x).ns cs) ∧ W.cell? ⟨bo, offo + x * 4 + 3, none⟩ = some (.slice Ab (T.outs x).nb cb) := fun W hW hs hc => by
    have kb : Blk (w.alloc (.cells (trCells T Ai ci (some ⟨bo, offo, none⟩) co Ac cc) 26)) w.heap.size 26 (trCells T Ai ci (some ⟨bo, offo, none⟩) co Ac cc) := Blk.new _ _ _
    have hbw : Below w.heap.size w W := HB.out.trans hW
    refine ⟨(hc 0).trans (kb.cell 0), (hc 1).trans (kb.cell 1), (hc 2).trans (kb.cell 2), (hc 3).trans (kb.cell 3), (hc 4).trans (kb.cell 4), (hc 5).trans (kb.cell 5), (hc 6).trans (kb.cell 6), (hc 7).trans (kb.cell 7), (hc 8).trans (kb.cell 8), ?_, ?_⟩
    · exact (hbw.cell (p := ⟨bo, _, none⟩) (show bo < w.heap.size by omega)).trans o2
    · exact (hbw.cell (p := ⟨bo, _, none⟩) (show bo < w.heap.size by omega)).trans o3
  have hcS : ∀ W, Below w.heap.size w W → Calls Tryz.prog 33 #[.agg (trCells T Ai ci (some ⟨bo, offo, none⟩) co Ac cc), .slice As (T.outs x).ns cs, .int .i64 at_] W fun e w' => e = .returned (.bool bs) ∧ Below W.heap.size W w' := fun W hW =>
    places_any T Ai _ Ac As ci co cc cs (T.outs x).ns (T.outs x).st at_ B bs W (hT.below (hW.mono hB)) (Nat.le_trans hB hW.size) (hs.below (hW.mono hB)) ls hat hbs
  have hcB : ∀ W, Below w.heap.size w W → Calls Tryz.prog 33 #[.agg (trCells T Ai ci (some ⟨bo, offo, none⟩) co Ac cc), .slice Ab (T.outs x).nb cb, .int .i64 at_] W fun e w' => e = .returned (.bool bb) ∧ Below W.heap.size W w' := fun W hW =>
    places_any T Ai _ Ac Ab ci co cc cb (T.outs x).nb (T.outs x).bk at_ B bb W (hT.below (hW.mono hB)) (Nat.le_trans hB hW.size) (hk.below (hW.mono hB)) lb hat hbb
  have HcS := Lib.hid hcS
  have HcB := Lib.hid hcB
  have HK := Lib.hid hk0
  have Hbv := Lib.hid hbv
  have hsz : (w.alloc (.cells (trCells T Ai ci (some ⟨bo, offo, none⟩) co Ac cc) 26)).heap.size = w.heap.size + 1 := by simp
  clear hT hO hb Hb hs hk hbs hbb hbv hcS hcB hk0 o0 o1 o2 o3 hoc
  unfold trCells at *
  go_enter Tryz.func30, Tryz.ntmps30
  go_wp2_with fail
  generalize w.alloc (.cells #[.int .i64 T.start, .int .i64 T.slots, .int .i64 T.backs, .int .i64 T.grow, .int .i64 T.growBack, .slice Ai T.ni ci, .slice (some ⟨bo, offo, none⟩) T.no co, .int .i64 T.last, .slice Ac T.nc cc] 26) = wb at *
  obtain ⟨k0, k1, k2, k3, k4, k5, k6, k7, k8, k9, k10⟩ := HK.out wb (Below.refl _ _) (by omega) (fun _ => rfl)
  have Hsz := Lib.hid hsz
  have HC1 : Hid (Calls Tryz.prog 33 #[.agg #[.int .i64 T.start, .int .i64 T.slots, .int .i64 T.backs, .int .i64 T.grow, .int .i64 T.growBack, .slice Ai T.ni ci, .slice (some ⟨bo, offo, none⟩) T.no co, .int .i64 T.last, .slice Ac T.nc cc], .slice As (T.outs x).ns cs, .int .i64 at_] wb.drew fun e w2 => e = .returned (.bool bs) ∧
      (w2.cell? ⟨w.heap.size, 0, none⟩ = some (.int .i64 T.start) ∧ w2.cell? ⟨w.heap.size, 1, none⟩ = some (.int .i64 T.slots) ∧ w2.cell? ⟨w.heap.size, 2, none⟩ = some (.int .i64 T.backs) ∧ w2.cell? ⟨w.heap.size, 3, none⟩ = some (.int .i64 T.grow) ∧ w2.cell? ⟨w.heap.size, 4, none⟩ = some (.int .i64 T.growBack) ∧ w2.cell? ⟨w.heap.size, 5, none⟩ = some (.slice Ai T.ni ci) ∧ w2.cell? ⟨w.heap.size, 6, none⟩ = some (.slice (some ⟨bo, offo, none⟩) T.no co) ∧ w2.cell? ⟨w.heap.size, 7, none⟩ = some (.int .i64 T.last) ∧ w2.cell? ⟨w.heap.size, 8, none⟩ = some (.slice Ac T.nc cc) ∧ w2.cell? ⟨bo, offo + x * 4 + 2, none⟩ = some (.slice As (T.outs x).ns cs) ∧ w2.cell? ⟨bo, offo + x * 4 + 3, none⟩ = some (.slice Ab (T.outs x).nb cb)) ∧ Below w.heap.size w w2 ∧
      Calls Tryz.prog 33 #[.agg #[.int .i64 T.start, .int .i64 T.slots, .int .i64 T.backs, .int .i64 T.grow, .int .i64 T.growBack, .slice Ai T.ni ci, .slice (some ⟨bo, offo, none⟩) T.no co, .int .i64 T.last, .slice Ac T.nc cc], .slice Ab (T.outs x).nb cb, .int .i64 at_] w2 fun e w3 => e = .returned (.bool bb) ∧
        (w3.cell? ⟨w.heap.size, 0, none⟩ = some (.int .i64 T.start) ∧ w3.cell? ⟨w.heap.size, 1, none⟩ = some (.int .i64 T.slots) ∧ w3.cell? ⟨w.heap.size, 2, none⟩ = some (.int .i64 T.backs) ∧ w3.cell? ⟨w.heap.size, 3, none⟩ = some (.int .i64 T.grow) ∧ w3.cell? ⟨w.heap.size, 4, none⟩ = some (.int .i64 T.growBack) ∧ w3.cell? ⟨w.heap.size, 5, none⟩ = some (.slice Ai T.ni ci) ∧ w3.cell? ⟨w.heap.size, 6, none⟩ = some (.slice (some ⟨bo, offo, none⟩) T.no co) ∧ w3.cell? ⟨w.heap.size, 7, none⟩ = some (.int .i64 T.last) ∧ w3.cell? ⟨w.heap.size, 8, none⟩ = some (.slice Ac T.nc cc) ∧ w3.cell? ⟨bo, offo + x * 4 + 2, none⟩ = some (.slice As (T.outs x).ns cs) ∧ w3.cell? ⟨bo, offo + x * 4 + 3, none⟩ = some (.slice Ab (T.outs x).nb cb)) ∧ Below w.heap.size w w3) := by
    have d0 := bel_draw HB.out 1
    refine (HcS.out _ d0).mono fun e w2 h2 => ?_
    have c2 : ∀ i, w2.cell? ⟨w.heap.size, i, none⟩ = wb.cell? ⟨w.heap.size, i, none⟩ := fun i => h2.2.cell (p := ⟨w.heap.size, i, none⟩) (by show w.heap.size < wb.heap.size; have := Hsz.out; omega)
    have b2 : Below w.heap.size w w2 := d0.trans (h2.2.mono d0.size)
    have e2 : Below w.heap.size wb w2 := below_frame_drew (h2.2.mono d0.size)
    have z2 : w2.heap.size ≥ w.heap.size + 1 := Nat.le_trans (Nat.le_of_eq Hsz.out.symm) h2.2.size
    refine ⟨h2.1, HK.out w2 e2 z2 c2, b2, (HcB.out w2 b2).mono fun e3 w3 h3 => ?_⟩
    have c3 : ∀ i, w3.cell? ⟨w.heap.size, i, none⟩ = wb.cell? ⟨w.heap.size, i, none⟩ := fun i => (h3.2.cell (p := ⟨w.heap.size, i, none⟩) (show w.heap.size < w2.heap.size from z2)).trans (c2 i)
    exact ⟨h3.1, HK.out w3 (e2.trans (h3.2.mono b2.size)) (Nat.le_trans z2 h3.2.size) c3, b2.trans (h3.2.mono b2.size)⟩
  clear HcS HcB HK
  cases bs with
  | false =>
    have HS0 : (fun W : World => W.cell? ⟨w.heap.size, 0, none⟩ = some (.int .i64 T.start) ∧ W.cell? ⟨w.heap.size, 1, none⟩ = some (.int .i64 T.slots) ∧ W.cell? ⟨w.heap.size, 2, none⟩ = some (.int .i64 T.backs) ∧ W.cell? ⟨w.heap.size, 3, none⟩ = some (.int .i64 T.grow) ∧ W.cell? ⟨w.heap.size, 4, none⟩ = some (.int .i64 T.growBack) ∧ W.cell? ⟨w.heap.size, 5, none⟩ = some (.slice Ai T.ni ci) ∧ W.cell? ⟨w.heap.size, 6, none⟩ = some (.slice (some ⟨bo, offo, none⟩) T.no co) ∧ W.cell? ⟨w.heap.size, 7, none⟩ = some (.int .i64 T.last) ∧ W.cell? ⟨w.heap.size, 8, none⟩ = some (.slice Ac T.nc cc) ∧ W.cell? ⟨bo, offo + x * 4 + 2, none⟩ = some (.slice As (T.outs x).ns cs) ∧ W.cell? ⟨bo, offo + x * 4 + 3, none⟩ = some (.slice Ab (T.outs x).nb cb)) wb.drew := ⟨k0, k1, k2, k3, k4, k5, k6, k7, k8, k9, k10⟩
    refine Ph.wp_region_U 32 (fun W : World => W.cell? ⟨w.heap.size, 0, none⟩ = some (.int .i64 T.start) ∧ W.cell? ⟨w.heap.size, 1, none⟩ = some (.int .i64 T.slots) ∧ W.cell? ⟨w.heap.size, 2, none⟩ = some (.int .i64 T.backs) ∧ W.cell? ⟨w.heap.size, 3, none⟩ = some (.int .i64 T.grow) ∧ W.cell? ⟨w.heap.size, 4, none⟩ = some (.int .i64 T.growBack) ∧ W.cell? ⟨w.heap.size, 5, none⟩ = some (.slice Ai T.ni ci) ∧ W.cell? ⟨w.heap.size, 6, none⟩ = some (.slice (some ⟨bo, offo, none⟩) T.no co) ∧ W.cell? ⟨w.heap.size, 7, none⟩ = some (.int .i64 T.last) ∧ W.cell? ⟨w.heap.size, 8, none⟩ = some (.slice Ac T.nc cc) ∧ W.cell? ⟨bo, offo + x * 4 + 2, none⟩ = some (.slice As (T.outs x).ns cs) ∧ W.cell? ⟨bo, offo + x * 4 + 3, none⟩ = some (.slice Ab (T.outs x).nb cb)) (by kernel_rfl) ?_
    change Ph.wpU _ _ _ _ _ _ 32 #[false, false, false, false, false, false, false, false, false, false, false, false, false, false, false, false, false, false, false, false, false, false, false, false, false, false, false, false, false, false, false, false] _ _
    refine Ph.U_take (i := 0) (oi := { dst := some 7, op := .move (.tmp 1), type := 3, pos := "ir.go:99", after := #[], guard := none }) (v := .int .i64 (x : Int)) rfl (by kernel_rfl) (by kernel_rfl) (by kernel_rfl) (by kernel_rfl) (fun _ _ _ h => h) (Or.inl ⟨by rfl, ?_⟩) (by assumption) ?_
    · intro W hSw; (try dsimp only at hSw); go_simp
    simp only [Act.put, List.setIfInBounds_toArray, List.set_cons_zero, List.set_cons_succ]
    refine Ph.U_take (i := 1) (oi := { dst := some 8, op := .binOp BinOp.geq 3 (.tmp 7) (.const (Value.int IntKind.i64 0)) 3, type := 4, pos := "ir.go:99", after := #[{ on := 0, ground := .data }], guard := none }) (v := .bool true) rfl (by kernel_rfl) (by kernel_rfl) (by kernel_rfl) (by kernel_rfl) (fun _ _ _ h => h) (Or.inl ⟨by rfl, ?_⟩) (by assumption) ?_
    · intro W hSw; (try dsimp only at hSw); go_simp
    simp only [Act.put, List.setIfInBounds_toArray, List.set_cons_zero, List.set_cons_succ]
    refine Ph.U_take (i := 2) (oi := { dst := some 9, op := .move (.tmp 8), type := 4, pos := "ir.go:99", after := #[{ on := 1, ground := .data }], guard := none }) (v := .bool true) rfl (by kernel_rfl) (by kernel_rfl) (by kernel_rfl) (by kernel_rfl) (fun _ _ _ h => h) (Or.inl ⟨by rfl, ?_⟩) (by assumption) ?_
    · intro W hSw; (try dsimp only at hSw); go_simp
    simp only [Act.put, List.setIfInBounds_toArray, List.set_cons_zero, List.set_cons_succ]
    refine Ph.U_take (i := 3) (oi := { dst := some 10, op := .move (.tmp 1), type := 3, pos := "ir.go:99", after := #[{ on := 2, ground := .guard }], guard := some (2, true) }) (v := .int .i64 (x : Int)) rfl (by kernel_rfl) (by kernel_rfl) (by kernel_rfl) (by kernel_rfl) (fun _ _ _ h => h) (Or.inl ⟨by rfl, ?_⟩) (by assumption) ?_
    · intro W hSw; (try dsimp only at hSw); go_simp
    simp only [Act.put, List.setIfInBounds_toArray, List.set_cons_zero, List.set_cons_succ]
    refine Ph.U_take (i := 4) (oi := { dst := some 11, op := .fieldAddr 26 (.tmp 3) 6, type := 0, pos := "ir.go:99", after := #[{ on := 2, ground := .guard }], guard := some (2, true) }) (v := .pointer (some ⟨w.heap.size, 6, none⟩)) rfl (by kernel_rfl) (by kernel_rfl) (by kernel_rfl) (by kernel_rfl) (fun _ _ _ h => h) (Or.inl ⟨by rfl, ?_⟩) (by assumption) ?_
    · intro W hSw; (try dsimp only at hSw); go_simp
    simp only [Act.put, List.setIfInBounds_toArray, List.set_cons_zero, List.set_cons_succ]
    refine Ph.U_take (i := 5) (oi := { dst := some 12, op := .load 23 (.tmp 11), type := 23, pos := "ir.go:99", after := #[{ on := 4, ground := .data }, { on := 2, ground := .guard }], guard := some (2, true) }) (v := .slice (some ⟨bo, offo, none⟩) T.no co) rfl (by kernel_rfl) (by kernel_rfl) (by kernel_rfl) (by kernel_rfl) (fun _ _ _ h => h) (Or.inl ⟨by rfl, ?_⟩) (by assumption) ?_
    · intro W hSw; (try dsimp only at hSw); go_simp
    simp only [Act.put, List.setIfInBounds_toArray, List.set_cons_zero, List.set_cons_succ]
    refine Ph.U_take (i := 6) (oi := { dst := some 13, op := .call { callee := .builtin Builtin.len, args := #[.tmp 12], argTypes := #[23] }, type := 3, pos := "ir.go:99", after := #[{ on := 5, ground := .data }, { on := 2, ground := .guard }], guard := some (2, true) }) (v := .int .i64 (T.no : Int)) rfl (by kernel_rfl) (by kernel_rfl) (by kernel_rfl) (by kernel_rfl) (fun _ _ _ h => h) (Or.inl ⟨by rfl, ?_⟩) (by assumption) ?_
    · intro W hSw; (try dsimp only at hSw); go_simp
    simp only [Act.put, List.setIfInBounds_toArray, List.set_cons_zero, List.set_cons_succ]
    refine Ph.U_take (i := 7) (oi := { dst := some 14, op := .binOp BinOp.lss 3 (.tmp 10) (.tmp 13) 3, type := 4, pos := "ir.go:99", after := #[{ on := 3, ground := .data }, { on := 6, ground := .data }, { on := 2, ground := .guard }], guard := some (2, true) }) (v := .bool true) rfl (by kernel_rfl) (by kernel_rfl) (by kernel_rfl) (by kernel_rfl) (fun _ _ _ h => h) (Or.inl ⟨by rfl, ?_⟩) (by assumption) ?_
    · intro W hSw; (try dsimp only at hSw); go_simp
    simp only [Act.put, List.setIfInBounds_toArray, List.set_cons_zero, List.set_cons_succ]
    refine Ph.U_take (i := 8) (oi := { dst := some 15, op := .pick (.tmp 9) (.tmp 14) (.const (Value.bool false)), type := 4, pos := "ir.go:99", after := #[{ on := 2, ground := .data }, { on := 7, ground := .data }], guard := none }) (v := .bool true) rfl (by kernel_rfl) (by kernel_rfl) (by kernel_rfl) (by kernel_rfl) (fun _ _ _ h => h) (Or.inl ⟨by rfl, ?_⟩) (by assumption) ?_
    · intro W hSw; (try dsimp only at hSw); go_simp
    simp only [Act.put, List.setIfInBounds_toArray, List.set_cons_zero, List.set_cons_succ]
    refine Ph.U_take (i := 9) (oi := { dst := some 16, op := .move (.tmp 15), type := 4, pos := "ir.go:99", after := #[{ on := 8, ground := .data }, { on := 2, ground := .chain }], guard := none }) (v := .bool true) rfl (by kernel_rfl) (by kernel_rfl) (by kernel_rfl) (by kernel_rfl) (fun _ _ _ h => h) (Or.inl ⟨by rfl, ?_⟩) (by assumption) ?_
    · intro W hSw; (try dsimp only at hSw); go_simp
    simp only [Act.put, List.setIfInBounds_toArray, List.set_cons_zero, List.set_cons_succ]
    refine Ph.U_take (i := 10) (oi := { dst := some 17, op := .load 26 (.tmp 3), type := 26, pos := "ir.go:99", after := #[{ on := 9, ground := .guard }], guard := some (9, true) }) (v := .agg #[.int .i64 T.start, .int .i64 T.slots, .int .i64 T.backs, .int .i64 T.grow, .int .i64 T.growBack, .slice Ai T.ni ci, .slice (some ⟨bo, offo, none⟩) T.no co, .int .i64 T.last, .slice Ac T.nc cc]) rfl (by kernel_rfl) (by kernel_rfl) (by kernel_rfl) (by kernel_rfl) (fun _ _ _ h => h) (Or.inl ⟨by rfl, ?_⟩) (by assumption) ?_
    · intro W hSw; (try dsimp only at hSw); go_simp
    simp only [Act.put, List.setIfInBounds_toArray, List.set_cons_zero, List.set_cons_succ]
    refine Ph.U_take (i := 11) (oi := { dst := some 18, op := .fieldAddr 26 (.tmp 3) 6, type := 0, pos := "ir.go:99", after := #[{ on := 9, ground := .guard }], guard := some (9, true) }) (v := .pointer (some ⟨w.heap.size, 6, none⟩)) rfl (by kernel_rfl) (by kernel_rfl) (by kernel_rfl) (by kernel_rfl) (fun _ _ _ h => h) (Or.inl ⟨by rfl, ?_⟩) (by assumption) ?_
    · intro W hSw; (try dsimp only at hSw); go_simp
    simp only [Act.put, List.setIfInBounds_toArray, List.set_cons_zero, List.set_cons_succ]
    refine Ph.U_take (i := 12) (oi := { dst := some 19, op := .load 23 (.tmp 18), type := 23, pos := "ir.go:99", after := #[{ on := 11, ground := .data }, { on := 9, ground := .guard }], guard := some (9, true) }) (v := .slice (some ⟨bo, offo, none⟩) T.no co) rfl (by kernel_rfl) (by kernel_rfl) (by kernel_rfl) (by kernel_rfl) (fun _ _ _ h => h) (Or.inl ⟨by rfl, ?_⟩) (by assumption) ?_
    · intro W hSw; (try dsimp only at hSw); go_simp
    simp only [Act.put, List.setIfInBounds_toArray, List.set_cons_zero, List.set_cons_succ]
    refine Ph.U_take (i := 13) (oi := { dst := some 20, op := .move (.tmp 1), type := 3, pos := "ir.go:99", after := #[{ on := 9, ground := .guard }], guard := some (9, true) }) (v := .int .i64 (x : Int)) rfl (by kernel_rfl) (by kernel_rfl) (by kernel_rfl) (by kernel_rfl) (fun _ _ _ h => h) (Or.inl ⟨by rfl, ?_⟩) (by assumption) ?_
    · intro W hSw; (try dsimp only at hSw); go_simp
    simp only [Act.put, List.setIfInBounds_toArray, List.set_cons_zero, List.set_cons_succ]
    refine Ph.U_take (i := 14) (oi := { dst := some 21, op := .indexAddr 23 (.tmp 19) (.tmp 20), type := 0, pos := "ir.go:99", after := #[{ on := 12, ground := .data }, { on := 13, ground := .data }, { on := 9, ground := .guard }], guard := some (9, true) }) (v := .pointer (some ⟨bo, offo + x * 4, none⟩)) rfl (by kernel_rfl) (by kernel_rfl) (by kernel_rfl) (by kernel_rfl) (fun _ _ _ h => h) (Or.inl ⟨by rfl, ?_⟩) (by assumption) ?_
    · intro W hSw; (try dsimp only at hSw); go_simp
    simp only [Act.put, List.setIfInBounds_toArray, List.set_cons_zero, List.set_cons_succ]
    refine Ph.U_take (i := 15) (oi := { dst := some 22, op := .fieldAddr 50 (.tmp 21) 2, type := 0, pos := "ir.go:99", after := #[{ on := 14, ground := .data }, { on := 9, ground := .guard }], guard := some (9, true) }) (v := .pointer (some ⟨bo, offo + x * 4 + 2, none⟩)) rfl (by kernel_rfl) (by kernel_rfl) (by kernel_rfl) (by kernel_rfl) (fun _ _ _ h => h) (Or.inl ⟨by rfl, ?_⟩) (by assumption) ?_
    · intro W hSw; (try dsimp only at hSw); go_simp
    simp only [Act.put, List.setIfInBounds_toArray, List.set_cons_zero, List.set_cons_succ]
    refine Ph.U_take (i := 16) (oi := { dst := some 23, op := .load 24 (.tmp 22), type := 24, pos := "ir.go:99", after := #[{ on := 15, ground := .data }, { on := 9, ground := .guard }], guard := some (9, true) }) (v := .slice As (T.outs x).ns cs) rfl (by kernel_rfl) (by kernel_rfl) (by kernel_rfl) (by kernel_rfl) (fun _ _ _ h => h) (Or.inl ⟨by rfl, ?_⟩) (by assumption) ?_
    · intro W hSw; (try dsimp only at hSw); go_simp
    simp only [Act.put, List.setIfInBounds_toArray, List.set_cons_zero, List.set_cons_succ]
    refine Ph.U_take (i := 17) (oi := { dst := some 24, op := .move (.tmp 2), type := 3, pos := "ir.go:99", after := #[{ on := 9, ground := .guard }], guard := some (9, true) }) (v := .int .i64 at_) rfl (by kernel_rfl) (by kernel_rfl) (by kernel_rfl) (by kernel_rfl) (fun _ _ _ h => h) (Or.inl ⟨by rfl, ?_⟩) (by assumption) ?_
    · intro W hSw; (try dsimp only at hSw); go_simp
    simp only [Act.put, List.setIfInBounds_toArray, List.set_cons_zero, List.set_cons_succ]
    refine Ph.U_ready (rs := [18]) (by kernel_rfl) (by simp) ?_
    refine Ph.AllReadyU.cons rfl (fun K hK => ?_) Ph.AllReadyU.nil
    go_simp
    refine HC1.out.mono ?_
    rintro e w2 ⟨rfl, hk2, hb2, hc2⟩
    have HB2 := Lib.hid hb2
    clear hb2 hc2 HS0
    refine hK.out _ _ (fun _ => hk2) ?_
    clear hK K
    simp only [Act.put, List.setIfInBounds_toArray, List.set_cons_zero, List.set_cons_succ]
    refine Ph.U_take (i := 19) (oi := { dst := some 26, op := .pick (.tmp 16) (.tmp 25) (.const (Value.bool false)), type := 4, pos := "ir.go:99", after := #[{ on := 9, ground := .data }, { on := 18, ground := .data }], guard := none }) (v := .bool false) rfl (by kernel_rfl) (by kernel_rfl) (by kernel_rfl) (by kernel_rfl) (fun _ _ _ h => h) (Or.inl ⟨by rfl, ?_⟩) (by assumption) ?_
    · intro W hSw; (try dsimp only at hSw); go_simp
    simp only [Act.put, List.setIfInBounds_toArray, List.set_cons_zero, List.set_cons_succ]
    refine Ph.U_take (i := 20) (oi := { dst := some 27, op := .move (.tmp 26), type := 4, pos := "ir.go:99", after := #[{ on := 19, ground := .data }, { on := 18, ground := .chain }], guard := none }) (v := .bool false) rfl (by kernel_rfl) (by kernel_rfl) (by kernel_rfl) (by kernel_rfl) (fun _ _ _ h => h) (Or.inl ⟨by rfl, ?_⟩) (by assumption) ?_
    · intro W hSw; (try dsimp only at hSw); go_simp
    simp only [Act.put, List.setIfInBounds_toArray, List.set_cons_zero, List.set_cons_succ]
    refine Ph.U_take (i := 21) (oi := { dst := some 28, op := .load 26 (.tmp 3), type := 26, pos := "ir.go:99", after := #[{ on := 20, ground := .guard }], guard := some (20, true) }) (v := undef) rfl (by kernel_rfl) (by kernel_rfl) (by kernel_rfl) (by kernel_rfl) (fun _ _ _ h => h) (Or.inr ⟨by rfl, rfl⟩) (by assumption) ?_
    simp only [Act.put, List.setIfInBounds_toArray, List.set_cons_zero, List.set_cons_succ]
    refine Ph.U_take (i := 22) (oi := { dst := some 29, op := .fieldAddr 26 (.tmp 3) 6, type := 0, pos := "ir.go:99", after := #[{ on := 20, ground := .guard }], guard := some (20, true) }) (v := undef) rfl (by kernel_rfl) (by kernel_rfl) (by kernel_rfl) (by kernel_rfl) (fun _ _ _ h => h) (Or.inr ⟨by rfl, rfl⟩) (by assumption) ?_
    simp only [Act.put, List.setIfInBounds_toArray, List.set_cons_zero, List.set_cons_succ]
    refine Ph.U_take (i := 23) (oi := { dst := some 30, op := .load 23 (.tmp 29), type := 23, pos := "ir.go:99", after := #[{ on := 22, ground := .data }, { on := 20, ground := .guard }], guard := some (20, true) }) (v := undef) rfl (by kernel_rfl) (by kernel_rfl) (by kernel_rfl) (by kernel_rfl) (fun _ _ _ h => h) (Or.inr ⟨by rfl, rfl⟩) (by assumption) ?_
    simp only [Act.put, List.setIfInBounds_toArray, List.set_cons_zero, List.set_cons_succ]
    refine Ph.U_take (i := 24) (oi := { dst := some 31, op := .move (.tmp 1), type := 3, pos := "ir.go:99", after := #[{ on := 20, ground := .guard }], guard := some (20, true) }) (v := undef) rfl (by kernel_rfl) (by kernel_rfl) (by kernel_rfl) (by kernel_rfl) (fun _ _ _ h => h) (Or.inr ⟨by rfl, rfl⟩) (by assumption) ?_
    simp only [Act.put, List.setIfInBounds_toArray, List.set_cons_zero, List.set_cons_succ]
    refine Ph.U_take (i := 25) (oi := { dst := some 32, op := .indexAddr 23 (.tmp 30) (.tmp 31), type := 0, pos := "ir.go:99", after := #[{ on := 23, ground := .data }, { on := 24, ground := .data }, { on := 20, ground := .guard }], guard := some (20, true) }) (v := undef) rfl (by kernel_rfl) (by kernel_rfl) (by kernel_rfl) (by kernel_rfl) (fun _ _ _ h => h) (Or.inr ⟨by rfl, rfl⟩) (by assumption) ?_
    simp only [Act.put, List.setIfInBounds_toArray, List.set_cons_zero, List.set_cons_succ]
    refine Ph.U_take (i := 26) (oi := { dst := some 33, op := .fieldAddr 50 (.tmp 32) 3, type := 0, pos := "ir.go:99", after := #[{ on := 25, ground := .data }, { on := 20, ground := .guard }], guard := some (20, true) }) (v := undef) rfl (by kernel_rfl) (by kernel_rfl) (by kernel_rfl) (by kernel_rfl) (fun _ _ _ h => h) (Or.inr ⟨by rfl, rfl⟩) (by assumption) ?_
    simp only [Act.put, List.setIfInBounds_toArray, List.set_cons_zero, List.set_cons_succ]
    refine Ph.U_take (i := 27) (oi := { dst := some 34, op := .load 24 (.tmp 33), type := 24, pos := "ir.go:99", after := #[{ on := 26, ground := .data }, { on := 20, ground := .guard }], guard := some (20, true) }) (v := undef) rfl (by kernel_rfl) (by kernel_rfl) (by kernel_rfl) (by kernel_rfl) (fun _ _ _ h => h) (Or.inr ⟨by rfl, rfl⟩) (by assumption) ?_
    simp only [Act.put, List.setIfInBounds_toArray, List.set_cons_zero, List.set_cons_succ]
    refine Ph.U_take (i := 28) (oi := { dst := some 35, op := .move (.tmp 2), type := 3, pos := "ir.go:99", after := #[{ on := 20, ground := .guard }], guard := some (20, true) }) (v := undef) rfl (by kernel_rfl) (by kernel_rfl) (by kernel_rfl) (by kernel_rfl) (fun _ _ _ h => h) (Or.inr ⟨by rfl, rfl⟩) (by assumption) ?_
    simp only [Act.put, List.setIfInBounds_toArray, List.set_cons_zero, List.set_cons_succ]
    refine Ph.U_take (i := 29) (oi := { dst := some 36, op := .call { callee := .value (.func 33), args := #[.tmp 28, .tmp 34, .tmp 35], argTypes := #[26, 24, 3] }, type := 4, pos := "ir.go:99", after := #[{ on := 21, ground := .data }, { on := 27, ground := .data }, { on := 28, ground := .data }, { on := 20, ground := .chain }, { on := 20, ground := .guard }], guard := some (20, true) }) (v := undef) rfl (by kernel_rfl) (by kernel_rfl) (by kernel_rfl) (by kernel_rfl) (fun _ _ _ h => h) (Or.inr ⟨by rfl, rfl⟩) (by assumption) ?_
    simp only [Act.put, List.setIfInBounds_toArray, List.set_cons_zero, List.set_cons_succ]
    refine Ph.U_take (i := 30) (oi := { dst := some 37, op := .pick (.tmp 27) (.tmp 36) (.const (Value.bool false)), type := 4, pos := "ir.go:99", after := #[{ on := 20, ground := .data }, { on := 29, ground := .data }], guard := none }) (v := .bool false) rfl (by kernel_rfl) (by kernel_rfl) (by kernel_rfl) (by kernel_rfl) (fun _ _ _ h => h) (Or.inl ⟨by rfl, ?_⟩) (by assumption) ?_
    · intro W hSw; (try dsimp only at hSw); go_simp
    simp only [Act.put, List.setIfInBounds_toArray, List.set_cons_zero, List.set_cons_succ]
    refine Ph.U_take (i := 31) (oi := { dst := some 6, op := .assign (.tmp 37), type := 4, pos := "ir.go:99", after := #[{ on := 30, ground := .data }, { on := 29, ground := .chain }, { on := 0, ground := .phase }, { on := 1, ground := .phase }, { on := 2, ground := .phase }, { on := 3, ground := .phase }, { on := 4, ground := .phase }, { on := 5, ground := .phase }, { on := 6, ground := .phase }, { on := 7, ground := .phase }, { on := 8, ground := .phase }, { on := 9, ground := .phase }, { on := 10, ground := .phase }, { on := 11, ground := .phase }, { on := 12, ground := .phase }, { on := 13, ground := .phase }, { on := 14, ground := .phase }, { on := 15, ground := .phase }, { on := 16, ground := .phase }, { on := 17, ground := .phase }, { on := 18, ground := .phase }, { on := 19, ground := .phase }, { on := 20, ground := .phase }, { on := 21, ground := .phase }, { on := 22, ground := .phase }, { on := 23, ground := .phase }, { on := 24, ground := .phase }, { on := 25, ground := .phase }, { on := 26, ground := .phase }, { on := 27, ground := .phase }, { on := 28, ground := .phase }, { on := 29, ground := .phase }, { on := 30, ground := .phase }], guard := none }) (v := .bool false) rfl (by kernel_rfl) (by kernel_rfl) (by kernel_rfl) (by kernel_rfl) (fun _ _ _ h => h) (Or.inl ⟨by rfl, ?_⟩) (by assumption) ?_
    · intro W hSw; (try dsimp only at hSw); go_simp
    simp only [Act.put, List.setIfInBounds_toArray, List.set_cons_zero, List.set_cons_succ]
    refine Ph.U_done (by kernel_rfl) ?_ _
    all_goals
      go_wp2_with fail
      go_ret
      exact ⟨by rw [Hbv.out]; rfl, HB2.out⟩
  | true =>
    go_region_held3 (fun W => W.cell? ⟨w.heap.size, 0, none⟩ = some (.int .i64 T.start) ∧ W.cell? ⟨w.heap.size, 1, none⟩ = some (.int .i64 T.slots) ∧ W.cell? ⟨w.heap.size, 2, none⟩ = some (.int .i64 T.backs) ∧ W.cell? ⟨w.heap.size, 3, none⟩ = some (.int .i64 T.grow) ∧ W.cell? ⟨w.heap.size, 4, none⟩ = some (.int .i64 T.growBack) ∧ W.cell? ⟨w.heap.size, 5, none⟩ = some (.slice Ai T.ni ci) ∧ W.cell? ⟨w.heap.size, 6, none⟩ = some (.slice (some ⟨bo, offo, none⟩) T.no co) ∧ W.cell? ⟨w.heap.size, 7, none⟩ = some (.int .i64 T.last) ∧ W.cell? ⟨w.heap.size, 8, none⟩ = some (.slice Ac T.nc cc) ∧ W.cell? ⟨bo, offo + x * 4 + 2, none⟩ = some (.slice As (T.outs x).ns cs) ∧ W.cell? ⟨bo, offo + x * 4 + 3, none⟩ = some (.slice Ab (T.outs x).nb cb)) (first | exact ⟨k0, k1, k2, k3, k4, k5, k6, k7, k8, k9, k10⟩ | exact hk2 | exact hk3)
      (first
      | (go_at_call_of 33 (Value.slice As (T.outs x).ns cs); refine HC1.out.mono ?_; rintro e w2 ⟨rfl, hk2, hb2, hc2⟩; have HC2 := Lib.hid hc2; clear hb2 hc2; obtain ⟨m0, m1, m2, m3, m4, m5, m6, m7, m8, m9, m10⟩ := id hk2)
      | (go_at_call_of 33 (Value.slice Ab (T.outs x).nb cb); refine HC2.out.mono ?_; rintro e w3 ⟨rfl, hk3, hb3⟩; have HB3 := Lib.hid hb3; clear hb3; obtain ⟨n0, n1, n2, n3, n4, n5, n6, n7, n8, n9, n10⟩ := id hk3))
    all_goals
      go_wp2_with fail
      go_ret
      exact ⟨by rw [Hbv.out]; simp, HB3.out⟩

set_option maxHeartbeats 4000000 in
set_option maxRecDepth 100000 in
theorem rout_any (T : Tr) (Ai Ao Ac : Option Addr) (ci co cc : Nat) (y at_ : Int) (B : Nat) (b : Bool) (w : World) (hT : InsAt w B Ai T.ni T.ins) (hO : OutsAt w B Ao T.no T.outs) (hB : B ≤ w.heap.size) (hat : at_ ≤ T.ni) (hb : b = true ↔ Named T y at_) :
    Calls Tryz.prog 36 #[.agg (trCells T Ai ci Ao co Ac cc), .int .i64 y, .int .i64 at_] w fun e w' => e = .returned (.bool b) ∧ Below w.heap.size w w' := by
  have HB := Lib.hid ((Below.refl w.heap.size w).alloc (Nat.le_refl _) (.cells (trCells T Ai ci Ao co Ac cc) 26))
  have Hb := Lib.hid hb
  by_cases h0 : y < 0
  · obtain rfl : b = false := bfalse hb (fun h => by have := h.1; omega)
    have h0' : ¬ (0 : Int) ≤ y := by omega
    have hd0 : decide ((0 : Int) ≤ y) = false := by simpa using h0
    clear hT hO hb Hb h0 h0'
    unfold trCells at *
    go_enter Tryz.func36, Tryz.ntmps36
    go_wp2_with fail
    go_quiet (fail)
    go_wp2_with fail
    go_ret
    exact ⟨rfl, bel_draw HB.out _⟩
  have h0' : (0 : Int) ≤ y := by omega
  by_cases h1 : (T.no : Int) ≤ y
  · obtain rfl : b = false := bfalse hb (fun h => by have := h.2.1; omega)
    have h1' : ¬ y < (T.no : Int) := by omega
    have hd0 : decide ((0 : Int) ≤ y) = true := by simpa using h0'
    have hd1 : decide (y < (T.no : Int)) = false := by simpa using h1'
    clear hT hO hb Hb h0 h0' h1 h1'
    unfold trCells at *
    go_enter Tryz.func36, Tryz.ntmps36
    go_wp2_with fail
    go_quiet (fail)
    go_wp2_with fail
    go_ret
    exact ⟨rfl, bel_draw HB.out _⟩
  obtain ⟨x, rfl⟩ : ∃ x : Nat, y = x := ⟨y.toNat, by omega⟩
  have hx : x < T.no := by omega
  have hxi : (x : Int) < (T.no : Int) := by omega
  clear h0 h1 h0'
  have h0' : (0 : Int) ≤ (x : Int) := by omega
  obtain ⟨bo, offo, rfl, hbo, hoc⟩ := hO.resolve_left (by omega)
  obtain ⟨_, _, _, _, ⟨rfl, rfl, ⟨As, cs, rfl, hs⟩, ⟨Ab, cb, rfl, hk⟩, ls, lb⟩, o0, o1, o2, o3⟩ := hoc x hx
  obtain ⟨bs, hbs⟩ : ∃ bs : Bool, bs = true ↔ Places T (T.outs x).ns (T.outs x).st at_ := by
    by_cases h : Places T (T.outs x).ns (T.outs x).st at_
    · exact ⟨true, by simp [h]⟩
    · exact ⟨false, by simp [h]⟩
  obtain ⟨bb, hbb⟩ : ∃ bb : Bool, bb = true ↔ Places T (T.outs x).nb (T.outs x).bk at_ := by
    by_cases h : Places T (T.outs x).nb (T.outs x).bk at_
    · exact ⟨true, by simp [h]⟩
    · exact ⟨false, by simp [h]⟩
  have hbv : b = (bs && bb) := by
    have : (bs && bb) = true ↔ Named T x at_ := by
      rw [Bool.and_eq_true, hbs, hbb]
      unfold Named
      rw [show ((x : Int)).toNat = x by omega]
      exact ⟨fun h => ⟨by omega, hxi, h.1, h.2⟩, fun h => h.2.2⟩
    cases b <;> cases hc : (bs && bb) <;> simp_all
  have hk0 : ∀ W, Below w.heap.size (w.alloc (.cells (trCells T Ai ci (some ⟨bo, offo, none⟩) co Ac cc) 26)) W → W.heap.size ≥ w.heap.size + 1 → (∀ i, W.cell? ⟨w.heap.size, i, none⟩ = (w.alloc (.cells (trCells T Ai ci (some ⟨bo, offo, none⟩) co Ac cc) 26)).cell? ⟨w.heap.size, i, none⟩) →
      W.cell? ⟨w.heap.size, 0, none⟩ = some (.int .i64 T.start) ∧ W.cell? ⟨w.heap.size, 1, none⟩ = some (.int .i64 T.slots) ∧ W.cell? ⟨w.heap.size, 2, none⟩ = some (.int .i64 T.backs) ∧ W.cell? ⟨w.heap.size, 3, none⟩ = some (.int .i64 T.grow) ∧ W.cell? ⟨w.heap.size, 4, none⟩ = some (.int .i64 T.growBack) ∧ W.cell? ⟨w.heap.size, 5, none⟩ = some (.slice Ai T.ni ci) ∧ W.cell? ⟨w.heap.size, 6, none⟩ = some (.slice (some ⟨bo, offo, none⟩) T.no co) ∧ W.cell? ⟨w.heap.size, 7, none⟩ = some (.int .i64 T.last) ∧ W.cell? ⟨w.heap.size, 8, none⟩ = some (.slice Ac T.nc cc) ∧ W.cell? ⟨bo, offo + x * 4 + 2, none⟩ = some (.slice As (T.outs x).ns cs) ∧ W.cell? ⟨bo, offo + x * 4 + 3, none⟩ = some (.slice Ab (T.outs x).nb cb) := fun W hW hs hc => by
    have kb : Blk (w.alloc (.cells (trCells T Ai ci (some ⟨bo, offo, none⟩) co Ac cc) 26)) w.heap.size 26 (trCells T Ai ci (some ⟨bo, offo, none⟩) co Ac cc) := Blk.new _ _ _
    have hbw : Below w.heap.size w W := HB.out.trans hW
    refine ⟨(hc 0).trans (kb.cell 0), (hc 1).trans (kb.cell 1), (hc 2).trans (kb.cell 2), (hc 3).trans (kb.cell 3), (hc 4).trans (kb.cell 4), (hc 5).trans (kb.cell 5), (hc 6).trans (kb.cell 6), (hc 7).trans (kb.cell 7), (hc 8).trans (kb.cell 8), ?_, ?_⟩
    · exact (hbw.cell (p := ⟨bo, _, none⟩) (show bo < w.heap.size by omega)).trans o2
    · exact (hbw.cell (p := ⟨bo, _, none⟩) (show bo < w.heap.size by omega)).trans o3
  have hcS : ∀ W, Below w.heap.size w W → Calls Tryz.prog 35 #[.agg (trCells T Ai ci (some ⟨bo, offo, none⟩) co Ac cc), .slice As (T.outs x).ns cs, .int .i64 at_] W fun e w' => e = .returned (.bool bs) ∧ Below W.heap.size W w' := fun W hW =>
    rplaces_any T Ai _ Ac As ci co cc cs (T.outs x).ns (T.outs x).st at_ B bs W (hT.below (hW.mono hB)) (Nat.le_trans hB hW.size) (hs.below (hW.mono hB)) ls hat hbs
  have hcB : ∀ W, Below w.heap.size w W → Calls Tryz.prog 35 #[.agg (trCells T Ai ci (some ⟨bo, offo, none⟩) co Ac cc), .slice Ab (T.outs x).nb cb, .int .i64 at_] W fun e w' => e = .returned (.bool bb) ∧ Below W.heap.size W w' := fun W hW =>
    rplaces_any T Ai _ Ac Ab ci co cc cb (T.outs x).nb (T.outs x).bk at_ B bb W (hT.below (hW.mono hB)) (Nat.le_trans hB hW.size) (hk.below (hW.mono hB)) lb hat hbb
  have HcS := Lib.hid hcS
  have HcB := Lib.hid hcB
  have HK := Lib.hid hk0
  have Hbv := Lib.hid hbv
  have hsz : (w.alloc (.cells (trCells T Ai ci (some ⟨bo, offo, none⟩) co Ac cc) 26)).heap.size = w.heap.size + 1 := by simp
  clear hT hO hb Hb hs hk hbs hbb hbv hcS hcB hk0 o0 o1 o2 o3 hoc
  unfold trCells at *
  go_enter Tryz.func36, Tryz.ntmps36
  go_wp2_with fail
  generalize w.alloc (.cells #[.int .i64 T.start, .int .i64 T.slots, .int .i64 T.backs, .int .i64 T.grow, .int .i64 T.growBack, .slice Ai T.ni ci, .slice (some ⟨bo, offo, none⟩) T.no co, .int .i64 T.last, .slice Ac T.nc cc] 26) = wb at *
  obtain ⟨k0, k1, k2, k3, k4, k5, k6, k7, k8, k9, k10⟩ := HK.out wb (Below.refl _ _) (by omega) (fun _ => rfl)
  have Hsz := Lib.hid hsz
  have HC1 : Hid (Calls Tryz.prog 35 #[.agg #[.int .i64 T.start, .int .i64 T.slots, .int .i64 T.backs, .int .i64 T.grow, .int .i64 T.growBack, .slice Ai T.ni ci, .slice (some ⟨bo, offo, none⟩) T.no co, .int .i64 T.last, .slice Ac T.nc cc], .slice As (T.outs x).ns cs, .int .i64 at_] wb.drew fun e w2 => e = .returned (.bool bs) ∧
      (w2.cell? ⟨w.heap.size, 0, none⟩ = some (.int .i64 T.start) ∧ w2.cell? ⟨w.heap.size, 1, none⟩ = some (.int .i64 T.slots) ∧ w2.cell? ⟨w.heap.size, 2, none⟩ = some (.int .i64 T.backs) ∧ w2.cell? ⟨w.heap.size, 3, none⟩ = some (.int .i64 T.grow) ∧ w2.cell? ⟨w.heap.size, 4, none⟩ = some (.int .i64 T.growBack) ∧ w2.cell? ⟨w.heap.size, 5, none⟩ = some (.slice Ai T.ni ci) ∧ w2.cell? ⟨w.heap.size, 6, none⟩ = some (.slice (some ⟨bo, offo, none⟩) T.no co) ∧ w2.cell? ⟨w.heap.size, 7, none⟩ = some (.int .i64 T.last) ∧ w2.cell? ⟨w.heap.size, 8, none⟩ = some (.slice Ac T.nc cc) ∧ w2.cell? ⟨bo, offo + x * 4 + 2, none⟩ = some (.slice As (T.outs x).ns cs) ∧ w2.cell? ⟨bo, offo + x * 4 + 3, none⟩ = some (.slice Ab (T.outs x).nb cb)) ∧ Below w.heap.size w w2 ∧
      Calls Tryz.prog 35 #[.agg #[.int .i64 T.start, .int .i64 T.slots, .int .i64 T.backs, .int .i64 T.grow, .int .i64 T.growBack, .slice Ai T.ni ci, .slice (some ⟨bo, offo, none⟩) T.no co, .int .i64 T.last, .slice Ac T.nc cc], .slice Ab (T.outs x).nb cb, .int .i64 at_] w2 fun e w3 => e = .returned (.bool bb) ∧
        (w3.cell? ⟨w.heap.size, 0, none⟩ = some (.int .i64 T.start) ∧ w3.cell? ⟨w.heap.size, 1, none⟩ = some (.int .i64 T.slots) ∧ w3.cell? ⟨w.heap.size, 2, none⟩ = some (.int .i64 T.backs) ∧ w3.cell? ⟨w.heap.size, 3, none⟩ = some (.int .i64 T.grow) ∧ w3.cell? ⟨w.heap.size, 4, none⟩ = some (.int .i64 T.growBack) ∧ w3.cell? ⟨w.heap.size, 5, none⟩ = some (.slice Ai T.ni ci) ∧ w3.cell? ⟨w.heap.size, 6, none⟩ = some (.slice (some ⟨bo, offo, none⟩) T.no co) ∧ w3.cell? ⟨w.heap.size, 7, none⟩ = some (.int .i64 T.last) ∧ w3.cell? ⟨w.heap.size, 8, none⟩ = some (.slice Ac T.nc cc) ∧ w3.cell? ⟨bo, offo + x * 4 + 2, none⟩ = some (.slice As (T.outs x).ns cs) ∧ w3.cell? ⟨bo, offo + x * 4 + 3, none⟩ = some (.slice Ab (T.outs x).nb cb)) ∧ Below w.heap.size w w3) := by
    have d0 := bel_draw HB.out 1
    refine (HcS.out _ d0).mono fun e w2 h2 => ?_
    have c2 : ∀ i, w2.cell? ⟨w.heap.size, i, none⟩ = wb.cell? ⟨w.heap.size, i, none⟩ := fun i => h2.2.cell (p := ⟨w.heap.size, i, none⟩) (by show w.heap.size < wb.heap.size; have := Hsz.out; omega)
    have b2 : Below w.heap.size w w2 := d0.trans (h2.2.mono d0.size)
    have e2 : Below w.heap.size wb w2 := below_frame_drew (h2.2.mono d0.size)
    have z2 : w2.heap.size ≥ w.heap.size + 1 := Nat.le_trans (Nat.le_of_eq Hsz.out.symm) h2.2.size
    refine ⟨h2.1, HK.out w2 e2 z2 c2, b2, (HcB.out w2 b2).mono fun e3 w3 h3 => ?_⟩
    have c3 : ∀ i, w3.cell? ⟨w.heap.size, i, none⟩ = wb.cell? ⟨w.heap.size, i, none⟩ := fun i => (h3.2.cell (p := ⟨w.heap.size, i, none⟩) (show w.heap.size < w2.heap.size from z2)).trans (c2 i)
    exact ⟨h3.1, HK.out w3 (e2.trans (h3.2.mono b2.size)) (Nat.le_trans z2 h3.2.size) c3, b2.trans (h3.2.mono b2.size)⟩
  clear HcS HcB HK
  cases bs with
  | false =>
    have HS0 : (fun W : World => W.cell? ⟨w.heap.size, 0, none⟩ = some (.int .i64 T.start) ∧ W.cell? ⟨w.heap.size, 1, none⟩ = some (.int .i64 T.slots) ∧ W.cell? ⟨w.heap.size, 2, none⟩ = some (.int .i64 T.backs) ∧ W.cell? ⟨w.heap.size, 3, none⟩ = some (.int .i64 T.grow) ∧ W.cell? ⟨w.heap.size, 4, none⟩ = some (.int .i64 T.growBack) ∧ W.cell? ⟨w.heap.size, 5, none⟩ = some (.slice Ai T.ni ci) ∧ W.cell? ⟨w.heap.size, 6, none⟩ = some (.slice (some ⟨bo, offo, none⟩) T.no co) ∧ W.cell? ⟨w.heap.size, 7, none⟩ = some (.int .i64 T.last) ∧ W.cell? ⟨w.heap.size, 8, none⟩ = some (.slice Ac T.nc cc) ∧ W.cell? ⟨bo, offo + x * 4 + 2, none⟩ = some (.slice As (T.outs x).ns cs) ∧ W.cell? ⟨bo, offo + x * 4 + 3, none⟩ = some (.slice Ab (T.outs x).nb cb)) wb.drew := ⟨k0, k1, k2, k3, k4, k5, k6, k7, k8, k9, k10⟩
    refine Ph.wp_region_U 32 (fun W : World => W.cell? ⟨w.heap.size, 0, none⟩ = some (.int .i64 T.start) ∧ W.cell? ⟨w.heap.size, 1, none⟩ = some (.int .i64 T.slots) ∧ W.cell? ⟨w.heap.size, 2, none⟩ = some (.int .i64 T.backs) ∧ W.cell? ⟨w.heap.size, 3, none⟩ = some (.int .i64 T.grow) ∧ W.cell? ⟨w.heap.size, 4, none⟩ = some (.int .i64 T.growBack) ∧ W.cell? ⟨w.heap.size, 5, none⟩ = some (.slice Ai T.ni ci) ∧ W.cell? ⟨w.heap.size, 6, none⟩ = some (.slice (some ⟨bo, offo, none⟩) T.no co) ∧ W.cell? ⟨w.heap.size, 7, none⟩ = some (.int .i64 T.last) ∧ W.cell? ⟨w.heap.size, 8, none⟩ = some (.slice Ac T.nc cc) ∧ W.cell? ⟨bo, offo + x * 4 + 2, none⟩ = some (.slice As (T.outs x).ns cs) ∧ W.cell? ⟨bo, offo + x * 4 + 3, none⟩ = some (.slice Ab (T.outs x).nb cb)) (by kernel_rfl) ?_
    change Ph.wpU _ _ _ _ _ _ 32 #[false, false, false, false, false, false, false, false, false, false, false, false, false, false, false, false, false, false, false, false, false, false, false, false, false, false, false, false, false, false, false, false] _ _
    refine Ph.U_take (i := 0) (oi := { dst := some 7, op := .move (.tmp 1), type := 3, pos := "trace.go:57", after := #[], guard := none }) (v := .int .i64 (x : Int)) rfl (by kernel_rfl) (by kernel_rfl) (by kernel_rfl) (by kernel_rfl) (fun _ _ _ h => h) (Or.inl ⟨by rfl, ?_⟩) (by assumption) ?_
    · intro W hSw; (try dsimp only at hSw); go_simp
    simp only [Act.put, List.setIfInBounds_toArray, List.set_cons_zero, List.set_cons_succ]
    refine Ph.U_take (i := 1) (oi := { dst := some 8, op := .binOp BinOp.geq 3 (.tmp 7) (.const (Value.int IntKind.i64 0)) 3, type := 4, pos := "trace.go:57", after := #[{ on := 0, ground := .data }], guard := none }) (v := .bool true) rfl (by kernel_rfl) (by kernel_rfl) (by kernel_rfl) (by kernel_rfl) (fun _ _ _ h => h) (Or.inl ⟨by rfl, ?_⟩) (by assumption) ?_
    · intro W hSw; (try dsimp only at hSw); go_simp
    simp only [Act.put, List.setIfInBounds_toArray, List.set_cons_zero, List.set_cons_succ]
    refine Ph.U_take (i := 2) (oi := { dst := some 9, op := .move (.tmp 8), type := 4, pos := "trace.go:57", after := #[{ on := 1, ground := .data }], guard := none }) (v := .bool true) rfl (by kernel_rfl) (by kernel_rfl) (by kernel_rfl) (by kernel_rfl) (fun _ _ _ h => h) (Or.inl ⟨by rfl, ?_⟩) (by assumption) ?_
    · intro W hSw; (try dsimp only at hSw); go_simp
    simp only [Act.put, List.setIfInBounds_toArray, List.set_cons_zero, List.set_cons_succ]
    refine Ph.U_take (i := 3) (oi := { dst := some 10, op := .move (.tmp 1), type := 3, pos := "trace.go:57", after := #[{ on := 2, ground := .guard }], guard := some (2, true) }) (v := .int .i64 (x : Int)) rfl (by kernel_rfl) (by kernel_rfl) (by kernel_rfl) (by kernel_rfl) (fun _ _ _ h => h) (Or.inl ⟨by rfl, ?_⟩) (by assumption) ?_
    · intro W hSw; (try dsimp only at hSw); go_simp
    simp only [Act.put, List.setIfInBounds_toArray, List.set_cons_zero, List.set_cons_succ]
    refine Ph.U_take (i := 4) (oi := { dst := some 11, op := .fieldAddr 26 (.tmp 3) 6, type := 0, pos := "trace.go:57", after := #[{ on := 2, ground := .guard }], guard := some (2, true) }) (v := .pointer (some ⟨w.heap.size, 6, none⟩)) rfl (by kernel_rfl) (by kernel_rfl) (by kernel_rfl) (by kernel_rfl) (fun _ _ _ h => h) (Or.inl ⟨by rfl, ?_⟩) (by assumption) ?_
    · intro W hSw; (try dsimp only at hSw); go_simp
    simp only [Act.put, List.setIfInBounds_toArray, List.set_cons_zero, List.set_cons_succ]
    refine Ph.U_take (i := 5) (oi := { dst := some 12, op := .load 23 (.tmp 11), type := 23, pos := "trace.go:57", after := #[{ on := 4, ground := .data }, { on := 2, ground := .guard }], guard := some (2, true) }) (v := .slice (some ⟨bo, offo, none⟩) T.no co) rfl (by kernel_rfl) (by kernel_rfl) (by kernel_rfl) (by kernel_rfl) (fun _ _ _ h => h) (Or.inl ⟨by rfl, ?_⟩) (by assumption) ?_
    · intro W hSw; (try dsimp only at hSw); go_simp
    simp only [Act.put, List.setIfInBounds_toArray, List.set_cons_zero, List.set_cons_succ]
    refine Ph.U_take (i := 6) (oi := { dst := some 13, op := .call { callee := .builtin Builtin.len, args := #[.tmp 12], argTypes := #[23] }, type := 3, pos := "trace.go:57", after := #[{ on := 5, ground := .data }, { on := 2, ground := .guard }], guard := some (2, true) }) (v := .int .i64 (T.no : Int)) rfl (by kernel_rfl) (by kernel_rfl) (by kernel_rfl) (by kernel_rfl) (fun _ _ _ h => h) (Or.inl ⟨by rfl, ?_⟩) (by assumption) ?_
    · intro W hSw; (try dsimp only at hSw); go_simp
    simp only [Act.put, List.setIfInBounds_toArray, List.set_cons_zero, List.set_cons_succ]
    refine Ph.U_take (i := 7) (oi := { dst := some 14, op := .binOp BinOp.lss 3 (.tmp 10) (.tmp 13) 3, type := 4, pos := "trace.go:57", after := #[{ on := 3, ground := .data }, { on := 6, ground := .data }, { on := 2, ground := .guard }], guard := some (2, true) }) (v := .bool true) rfl (by kernel_rfl) (by kernel_rfl) (by kernel_rfl) (by kernel_rfl) (fun _ _ _ h => h) (Or.inl ⟨by rfl, ?_⟩) (by assumption) ?_
    · intro W hSw; (try dsimp only at hSw); go_simp
    simp only [Act.put, List.setIfInBounds_toArray, List.set_cons_zero, List.set_cons_succ]
    refine Ph.U_take (i := 8) (oi := { dst := some 15, op := .pick (.tmp 9) (.tmp 14) (.const (Value.bool false)), type := 4, pos := "trace.go:57", after := #[{ on := 2, ground := .data }, { on := 7, ground := .data }], guard := none }) (v := .bool true) rfl (by kernel_rfl) (by kernel_rfl) (by kernel_rfl) (by kernel_rfl) (fun _ _ _ h => h) (Or.inl ⟨by rfl, ?_⟩) (by assumption) ?_
    · intro W hSw; (try dsimp only at hSw); go_simp
    simp only [Act.put, List.setIfInBounds_toArray, List.set_cons_zero, List.set_cons_succ]
    refine Ph.U_take (i := 9) (oi := { dst := some 16, op := .move (.tmp 15), type := 4, pos := "trace.go:57", after := #[{ on := 8, ground := .data }, { on := 2, ground := .chain }], guard := none }) (v := .bool true) rfl (by kernel_rfl) (by kernel_rfl) (by kernel_rfl) (by kernel_rfl) (fun _ _ _ h => h) (Or.inl ⟨by rfl, ?_⟩) (by assumption) ?_
    · intro W hSw; (try dsimp only at hSw); go_simp
    simp only [Act.put, List.setIfInBounds_toArray, List.set_cons_zero, List.set_cons_succ]
    refine Ph.U_take (i := 10) (oi := { dst := some 17, op := .load 26 (.tmp 3), type := 26, pos := "trace.go:57", after := #[{ on := 9, ground := .guard }], guard := some (9, true) }) (v := .agg #[.int .i64 T.start, .int .i64 T.slots, .int .i64 T.backs, .int .i64 T.grow, .int .i64 T.growBack, .slice Ai T.ni ci, .slice (some ⟨bo, offo, none⟩) T.no co, .int .i64 T.last, .slice Ac T.nc cc]) rfl (by kernel_rfl) (by kernel_rfl) (by kernel_rfl) (by kernel_rfl) (fun _ _ _ h => h) (Or.inl ⟨by rfl, ?_⟩) (by assumption) ?_
    · intro W hSw; (try dsimp only at hSw); go_simp
    simp only [Act.put, List.setIfInBounds_toArray, List.set_cons_zero, List.set_cons_succ]
    refine Ph.U_take (i := 11) (oi := { dst := some 18, op := .fieldAddr 26 (.tmp 3) 6, type := 0, pos := "trace.go:57", after := #[{ on := 9, ground := .guard }], guard := some (9, true) }) (v := .pointer (some ⟨w.heap.size, 6, none⟩)) rfl (by kernel_rfl) (by kernel_rfl) (by kernel_rfl) (by kernel_rfl) (fun _ _ _ h => h) (Or.inl ⟨by rfl, ?_⟩) (by assumption) ?_
    · intro W hSw; (try dsimp only at hSw); go_simp
    simp only [Act.put, List.setIfInBounds_toArray, List.set_cons_zero, List.set_cons_succ]
    refine Ph.U_take (i := 12) (oi := { dst := some 19, op := .load 23 (.tmp 18), type := 23, pos := "trace.go:57", after := #[{ on := 11, ground := .data }, { on := 9, ground := .guard }], guard := some (9, true) }) (v := .slice (some ⟨bo, offo, none⟩) T.no co) rfl (by kernel_rfl) (by kernel_rfl) (by kernel_rfl) (by kernel_rfl) (fun _ _ _ h => h) (Or.inl ⟨by rfl, ?_⟩) (by assumption) ?_
    · intro W hSw; (try dsimp only at hSw); go_simp
    simp only [Act.put, List.setIfInBounds_toArray, List.set_cons_zero, List.set_cons_succ]
    refine Ph.U_take (i := 13) (oi := { dst := some 20, op := .move (.tmp 1), type := 3, pos := "trace.go:57", after := #[{ on := 9, ground := .guard }], guard := some (9, true) }) (v := .int .i64 (x : Int)) rfl (by kernel_rfl) (by kernel_rfl) (by kernel_rfl) (by kernel_rfl) (fun _ _ _ h => h) (Or.inl ⟨by rfl, ?_⟩) (by assumption) ?_
    · intro W hSw; (try dsimp only at hSw); go_simp
    simp only [Act.put, List.setIfInBounds_toArray, List.set_cons_zero, List.set_cons_succ]
    refine Ph.U_take (i := 14) (oi := { dst := some 21, op := .indexAddr 23 (.tmp 19) (.tmp 20), type := 0, pos := "trace.go:57", after := #[{ on := 12, ground := .data }, { on := 13, ground := .data }, { on := 9, ground := .guard }], guard := some (9, true) }) (v := .pointer (some ⟨bo, offo + x * 4, none⟩)) rfl (by kernel_rfl) (by kernel_rfl) (by kernel_rfl) (by kernel_rfl) (fun _ _ _ h => h) (Or.inl ⟨by rfl, ?_⟩) (by assumption) ?_
    · intro W hSw; (try dsimp only at hSw); go_simp
    simp only [Act.put, List.setIfInBounds_toArray, List.set_cons_zero, List.set_cons_succ]
    refine Ph.U_take (i := 15) (oi := { dst := some 22, op := .fieldAddr 50 (.tmp 21) 2, type := 0, pos := "trace.go:57", after := #[{ on := 14, ground := .data }, { on := 9, ground := .guard }], guard := some (9, true) }) (v := .pointer (some ⟨bo, offo + x * 4 + 2, none⟩)) rfl (by kernel_rfl) (by kernel_rfl) (by kernel_rfl) (by kernel_rfl) (fun _ _ _ h => h) (Or.inl ⟨by rfl, ?_⟩) (by assumption) ?_
    · intro W hSw; (try dsimp only at hSw); go_simp
    simp only [Act.put, List.setIfInBounds_toArray, List.set_cons_zero, List.set_cons_succ]
    refine Ph.U_take (i := 16) (oi := { dst := some 23, op := .load 24 (.tmp 22), type := 24, pos := "trace.go:57", after := #[{ on := 15, ground := .data }, { on := 9, ground := .guard }], guard := some (9, true) }) (v := .slice As (T.outs x).ns cs) rfl (by kernel_rfl) (by kernel_rfl) (by kernel_rfl) (by kernel_rfl) (fun _ _ _ h => h) (Or.inl ⟨by rfl, ?_⟩) (by assumption) ?_
    · intro W hSw; (try dsimp only at hSw); go_simp
    simp only [Act.put, List.setIfInBounds_toArray, List.set_cons_zero, List.set_cons_succ]
    refine Ph.U_take (i := 17) (oi := { dst := some 24, op := .move (.tmp 2), type := 3, pos := "trace.go:57", after := #[{ on := 9, ground := .guard }], guard := some (9, true) }) (v := .int .i64 at_) rfl (by kernel_rfl) (by kernel_rfl) (by kernel_rfl) (by kernel_rfl) (fun _ _ _ h => h) (Or.inl ⟨by rfl, ?_⟩) (by assumption) ?_
    · intro W hSw; (try dsimp only at hSw); go_simp
    simp only [Act.put, List.setIfInBounds_toArray, List.set_cons_zero, List.set_cons_succ]
    refine Ph.U_ready (rs := [18]) (by kernel_rfl) (by simp) ?_
    refine Ph.AllReadyU.cons rfl (fun K hK => ?_) Ph.AllReadyU.nil
    go_simp
    refine HC1.out.mono ?_
    rintro e w2 ⟨rfl, hk2, hb2, hc2⟩
    have HB2 := Lib.hid hb2
    clear hb2 hc2 HS0
    refine hK.out _ _ (fun _ => hk2) ?_
    clear hK K
    simp only [Act.put, List.setIfInBounds_toArray, List.set_cons_zero, List.set_cons_succ]
    refine Ph.U_take (i := 19) (oi := { dst := some 26, op := .pick (.tmp 16) (.tmp 25) (.const (Value.bool false)), type := 4, pos := "trace.go:57", after := #[{ on := 9, ground := .data }, { on := 18, ground := .data }], guard := none }) (v := .bool false) rfl (by kernel_rfl) (by kernel_rfl) (by kernel_rfl) (by kernel_rfl) (fun _ _ _ h => h) (Or.inl ⟨by rfl, ?_⟩) (by assumption) ?_
    · intro W hSw; (try dsimp only at hSw); go_simp
    simp only [Act.put, List.setIfInBounds_toArray, List.set_cons_zero, List.set_cons_succ]
    refine Ph.U_take (i := 20) (oi := { dst := some 27, op := .move (.tmp 26), type := 4, pos := "trace.go:57", after := #[{ on := 19, ground := .data }, { on := 18, ground := .chain }], guard := none }) (v := .bool false) rfl (by kernel_rfl) (by kernel_rfl) (by kernel_rfl) (by kernel_rfl) (fun _ _ _ h => h) (Or.inl ⟨by rfl, ?_⟩) (by assumption) ?_
    · intro W hSw; (try dsimp only at hSw); go_simp
    simp only [Act.put, List.setIfInBounds_toArray, List.set_cons_zero, List.set_cons_succ]
    refine Ph.U_take (i := 21) (oi := { dst := some 28, op := .load 26 (.tmp 3), type := 26, pos := "trace.go:57", after := #[{ on := 20, ground := .guard }], guard := some (20, true) }) (v := undef) rfl (by kernel_rfl) (by kernel_rfl) (by kernel_rfl) (by kernel_rfl) (fun _ _ _ h => h) (Or.inr ⟨by rfl, rfl⟩) (by assumption) ?_
    simp only [Act.put, List.setIfInBounds_toArray, List.set_cons_zero, List.set_cons_succ]
    refine Ph.U_take (i := 22) (oi := { dst := some 29, op := .fieldAddr 26 (.tmp 3) 6, type := 0, pos := "trace.go:57", after := #[{ on := 20, ground := .guard }], guard := some (20, true) }) (v := undef) rfl (by kernel_rfl) (by kernel_rfl) (by kernel_rfl) (by kernel_rfl) (fun _ _ _ h => h) (Or.inr ⟨by rfl, rfl⟩) (by assumption) ?_
    simp only [Act.put, List.setIfInBounds_toArray, List.set_cons_zero, List.set_cons_succ]
    refine Ph.U_take (i := 23) (oi := { dst := some 30, op := .load 23 (.tmp 29), type := 23, pos := "trace.go:57", after := #[{ on := 22, ground := .data }, { on := 20, ground := .guard }], guard := some (20, true) }) (v := undef) rfl (by kernel_rfl) (by kernel_rfl) (by kernel_rfl) (by kernel_rfl) (fun _ _ _ h => h) (Or.inr ⟨by rfl, rfl⟩) (by assumption) ?_
    simp only [Act.put, List.setIfInBounds_toArray, List.set_cons_zero, List.set_cons_succ]
    refine Ph.U_take (i := 24) (oi := { dst := some 31, op := .move (.tmp 1), type := 3, pos := "trace.go:57", after := #[{ on := 20, ground := .guard }], guard := some (20, true) }) (v := undef) rfl (by kernel_rfl) (by kernel_rfl) (by kernel_rfl) (by kernel_rfl) (fun _ _ _ h => h) (Or.inr ⟨by rfl, rfl⟩) (by assumption) ?_
    simp only [Act.put, List.setIfInBounds_toArray, List.set_cons_zero, List.set_cons_succ]
    refine Ph.U_take (i := 25) (oi := { dst := some 32, op := .indexAddr 23 (.tmp 30) (.tmp 31), type := 0, pos := "trace.go:57", after := #[{ on := 23, ground := .data }, { on := 24, ground := .data }, { on := 20, ground := .guard }], guard := some (20, true) }) (v := undef) rfl (by kernel_rfl) (by kernel_rfl) (by kernel_rfl) (by kernel_rfl) (fun _ _ _ h => h) (Or.inr ⟨by rfl, rfl⟩) (by assumption) ?_
    simp only [Act.put, List.setIfInBounds_toArray, List.set_cons_zero, List.set_cons_succ]
    refine Ph.U_take (i := 26) (oi := { dst := some 33, op := .fieldAddr 50 (.tmp 32) 3, type := 0, pos := "trace.go:57", after := #[{ on := 25, ground := .data }, { on := 20, ground := .guard }], guard := some (20, true) }) (v := undef) rfl (by kernel_rfl) (by kernel_rfl) (by kernel_rfl) (by kernel_rfl) (fun _ _ _ h => h) (Or.inr ⟨by rfl, rfl⟩) (by assumption) ?_
    simp only [Act.put, List.setIfInBounds_toArray, List.set_cons_zero, List.set_cons_succ]
    refine Ph.U_take (i := 27) (oi := { dst := some 34, op := .load 24 (.tmp 33), type := 24, pos := "trace.go:57", after := #[{ on := 26, ground := .data }, { on := 20, ground := .guard }], guard := some (20, true) }) (v := undef) rfl (by kernel_rfl) (by kernel_rfl) (by kernel_rfl) (by kernel_rfl) (fun _ _ _ h => h) (Or.inr ⟨by rfl, rfl⟩) (by assumption) ?_
    simp only [Act.put, List.setIfInBounds_toArray, List.set_cons_zero, List.set_cons_succ]
    refine Ph.U_take (i := 28) (oi := { dst := some 35, op := .move (.tmp 2), type := 3, pos := "trace.go:57", after := #[{ on := 20, ground := .guard }], guard := some (20, true) }) (v := undef) rfl (by kernel_rfl) (by kernel_rfl) (by kernel_rfl) (by kernel_rfl) (fun _ _ _ h => h) (Or.inr ⟨by rfl, rfl⟩) (by assumption) ?_
    simp only [Act.put, List.setIfInBounds_toArray, List.set_cons_zero, List.set_cons_succ]
    refine Ph.U_take (i := 29) (oi := { dst := some 36, op := .call { callee := .value (.func 35), args := #[.tmp 28, .tmp 34, .tmp 35], argTypes := #[26, 24, 3] }, type := 4, pos := "trace.go:57", after := #[{ on := 21, ground := .data }, { on := 27, ground := .data }, { on := 28, ground := .data }, { on := 20, ground := .chain }, { on := 20, ground := .guard }], guard := some (20, true) }) (v := undef) rfl (by kernel_rfl) (by kernel_rfl) (by kernel_rfl) (by kernel_rfl) (fun _ _ _ h => h) (Or.inr ⟨by rfl, rfl⟩) (by assumption) ?_
    simp only [Act.put, List.setIfInBounds_toArray, List.set_cons_zero, List.set_cons_succ]
    refine Ph.U_take (i := 30) (oi := { dst := some 37, op := .pick (.tmp 27) (.tmp 36) (.const (Value.bool false)), type := 4, pos := "trace.go:57", after := #[{ on := 20, ground := .data }, { on := 29, ground := .data }], guard := none }) (v := .bool false) rfl (by kernel_rfl) (by kernel_rfl) (by kernel_rfl) (by kernel_rfl) (fun _ _ _ h => h) (Or.inl ⟨by rfl, ?_⟩) (by assumption) ?_
    · intro W hSw; (try dsimp only at hSw); go_simp
    simp only [Act.put, List.setIfInBounds_toArray, List.set_cons_zero, List.set_cons_succ]
    refine Ph.U_take (i := 31) (oi := { dst := some 6, op := .assign (.tmp 37), type := 4, pos := "trace.go:57", after := #[{ on := 30, ground := .data }, { on := 29, ground := .chain }, { on := 0, ground := .phase }, { on := 1, ground := .phase }, { on := 2, ground := .phase }, { on := 3, ground := .phase }, { on := 4, ground := .phase }, { on := 5, ground := .phase }, { on := 6, ground := .phase }, { on := 7, ground := .phase }, { on := 8, ground := .phase }, { on := 9, ground := .phase }, { on := 10, ground := .phase }, { on := 11, ground := .phase }, { on := 12, ground := .phase }, { on := 13, ground := .phase }, { on := 14, ground := .phase }, { on := 15, ground := .phase }, { on := 16, ground := .phase }, { on := 17, ground := .phase }, { on := 18, ground := .phase }, { on := 19, ground := .phase }, { on := 20, ground := .phase }, { on := 21, ground := .phase }, { on := 22, ground := .phase }, { on := 23, ground := .phase }, { on := 24, ground := .phase }, { on := 25, ground := .phase }, { on := 26, ground := .phase }, { on := 27, ground := .phase }, { on := 28, ground := .phase }, { on := 29, ground := .phase }, { on := 30, ground := .phase }], guard := none }) (v := .bool false) rfl (by kernel_rfl) (by kernel_rfl) (by kernel_rfl) (by kernel_rfl) (fun _ _ _ h => h) (Or.inl ⟨by rfl, ?_⟩) (by assumption) ?_
    · intro W hSw; (try dsimp only at hSw); go_simp
    simp only [Act.put, List.setIfInBounds_toArray, List.set_cons_zero, List.set_cons_succ]
    refine Ph.U_done (by kernel_rfl) ?_ _
    all_goals
      go_wp2_with fail
      go_ret
      exact ⟨by rw [Hbv.out]; rfl, HB2.out⟩
  | true =>
    go_region_held3 (fun W => W.cell? ⟨w.heap.size, 0, none⟩ = some (.int .i64 T.start) ∧ W.cell? ⟨w.heap.size, 1, none⟩ = some (.int .i64 T.slots) ∧ W.cell? ⟨w.heap.size, 2, none⟩ = some (.int .i64 T.backs) ∧ W.cell? ⟨w.heap.size, 3, none⟩ = some (.int .i64 T.grow) ∧ W.cell? ⟨w.heap.size, 4, none⟩ = some (.int .i64 T.growBack) ∧ W.cell? ⟨w.heap.size, 5, none⟩ = some (.slice Ai T.ni ci) ∧ W.cell? ⟨w.heap.size, 6, none⟩ = some (.slice (some ⟨bo, offo, none⟩) T.no co) ∧ W.cell? ⟨w.heap.size, 7, none⟩ = some (.int .i64 T.last) ∧ W.cell? ⟨w.heap.size, 8, none⟩ = some (.slice Ac T.nc cc) ∧ W.cell? ⟨bo, offo + x * 4 + 2, none⟩ = some (.slice As (T.outs x).ns cs) ∧ W.cell? ⟨bo, offo + x * 4 + 3, none⟩ = some (.slice Ab (T.outs x).nb cb)) (first | exact ⟨k0, k1, k2, k3, k4, k5, k6, k7, k8, k9, k10⟩ | exact hk2 | exact hk3)
      (first
      | (go_at_call_of 35 (Value.slice As (T.outs x).ns cs); refine HC1.out.mono ?_; rintro e w2 ⟨rfl, hk2, hb2, hc2⟩; have HC2 := Lib.hid hc2; clear hb2 hc2; obtain ⟨m0, m1, m2, m3, m4, m5, m6, m7, m8, m9, m10⟩ := id hk2)
      | (go_at_call_of 35 (Value.slice Ab (T.outs x).nb cb); refine HC2.out.mono ?_; rintro e w3 ⟨rfl, hk3, hb3⟩; have HB3 := Lib.hid hb3; clear hb3; obtain ⟨n0, n1, n2, n3, n4, n5, n6, n7, n8, n9, n10⟩ := id hk3))
    all_goals
      go_wp2_with fail
      go_ret
      exact ⟨by rw [Hbv.out]; simp, HB3.out⟩
end Go.Proofs.YtoaidcjjjoafjaaGreatDoor.Ir
