/-
  The document's book: exits that are lent; a trace that is lent, and stays. (Printed by geniry.py.)
-/
import Derived.Test.YtoaidcjjjoafjaaGreatDoorIrX
import Derived.Test.YtoaidcjjjoafjaaGreatDoorRs
set_option linter.unusedVariables false
set_option linter.unusedSimpArgs false
set_option linter.unnecessarySimpa false
set_option linter.deprecated false
namespace Go.Proofs.YtoaidcjjjoafjaaGreatDoor.Ir
open Go.RowKit

set_option maxHeartbeats 4000000 in
set_option maxRecDepth 100000 in
theorem lent_exits (A : Option Addr) (n c : Nat) (f : Nat → Ou) (B : Nat) (w : World) (h : OutsAt w B A n f) (hB : B ≤ w.heap.size) (hn : n ≤ 300) (hl : ∀ i, i < n → (f i).ns ≤ 300 ∧ (f i).nb ≤ 300) :
    Calls Tryz.prog 26 #[.slice A n c] w fun e w' => ∃ g c', e = .returned (.slice (some ⟨g, 0, none⟩) n c') ∧ (∀ W', Touch w' W' (fun k => k < w.heap.size) → OutsAt W' W'.heap.size (some ⟨g, 0, none⟩) n f ∧ W'.cell? ⟨g, n * 4, none⟩ = some (.int .i64 (-77))) ∧ n + 1 ≤ c' ∧ Below w.heap.size w w' := by
  obtain ⟨i0, hi0, hz0, hz1, hz2⟩ := info_parts infoOut
  have HC := Lib.hid (copy_exits A n c f B w h hB (by omega) hl)
  have HL := Lib.hid hl
  clear h hl
  go_enter Tryz.func26, Tryz.ntmps26
  go_wp2_with fail
  refine HC.out.mono ?_
  rintro e w1 ⟨A1, c1, Q, rfl, ho1, hq1, hb1⟩
  have hoa := own_touch ho1 (alloc_touch w1 (.cells #[.int .i64 (-77), .int .i64 0, .slice none 0 0, .slice none 0 0] 50) (fun _ => False)) (fun _ _ h => h)
  have kb : Blk (w1.alloc (.cells #[.int .i64 (-77), .int .i64 0, .slice none 0 0, .slice none 0 0] 50)) w1.heap.size 50 #[.int .i64 (-77), .int .i64 0, .slice none 0 0, .slice none 0 0] := Blk.new _ _ _
  have HQ1 := Lib.hid hq1
  clear hq1
  go_wp2_with (at_builtin; refine wpList_append_any _ rfl _ _ 23 rfl w.heap.size 50 i0 (.agg #[.int .i64 0, .int .i64 0, .slice none 0 0, .slice none 0 0]) 4 64 Tryz.underlying23 hi0 hz0 hz1 hz2 rfl (by decide) (.slice A1 n c1) n (outV f Q n) rfl hoa (w1.heap.size + 1) (some ⟨w1.heap.size, 0, none⟩) 1 1 [.int .i64 (-77), .int .i64 0, .slice none 0 0, .slice none 0 0] rfl ⟨rfl, fun _ => ⟨_, rfl, Nat.lt_succ_self _, fun j u hu => by rw [WideShapes.add_plain, Nat.zero_add, kb.cell]; simpa using hu⟩⟩ (by intro u hu; simp at hu; rcases hu with rfl | rfl | rfl <;> rfl) (by unfold maxLen; omega) (by omega) (by have := hb1.size; simp; omega) ?_)
  intro v' w2 ho2 hg2 _
  obtain ⟨A', c', rfl⟩ := own_slice ho2
  have hb2 : Below w.heap.size w w2 := (hb1.alloc hb1.size _).grown hg2 (by have := hb1.size; simp; omega) (fun k hk => (hoa.lt k hk).1)
  obtain ⟨g, rfl, hg, hgl, hcap, hx, hy⟩ := lent_row ho2 (outV_len f Q n) (by omega)
  have hel : ∃ g0, ElsO w2 (fun _ => w.heap.size) g0 f Q n := by
    rcases Nat.eq_zero_or_pos n with h0 | h0
    · exact ⟨0, fun i hi => by omega⟩
    · obtain ⟨g0, c0, hA, hb0, hbl⟩ := World.ownsRow.form ho1 h0
      injection hA with hA _ _
      subst hA
      refine ⟨g0, ((HQ1.out g0 rfl).touch (alloc_touch w1 _ (fun _ => False)) (fun _ h => h.elim)).touch (Touch.of_grown (S := fun k => k = g0) hg2 (fun k e => .inl ?_)) (fun _ h => .inl h)⟩
      simp [Value.ownBlock] at e
      first | exact e.symm | exact e.2.symm
  obtain ⟨g0, hel⟩ := hel
  have HI : Hid (∀ W', Touch w2 W' (fun k => k < w.heap.size) → OutsAt W' W'.heap.size (some ⟨g, 0, none⟩) n f ∧ W'.cell? ⟨g, n * 4, none⟩ = some (.int .i64 (-77))) := by
    refine Lib.hid fun W' T => ?_
    have ho3 := own_touch ho2 T (fun k hk h => by injection hk with hk; subst hk; dsimp only at h; omega)
    obtain ⟨g', e, _, hgl', _, hx', hy'⟩ := lent_row ho3 (outV_len f Q n) (by omega)
    injection e with e
    injection e with e
    subst e
    refine ⟨outsAt_of hgl' hx' (hel.touch T (fun k hk => .inr fun _ _ => hk)) HL.out, ?_⟩
    have := (hy' 0).resolve_right (by omega)
    simpa using this
  have HB := Lib.hid hb2
  have i1 : (n : Int) ≤ (c' : Int) := by omega
  have HCap := Lib.hid hcap
  clear ho1 hb1 hoa ho2 hg2 hb2 hx hy hcap kb hel
  go_wp2_with fail
  go_ret
  exact ⟨g, c', rfl, HI.out, HCap.out, HB.out⟩

theorem TrAt.mono {w : World} {B B' : Nat} {T : Tr} {Ai Ao Ac : Option Addr} (h : TrAt w B T Ai Ao Ac) (hB : B ≤ B') : TrAt w B' T Ai Ao Ac :=
  ⟨h.ins.imp id fun ⟨b, off, h3, h4, h5⟩ => ⟨b, off, h3, Nat.lt_of_lt_of_le h4 hB, h5⟩, h.outs.up hB, h.cells.up hB, h.fewI, h.fewO, h.fewC⟩
/-- A trace that was lent. -/
structure Lent (w : World) (B : Nat) (T : Tr) (gi ci go co gc cc : Nat) : Prop where
  at_ : TrAt w B T (some ⟨gi, 0, none⟩) (some ⟨go, 0, none⟩) (some ⟨gc, 0, none⟩)
  li : gi < B
  lo : go < B
  lc : gc < B
  ri : T.ni + 1 ≤ ci
  ro : T.no + 1 ≤ co
  rc : T.nc + 1 ≤ cc
  mi : w.cell? ⟨gi, T.ni * 5, none⟩ = some (.int .i64 (-77))
  mo : w.cell? ⟨go, T.no * 4, none⟩ = some (.int .i64 (-77))
  mc : w.cell? ⟨gc, T.nc, none⟩ = some (.int .i64 (-77))
theorem Lent.below {w w' : World} {B : Nat} {T : Tr} {gi ci go co gc cc : Nat} (h : Lent w B T gi ci go co gc cc) (hb : Below B w w') : Lent w' B T gi ci go co gc cc :=
  { h with
    at_ := h.at_.below hb
    mi := (hb.cell (p := ⟨gi, _, none⟩) h.li).trans h.mi
    mo := (hb.cell (p := ⟨go, _, none⟩) h.lo).trans h.mo
    mc := (hb.cell (p := ⟨gc, _, none⟩) h.lc).trans h.mc }
theorem cell_lt {w : World} {g i : Nat} {v : Value} (h : w.cell? ⟨g, i, none⟩ = some v) : g < w.heap.size := World.block_lt_of_cell? w _ h
theorem few_light {T : Tr} (h : LightT T) : T.ni ≤ 300 ∧ T.no ≤ 300 ∧ T.nc ≤ 300 ∧ ∀ i, i < T.no → (T.outs i).ns ≤ 300 ∧ (T.outs i).nb ≤ 300 := by
  obtain ⟨h1, h2, h3, h4⟩ := h
  exact ⟨by omega, by omega, by omega, fun i hi => by have := h4 i hi; omega⟩

set_option maxHeartbeats 8000000 in
set_option maxRecDepth 100000 in
theorem lent_trace (T : Tr) (Ai Ao Ac : Option Addr) (ci co cc : Nat) (w : World) (hT : TrAt w w.heap.size T Ai Ao Ac) (hL : LightT T) :
    Calls Tryz.prog 6 #[.agg (trCells T Ai ci Ao co Ac cc)] w fun e w' => ∃ gi ci' go co' gc cc', e = .returned (.agg (trCells T (some ⟨gi, 0, none⟩) ci' (some ⟨go, 0, none⟩) co' (some ⟨gc, 0, none⟩) cc')) ∧ Lent w' w'.heap.size T gi ci' go co' gc cc' ∧ Below w.heap.size w w' := by
  have HF := Lib.hid (few_light hL)
  have HT := Lib.hid hT
  clear hT hL
  unfold trCells
  go_enter Tryz.func6, Tryz.ntmps6
  go_upto_region 1 with fail
  have hbel : Below w.heap.size w ((w.alloc (.cells #[.int .i64 T.start, .int .i64 T.slots, .int .i64 T.backs, .int .i64 T.grow, .int .i64 T.growBack, .slice Ai T.ni ci, .slice Ao T.no co, .int .i64 T.last, .slice Ac T.nc cc] 26)).alloc (.cells #[.int .i64 0, .int .i64 0, .int .i64 0, .int .i64 0, .int .i64 0, .slice none 0 0, .slice none 0 0, .int .i64 0, .slice none 0 0] 26)) := ((Below.refl _ _).alloc (Nat.le_refl _) _).alloc (by simp) _
  have hk : Blk ((w.alloc (.cells #[.int .i64 T.start, .int .i64 T.slots, .int .i64 T.backs, .int .i64 T.grow, .int .i64 T.growBack, .slice Ai T.ni ci, .slice Ao T.no co, .int .i64 T.last, .slice Ac T.nc cc] 26)).alloc (.cells #[.int .i64 0, .int .i64 0, .int .i64 0, .int .i64 0, .int .i64 0, .slice none 0 0, .slice none 0 0, .int .i64 0, .slice none 0 0] 26)) w.heap.size 26 #[.int .i64 T.start, .int .i64 T.slots, .int .i64 T.backs, .int .i64 T.grow, .int .i64 T.growBack, .slice Ai T.ni ci, .slice Ao T.no co, .int .i64 T.last, .slice Ac T.nc cc] := (Blk.new _ _ _).alloc _
  have hz : Blk ((w.alloc (.cells #[.int .i64 T.start, .int .i64 T.slots, .int .i64 T.backs, .int .i64 T.grow, .int .i64 T.growBack, .slice Ai T.ni ci, .slice Ao T.no co, .int .i64 T.last, .slice Ac T.nc cc] 26)).alloc (.cells #[.int .i64 0, .int .i64 0, .int .i64 0, .int .i64 0, .int .i64 0, .slice none 0 0, .slice none 0 0, .int .i64 0, .slice none 0 0] 26)) (w.heap.size + 1) 26 #[.int .i64 0, .int .i64 0, .int .i64 0, .int .i64 0, .int .i64 0, .slice none 0 0, .slice none 0 0, .int .i64 0, .slice none 0 0] := by
    have := Blk.new (w.alloc (.cells #[.int .i64 T.start, .int .i64 T.slots, .int .i64 T.backs, .int .i64 T.grow, .int .i64 T.growBack, .slice Ai T.ni ci, .slice Ao T.no co, .int .i64 T.last, .slice Ac T.nc cc] 26)) 26 #[.int .i64 0, .int .i64 0, .int .i64 0, .int .i64 0, .int .i64 0, .slice none 0 0, .slice none 0 0, .int .i64 0, .slice none 0 0]
    simpa using this
  generalize ((w.alloc (.cells #[.int .i64 T.start, .int .i64 T.slots, .int .i64 T.backs, .int .i64 T.grow, .int .i64 T.growBack, .slice Ai T.ni ci, .slice Ao T.no co, .int .i64 T.last, .slice Ac T.nc cc] 26)).alloc (.cells #[.int .i64 0, .int .i64 0, .int .i64 0, .int .i64 0, .int .i64 0, .slice none 0 0, .slice none 0 0, .int .i64 0, .slice none 0 0] 26)) = wa at *
  have HA := Lib.hid ((HT.out.below hbel).mono hbel.size)
  have HBa := Lib.hid hbel
  have KB := Lib.hid hk
  have KZ := Lib.hid hz
  have HLa : Hid (w.heap.size < wa.heap.size) := hk.lt
  have HL2 : Hid (w.heap.size + 2 ≤ wa.heap.size) := hz.lt
  clear hbel hk hz
  have HS0 : (fun W : World => W.cell? ⟨w.heap.size, 5, none⟩ = some (.slice Ai T.ni ci) ∧ W.cell? ⟨w.heap.size, 6, none⟩ = some (.slice Ao T.no co) ∧ W.cell? ⟨w.heap.size, 8, none⟩ = some (.slice Ac T.nc cc)) wa.drew := ⟨KB.out.cell 5, KB.out.cell 6, KB.out.cell 8⟩
  refine Pb.wp_region_U ((fun i => decide (i < 9))) (fun W : World => W.cell? ⟨w.heap.size, 5, none⟩ = some (.slice Ai T.ni ci) ∧ W.cell? ⟨w.heap.size, 6, none⟩ = some (.slice Ao T.no co) ∧ W.cell? ⟨w.heap.size, 8, none⟩ = some (.slice Ac T.nc cc)) (by kernel_rfl) ?_
  change Pb.wpU _ _ _ _ _ _ 15 #[false, false, false, false, false, false, false, false, false, false, false, false, false, false, false] _ _
  refine Pb.U_take (i := 0) (oi := { dst := some 3, op := .fieldAddr 26 (.tmp 1) 5, type := 0, pos := "book.go:496", after := #[], guard := none }) (v := .pointer (some ⟨w.heap.size, 5, none⟩)) rfl (by kernel_rfl) (by kernel_rfl) (by kernel_rfl) (by kernel_rfl) (fun _ _ _ h => h) (Or.inl ⟨by rfl, ?_⟩) (by assumption) ?_
  · intro W hSw; (try dsimp only at hSw); go_simp
  simp only [Act.put, List.setIfInBounds_toArray, List.set_cons_zero, List.set_cons_succ]
  refine Pb.U_take (i := 1) (oi := { dst := some 4, op := .load 22 (.tmp 3), type := 22, pos := "book.go:496", after := #[{ on := 0, ground := .data }], guard := none }) (v := .slice Ai T.ni ci) rfl (by kernel_rfl) (by kernel_rfl) (by kernel_rfl) (by kernel_rfl) (fun _ _ _ h => h) (Or.inl ⟨by rfl, ?_⟩) (by assumption) ?_
  · intro W hSw; (try dsimp only at hSw); go_simp
  simp only [Act.put, List.setIfInBounds_toArray, List.set_cons_zero, List.set_cons_succ]
  refine Pb.U_take (i := 3) (oi := { dst := some 6, op := .fieldAddr 26 (.tmp 1) 6, type := 0, pos := "book.go:496", after := #[], guard := none }) (v := .pointer (some ⟨w.heap.size, 6, none⟩)) rfl (by kernel_rfl) (by kernel_rfl) (by kernel_rfl) (by kernel_rfl) (fun _ _ _ h => h) (Or.inl ⟨by rfl, ?_⟩) (by assumption) ?_
  · intro W hSw; (try dsimp only at hSw); go_simp
  simp only [Act.put, List.setIfInBounds_toArray, List.set_cons_zero, List.set_cons_succ]
  refine Pb.U_take (i := 4) (oi := { dst := some 7, op := .load 23 (.tmp 6), type := 23, pos := "book.go:496", after := #[{ on := 3, ground := .data }], guard := none }) (v := .slice Ao T.no co) rfl (by kernel_rfl) (by kernel_rfl) (by kernel_rfl) (by kernel_rfl) (fun _ _ _ h => h) (Or.inl ⟨by rfl, ?_⟩) (by assumption) ?_
  · intro W hSw; (try dsimp only at hSw); go_simp
  simp only [Act.put, List.setIfInBounds_toArray, List.set_cons_zero, List.set_cons_succ]
  refine Pb.U_take (i := 6) (oi := { dst := some 9, op := .fieldAddr 26 (.tmp 1) 8, type := 0, pos := "book.go:496", after := #[], guard := none }) (v := .pointer (some ⟨w.heap.size, 8, none⟩)) rfl (by kernel_rfl) (by kernel_rfl) (by kernel_rfl) (by kernel_rfl) (fun _ _ _ h => h) (Or.inl ⟨by rfl, ?_⟩) (by assumption) ?_
  · intro W hSw; (try dsimp only at hSw); go_simp
  simp only [Act.put, List.setIfInBounds_toArray, List.set_cons_zero, List.set_cons_succ]
  refine Pb.U_take (i := 7) (oi := { dst := some 10, op := .load 24 (.tmp 9), type := 24, pos := "book.go:496", after := #[{ on := 6, ground := .data }], guard := none }) (v := .slice Ac T.nc cc) rfl (by kernel_rfl) (by kernel_rfl) (by kernel_rfl) (by kernel_rfl) (fun _ _ _ h => h) (Or.inl ⟨by rfl, ?_⟩) (by assumption) ?_
  · intro W hSw; (try dsimp only at hSw); go_simp
  simp only [Act.put, List.setIfInBounds_toArray, List.set_cons_zero, List.set_cons_succ]
  refine Pb.U_ready (rs := [2]) (by kernel_rfl) (by simp) ?_
  refine Pb.AllReadyU.cons rfl (fun K hK => ?_) Pb.AllReadyU.nil
  go_simp
  refine (lent_codes Ai T.ni ci T.ins wa.heap.size wa.drew HA.out.ins HF.out.1).mono ?_
  rintro e w1 ⟨g1, c1, rfl, hi, hc, hb⟩
  have HB1 : Hid (Below wa.heap.size wa w1) := ⟨hb.os, hb.tape, hb.output, hb.size, hb.block⟩
  have HS1 : (fun W : World => W.cell? ⟨w.heap.size, 5, none⟩ = some (.slice Ai T.ni ci) ∧ W.cell? ⟨w.heap.size, 6, none⟩ = some (.slice Ao T.no co) ∧ W.cell? ⟨w.heap.size, 8, none⟩ = some (.slice Ac T.nc cc)) w1 := ⟨(HB1.out.cell (p := ⟨w.heap.size, _, none⟩) HLa.out).trans HS0.1, (HB1.out.cell (p := ⟨w.heap.size, _, none⟩) HLa.out).trans HS0.2.1, (HB1.out.cell (p := ⟨w.heap.size, _, none⟩) HLa.out).trans HS0.2.2⟩
  have HI1 := Lib.hid hi
  have HC1 := Lib.hid hc
  have HD1 := Lib.hid hb
  clear hi hc hb
  refine hK.out _ _ (fun _ => HS1) ?_
  clear hK K
  simp only [Act.put, List.setIfInBounds_toArray, List.set_cons_zero, List.set_cons_succ]
  refine Pb.U_pure (i := 9) (oi := { dst := some 12, op := .fieldAddr 26 (.tmp 1) 5, type := 0, pos := "book.go:496", after := #[{ on := 0, ground := .phase }, { on := 1, ground := .phase }, { on := 2, ground := .phase }, { on := 3, ground := .phase }, { on := 4, ground := .phase }, { on := 5, ground := .textOnly .lateStoresUnsure }, { on := 6, ground := .phase }, { on := 7, ground := .phase }, { on := 8, ground := .textOnly .lateStoresUnsure }], guard := none }) (v := .pointer (some ⟨w.heap.size, 5, none⟩)) rfl (by kernel_rfl) (by kernel_rfl) (by kernel_rfl) (by decide) (fun _ _ _ h => h) (Or.inl ⟨by rfl, ?_⟩) ?_
  · intro W hSw; (try dsimp only at hSw); go_simp
  simp only [Act.put, List.setIfInBounds_toArray, List.set_cons_zero, List.set_cons_succ]
  refine Pb.U_ready (rs := [5]) (by kernel_rfl) (by simp) ?_
  refine Pb.AllReadyU.cons rfl (fun K hK => ?_) Pb.AllReadyU.nil
  go_simp
  refine (lent_exits Ao T.no co T.outs wa.heap.size w1 (HA.out.below HB1.out).outs HB1.out.size HF.out.2.1 HF.out.2.2.2).mono ?_
  rintro e w2 ⟨g2, c2, rfl, hi, hc, hb⟩
  have HB2 : Hid (Below wa.heap.size wa w2) := HB1.out.trans (hb.mono HB1.out.size)
  have HS2 : (fun W : World => W.cell? ⟨w.heap.size, 5, none⟩ = some (.slice Ai T.ni ci) ∧ W.cell? ⟨w.heap.size, 6, none⟩ = some (.slice Ao T.no co) ∧ W.cell? ⟨w.heap.size, 8, none⟩ = some (.slice Ac T.nc cc)) w2 := ⟨(HB2.out.cell (p := ⟨w.heap.size, _, none⟩) HLa.out).trans HS0.1, (HB2.out.cell (p := ⟨w.heap.size, _, none⟩) HLa.out).trans HS0.2.1, (HB2.out.cell (p := ⟨w.heap.size, _, none⟩) HLa.out).trans HS0.2.2⟩
  have HI2 := Lib.hid hi
  have HC2 := Lib.hid hc
  have HD2 := Lib.hid hb
  clear hi hc hb
  refine hK.out _ _ (fun _ => HS2) ?_
  clear hK K
  simp only [Act.put, List.setIfInBounds_toArray, List.set_cons_zero, List.set_cons_succ]
  refine Pb.U_ready (rs := [8]) (by kernel_rfl) (by simp) ?_
  refine Pb.AllReadyU.cons rfl (fun K hK => ?_) Pb.AllReadyU.nil
  go_simp
  refine (lent_ints Ac T.nc cc T.cells wa.heap.size w2 (HA.out.below HB2.out).cells HF.out.2.2.1).mono ?_
  rintro e w3 ⟨g3, c3, rfl, hi, hc, hb⟩
  have HB3 : Hid (Below wa.heap.size wa w3) := HB2.out.trans (hb.mono HB2.out.size)
  have HS3 : (fun W : World => W.cell? ⟨w.heap.size, 5, none⟩ = some (.slice Ai T.ni ci) ∧ W.cell? ⟨w.heap.size, 6, none⟩ = some (.slice Ao T.no co) ∧ W.cell? ⟨w.heap.size, 8, none⟩ = some (.slice Ac T.nc cc)) w3 := ⟨(HB3.out.cell (p := ⟨w.heap.size, _, none⟩) HLa.out).trans HS0.1, (HB3.out.cell (p := ⟨w.heap.size, _, none⟩) HLa.out).trans HS0.2.1, (HB3.out.cell (p := ⟨w.heap.size, _, none⟩) HLa.out).trans HS0.2.2⟩
  have HI3 := Lib.hid hi
  have HC3 := Lib.hid hc
  have HD3 := Lib.hid hb
  clear hi hc hb
  refine hK.out _ _ (fun _ => HS3) ?_
  clear hK K
  simp only [Act.put, List.setIfInBounds_toArray, List.set_cons_zero, List.set_cons_succ]
  have K3 : Blk w3 w.heap.size 26 #[.int .i64 T.start, .int .i64 T.slots, .int .i64 T.backs, .int .i64 T.grow, .int .i64 T.growBack, .slice Ai T.ni ci, .slice Ao T.no co, .int .i64 T.last, .slice Ac T.nc cc] := KB.out.below HB3.out HLa.out
  have z5 : w3.frozen? ⟨w.heap.size, 5, none⟩ = false := K3.frozen _
  have y5 : w3.cell? ⟨w.heap.size, 5, none⟩ = some (.slice Ai T.ni ci) := K3.cell 5
  have K4 := K3.set_ 5 (.slice (some ⟨g1, 0, none⟩) T.ni c1)
  have z6 : (w3.setCell ⟨w.heap.size, 5, none⟩ (.slice (some ⟨g1, 0, none⟩) T.ni c1)).frozen? ⟨w.heap.size, 6, none⟩ = false := K4.frozen _
  have y6 : (w3.setCell ⟨w.heap.size, 5, none⟩ (.slice (some ⟨g1, 0, none⟩) T.ni c1)).cell? ⟨w.heap.size, 6, none⟩ = some (.slice Ao T.no co) := K4.cell 6
  have K5 := K4.set_ 6 (.slice (some ⟨g2, 0, none⟩) T.no c2)
  have z8 : ((w3.setCell ⟨w.heap.size, 5, none⟩ (.slice (some ⟨g1, 0, none⟩) T.ni c1)).setCell ⟨w.heap.size, 6, none⟩ (.slice (some ⟨g2, 0, none⟩) T.no c2)).frozen? ⟨w.heap.size, 8, none⟩ = false := K5.frozen _
  have y8 : ((w3.setCell ⟨w.heap.size, 5, none⟩ (.slice (some ⟨g1, 0, none⟩) T.ni c1)).setCell ⟨w.heap.size, 6, none⟩ (.slice (some ⟨g2, 0, none⟩) T.no c2)).cell? ⟨w.heap.size, 8, none⟩ = some (.slice Ac T.nc cc) := K5.cell 8
  have K6 := K5.set_ 8 (.slice (some ⟨g3, 0, none⟩) T.nc c3)
  have KF := Lib.hid K6
  clear K3 K4 K5 K6
  refine Pb.U_ready (rs := [10]) (by kernel_rfl) (by simp) ?_
  refine Pb.AllReadyU.cons rfl (fun K hK => ?_) Pb.AllReadyU.nil
  go_simp
  refine hK.out _ _ (fun h => absurd h (by decide)) ?_
  clear hK K
  simp only [Act.put, List.setIfInBounds_toArray, List.set_cons_zero, List.set_cons_succ]
  refine Pb.U_pure (i := 11) (oi := { dst := some 13, op := .fieldAddr 26 (.tmp 1) 6, type := 0, pos := "book.go:496", after := #[{ on := 0, ground := .phase }, { on := 1, ground := .phase }, { on := 2, ground := .phase }, { on := 3, ground := .phase }, { on := 4, ground := .phase }, { on := 5, ground := .phase }, { on := 6, ground := .phase }, { on := 7, ground := .phase }, { on := 8, ground := .textOnly .lateStoresUnsure }, { on := 9, ground := .phase }, { on := 10, ground := .phase }], guard := none }) (v := .pointer (some ⟨w.heap.size, 6, none⟩)) rfl (by kernel_rfl) (by kernel_rfl) (by kernel_rfl) (by decide) (fun _ _ _ h => h) (Or.inl ⟨by rfl, ?_⟩) ?_
  · intro W hSw; (try dsimp only at hSw); go_simp
  simp only [Act.put, List.setIfInBounds_toArray, List.set_cons_zero, List.set_cons_succ]
  refine Pb.U_ready (rs := [12]) (by kernel_rfl) (by simp) ?_
  refine Pb.AllReadyU.cons rfl (fun K hK => ?_) Pb.AllReadyU.nil
  go_simp
  refine hK.out _ _ (fun h => absurd h (by decide)) ?_
  clear hK K
  simp only [Act.put, List.setIfInBounds_toArray, List.set_cons_zero, List.set_cons_succ]
  refine Pb.U_pure (i := 13) (oi := { dst := some 14, op := .fieldAddr 26 (.tmp 1) 8, type := 0, pos := "book.go:496", after := #[{ on := 0, ground := .phase }, { on := 1, ground := .phase }, { on := 2, ground := .phase }, { on := 3, ground := .phase }, { on := 4, ground := .phase }, { on := 5, ground := .phase }, { on := 6, ground := .phase }, { on := 7, ground := .phase }, { on := 8, ground := .phase }, { on := 9, ground := .phase }, { on := 10, ground := .phase }, { on := 11, ground := .phase }, { on := 12, ground := .phase }], guard := none }) (v := .pointer (some ⟨w.heap.size, 8, none⟩)) rfl (by kernel_rfl) (by kernel_rfl) (by kernel_rfl) (by decide) (fun _ _ _ h => h) (Or.inl ⟨by rfl, ?_⟩) ?_
  · intro W hSw; (try dsimp only at hSw); go_simp
  simp only [Act.put, List.setIfInBounds_toArray, List.set_cons_zero, List.set_cons_succ]
  refine Pb.U_ready (rs := [14]) (by kernel_rfl) (by simp) ?_
  refine Pb.AllReadyU.cons rfl (fun K hK => ?_) Pb.AllReadyU.nil
  go_simp
  refine hK.out _ _ (fun h => absurd h (by decide)) ?_
  clear hK K
  simp only [Act.put, List.setIfInBounds_toArray, List.set_cons_zero, List.set_cons_succ]
  refine Pb.U_done (by kernel_rfl) ?_ _
  go_simp
  have T4 : Touch w3 (((w3.setCell ⟨w.heap.size, 5, none⟩ (.slice (some ⟨g1, 0, none⟩) T.ni c1)).setCell ⟨w.heap.size, 6, none⟩ (.slice (some ⟨g2, 0, none⟩) T.no c2)).setCell ⟨w.heap.size, 8, none⟩ (.slice (some ⟨g3, 0, none⟩) T.nc c3)) (fun k => k = w.heap.size) :=
    ((Rs.set_touch _ _ _ _).trans (Rs.set_touch _ _ _ _) (fun _ h => .inl h)).trans (Rs.set_touch _ _ _ _) (fun _ h => .inl h)
  have TT := Lib.hid T4
  have KZ3 : Blk w3 (w.heap.size + 1) 26 #[.int .i64 0, .int .i64 0, .int .i64 0, .int .i64 0, .int .i64 0, .slice none 0 0, .slice none 0 0, .int .i64 0, .slice none 0 0] := KZ.out.below HB3.out KZ.out.lt
  have KZ4 : Hid (Blk (((w3.setCell ⟨w.heap.size, 5, none⟩ (.slice (some ⟨g1, 0, none⟩) T.ni c1)).setCell ⟨w.heap.size, 6, none⟩ (.slice (some ⟨g2, 0, none⟩) T.no c2)).setCell ⟨w.heap.size, 8, none⟩ (.slice (some ⟨g3, 0, none⟩) T.nc c3)) (w.heap.size + 1) 26 #[.int .i64 0, .int .i64 0, .int .i64 0, .int .i64 0, .int .i64 0, .slice none 0 0, .slice none 0 0, .int .i64 0, .slice none 0 0]) := (T4.block _ KZ3.lt (by omega)).trans KZ3
  clear T4 KZ3 y5 y6 y8 z5 z6 z8 HS0 HS1 HS2 HS3
  simp only [List.setIfInBounds_toArray, List.set_cons_zero, List.set_cons_succ] at KF
  generalize (((w3.setCell ⟨w.heap.size, 5, none⟩ (.slice (some ⟨g1, 0, none⟩) T.ni c1)).setCell ⟨w.heap.size, 6, none⟩ (.slice (some ⟨g2, 0, none⟩) T.no c2)).setCell ⟨w.heap.size, 8, none⟩ (.slice (some ⟨g3, 0, none⟩) T.nc c3)) = w4 at *
  have k0 := KF.out.cell 0
  have l0 := KZ4.out.cell 0
  have k1 := KF.out.cell 1
  have l1 := KZ4.out.cell 1
  have k2 := KF.out.cell 2
  have l2 := KZ4.out.cell 2
  have k3 := KF.out.cell 3
  have l3 := KZ4.out.cell 3
  have k4 := KF.out.cell 4
  have l4 := KZ4.out.cell 4
  have k5 := KF.out.cell 5
  have l5 := KZ4.out.cell 5
  have k6 := KF.out.cell 6
  have l6 := KZ4.out.cell 6
  have k7 := KF.out.cell 7
  have l7 := KZ4.out.cell 7
  have k8 := KF.out.cell 8
  have l8 := KZ4.out.cell 8
  have fz := fun i => KZ4.out.frozen i
  simp only [List.getElem?_toArray, List.getElem?_cons_zero, List.getElem?_cons_succ] at k0 l0 k1 l1 k2 l2 k3 l3 k4 l4 k5 l5 k6 l6 k7 l7 k8 l8
  go_wp2_with fail
  have K9 := ((((((((KZ4.out.set_ 0 (.int .i64 T.start)).set_ 1 (.int .i64 T.slots)).set_ 2 (.int .i64 T.backs)).set_ 3 (.int .i64 T.grow)).set_ 4 (.int .i64 T.growBack)).set_ 5 (.slice (some ⟨g1, 0, none⟩) T.ni c1)).set_ 6 (.slice (some ⟨g2, 0, none⟩) T.no c2)).set_ 7 (.int .i64 T.last)).set_ 8 (.slice (some ⟨g3, 0, none⟩) T.nc c3)
  simp only [List.setIfInBounds_toArray, List.set_cons_zero, List.set_cons_succ] at K9
  have T9 := ((((((((Rs.set_touch w4 (w.heap.size + 1) 0 (.int .i64 T.start)).trans (Rs.set_touch _ (w.heap.size + 1) 1 (.int .i64 T.slots)) (fun _ h => .inl h)).trans (Rs.set_touch _ (w.heap.size + 1) 2 (.int .i64 T.backs)) (fun _ h => .inl h)).trans (Rs.set_touch _ (w.heap.size + 1) 3 (.int .i64 T.grow)) (fun _ h => .inl h)).trans (Rs.set_touch _ (w.heap.size + 1) 4 (.int .i64 T.growBack)) (fun _ h => .inl h)).trans (Rs.set_touch _ (w.heap.size + 1) 5 (.slice (some ⟨g1, 0, none⟩) T.ni c1)) (fun _ h => .inl h)).trans (Rs.set_touch _ (w.heap.size + 1) 6 (.slice (some ⟨g2, 0, none⟩) T.no c2)) (fun _ h => .inl h)).trans (Rs.set_touch _ (w.heap.size + 1) 7 (.int .i64 T.last)) (fun _ h => .inl h)).trans (Rs.set_touch _ (w.heap.size + 1) 8 (.slice (some ⟨g3, 0, none⟩) T.nc c3)) (fun _ h => .inl h)
  have T8 := Lib.hid T9
  have K8 := Lib.hid K9
  clear K9 T9 fz k0 l0 k1 l1 k2 l2 k3 l3 k4 l4 k5 l5 k6 l6 k7 l7 k8 l8
  generalize (((((((((w4.setCell ⟨w.heap.size + 1, 0, none⟩ (.int .i64 T.start)).setCell ⟨w.heap.size + 1, 1, none⟩ (.int .i64 T.slots)).setCell ⟨w.heap.size + 1, 2, none⟩ (.int .i64 T.backs)).setCell ⟨w.heap.size + 1, 3, none⟩ (.int .i64 T.grow)).setCell ⟨w.heap.size + 1, 4, none⟩ (.int .i64 T.growBack)).setCell ⟨w.heap.size + 1, 5, none⟩ (.slice (some ⟨g1, 0, none⟩) T.ni c1)).setCell ⟨w.heap.size + 1, 6, none⟩ (.slice (some ⟨g2, 0, none⟩) T.no c2)).setCell ⟨w.heap.size + 1, 7, none⟩ (.int .i64 T.last)).setCell ⟨w.heap.size + 1, 8, none⟩ (.slice (some ⟨g3, 0, none⟩) T.nc c3)) = w5 at *
  have k0 := K8.out.cell 0
  have k1 := K8.out.cell 1
  have k2 := K8.out.cell 2
  have k3 := K8.out.cell 3
  have k4 := K8.out.cell 4
  have k5 := K8.out.cell 5
  have k6 := K8.out.cell 6
  have k7 := K8.out.cell 7
  have k8 := K8.out.cell 8
  simp only [List.getElem?_toArray, List.getElem?_cons_zero, List.getElem?_cons_succ] at k0 k1 k2 k3 k4 k5 k6 k7 k8
  have T5 : Touch w3 w5 (fun k => k = w.heap.size ∨ k = w.heap.size + 1) := (TT.out.mono (fun _ h => .inl (.inl h))).trans T8.out (fun _ h => .inl (.inr h))
  have ha : w.heap.size + 2 ≤ wa.heap.size := HL2.out
  have hs1 : wa.heap.size ≤ w1.heap.size := HB1.out.size
  have hs2 : wa.heap.size ≤ w2.heap.size := HB2.out.size
  have hs3 : wa.heap.size ≤ w3.heap.size := HB3.out.size
  have S1 : Touch w1 w5 (fun k => k < wa.heap.size) := ((Touch.of_below HD2.out (fun k => k < wa.heap.size)).trans (Touch.of_below HD3.out (fun k => k < wa.heap.size)) (fun _ h => .inl h)).trans T5 (fun k h => .inl (by show k < _; omega))
  have S2 : Touch w2 w5 (fun k => k < w1.heap.size) := (Touch.of_below HD3.out (fun k => k < w1.heap.size)).trans T5 (fun k h => .inl (by show k < _; omega))
  have S3 : Touch w3 w5 (fun k => k < w2.heap.size) := T5.mono (fun k h => .inl (by show k < _; omega))
  have i1 := HI1.out w5 S1
  have i2 := HI2.out w5 S2
  have i3 := HI3.out w5 S3
  have HLent : Hid (Lent w5 w5.heap.size T g1 c1 g2 c2 g3 c3) := ⟨⟨i1.1, i2.1, i3.1, HA.out.fewI, HA.out.fewO, HA.out.fewC⟩, cell_lt i1.2, cell_lt i2.2, cell_lt i3.2, HC1.out, HC2.out, HC3.out, i1.2, i2.2, i3.2⟩
  have HBel : Hid (Below w.heap.size w w5) := (HBa.out.trans (HB3.out.mono HBa.out.size)).trans (T5.below (fun k h => by omega) (by omega : w.heap.size ≤ w3.heap.size))
  clear T5 ha hs1 hs2 S1 S2 S3 i1 i2 i3 HI1 HI2 HI3 HD1 HD2 HD3 HB1 HB2 HB3 T8 TT KZ4 KF KZ KB HA HBa HC1 HC2 HC3
  go_wp2_with fail
  have HI : (Tryz.prog.info? 26).map (fun i => i.size) = some 9 := by kernel_rfl
  refine bodyPost_ret (results_cell_row rfl _ _ (w.heap.size + 1) _ _ (0, 0) _ rfl K8.out Tryz.underlying26 rfl HI) rfl ⟨g1, c1, g2, c2, g3, c3, rfl, HLent.out, HBel.out⟩

set_option maxHeartbeats 4000000 in
set_option maxRecDepth 100000 in
theorem stays_codes (g : Nat) (A : Option Addr) (n c c2 : Nat) (f : Nat → Ins) (B B' : Nat) (w : World) (h : InsAt w B (some ⟨g, 0, none⟩) n f) (h2 : InsAt w B' A n f) (hn : n ≤ 300) (hc : n + 1 ≤ c) (hx : w.cell? ⟨g, n * 5, none⟩ = some (.int .i64 (-77))) :
    Calls Tryz.prog 49 #[.slice (some ⟨g, 0, none⟩) n c, .slice A n c2] w fun e w' => e = .returned (.bool true) ∧ ∃ q, w' = w.drewN q := by
  have HS := Lib.hid (same_codes (some ⟨g, 0, none⟩) A n n c c2 f f B B' true w h h2 (by omega) (by omega) ⟨fun _ => ⟨rfl, fun _ _ => rfl⟩, fun _ => rfl⟩)
  have i1 : (n : Int) + 1 ≤ (c : Int) := by omega
  have i2 : (n : Int) < (n : Int) + 1 := by omega
  have HX := Lib.hid hx
  clear h h2 hx
  go_enter Tryz.func49, Tryz.ntmps49
  go_wp2_with fail
  refine HS.out.mono ?_
  rintro e w1 ⟨rfl, q, rfl⟩
  have x1 : (w.drewN q).cell? ⟨g, n * 5, none⟩ = some (.int .i64 (-77)) := HX.out
  go_wp2_with fail
  go_ret
  exact ⟨rfl, q, rfl⟩
set_option maxHeartbeats 4000000 in
set_option maxRecDepth 100000 in
theorem stays_exits (g : Nat) (A : Option Addr) (n c c2 : Nat) (f : Nat → Ou) (B B' : Nat) (w : World) (h : OutsAt w B (some ⟨g, 0, none⟩) n f) (h2 : OutsAt w B' A n f) (hn : n ≤ 300) (hc : n + 1 ≤ c) (hx : w.cell? ⟨g, n * 4, none⟩ = some (.int .i64 (-77))) :
    Calls Tryz.prog 50 #[.slice (some ⟨g, 0, none⟩) n c, .slice A n c2] w fun e w' => e = .returned (.bool true) ∧ ∃ q, w' = w.drewN q := by
  have HS := Lib.hid (same_exits (some ⟨g, 0, none⟩) A n n c c2 f f B B' true w h h2 (by omega) (by omega) ⟨fun _ => ⟨rfl, fun _ _ => ⟨rfl, rfl, ⟨rfl, fun _ _ => rfl⟩, ⟨rfl, fun _ _ => rfl⟩⟩⟩, fun _ => rfl⟩)
  have i1 : (n : Int) + 1 ≤ (c : Int) := by omega
  have i2 : (n : Int) < (n : Int) + 1 := by omega
  have HX := Lib.hid hx
  clear h h2 hx
  go_enter Tryz.func50, Tryz.ntmps50
  go_wp2_with fail
  refine HS.out.mono ?_
  rintro e w1 ⟨rfl, q, rfl⟩
  have x1 : (w.drewN q).cell? ⟨g, n * 4, none⟩ = some (.int .i64 (-77)) := HX.out
  go_wp2_with fail
  go_ret
  exact ⟨rfl, q, rfl⟩
set_option maxHeartbeats 4000000 in
set_option maxRecDepth 100000 in
theorem stays_ints (g : Nat) (A : Option Addr) (n c c2 : Nat) (f : Nat → Int) (B B' : Nat) (w : World) (h : IntsAt w B (some ⟨g, 0, none⟩) n f) (h2 : IntsAt w B' A n f) (hn : n ≤ 300) (hc : n + 1 ≤ c) (hx : w.cell? ⟨g, n, none⟩ = some (.int .i64 (-77))) :
    Calls Tryz.prog 51 #[.slice (some ⟨g, 0, none⟩) n c, .slice A n c2] w fun e w' => e = .returned (.bool true) ∧ ∃ q, w' = w.drewN q := by
  have HS := Lib.hid (same_ints (some ⟨g, 0, none⟩) A n n c c2 f f B B' true w h h2 (by omega) (by omega) ⟨fun _ => ⟨rfl, fun _ _ => rfl⟩, fun _ => rfl⟩)
  have i1 : (n : Int) + 1 ≤ (c : Int) := by omega
  have i2 : (n : Int) < (n : Int) + 1 := by omega
  have HX := Lib.hid hx
  clear h h2 hx
  go_enter Tryz.func51, Tryz.ntmps51
  go_wp2_with fail
  refine HS.out.mono ?_
  rintro e w1 ⟨rfl, q, rfl⟩
  have x1 : (w.drewN q).cell? ⟨g, n, none⟩ = some (.int .i64 (-77)) := HX.out
  go_wp2_with fail
  go_ret
  exact ⟨rfl, q, rfl⟩

end Go.Proofs.YtoaidcjjjoafjaaGreatDoor.Ir
