/-
  Lemmas on the way, for every input that they name: OoR, OoB, OrA, OrB, OrC, OrD, OrE.
-/
import Derived.Test.YtompdfpjmdnhoabGreatDoorQ12
import Derived.Test.YtompdfpjmdnhoabGreatDoorQ25
import Derived.Test.YtompdfpjmdnhoabGreatDoorQ27
import Derived.Test.YtompdfpjmdnhoabGreatDoorQ29
import Derived.Test.YtompdfpjmdnhoabGreatDoorQ30
import Derived.Test.YtompdfpjmdnhoabGreatDoorQ32
set_option linter.unusedVariables false
set_option linter.unusedSimpArgs false
set_option linter.deprecated false
namespace Go.Proofs.YtompdfpjmdnhoabGreatDoor.Ou
open Go.RowKit Go.Proofs.YtompdfpjmdnhoabGreatDoor.Rs Go.Proofs.YtompdfpjmdnhoabGreatDoor.Src
theorem blk_range {w : World} {ob : Nat} {L : Lo} {o : OS} (K : Blk w ob 47 (oCells L o)) : w.rangeAt ob 0 (Mc.sCells L.sv L.bv L.mv o.m).toList := fun j v hj => by
  have h := K.cell j
  rw [oCells_split, List.getElem?_toArray, List.getElem?_append_left (List.getElem?_eq_some_iff.1 hj).1] at h
  rw [Nat.zero_add, h]
  exact hj
set_option maxHeartbeats 4000000 in
set_option maxRecDepth 100000 in
theorem found_any (B ob : Nat) (L : Lo) (o : OS) (w : World) (H : OIs w B ob L o) (W : Wo o) (hB : B ≤ w.heap.size) (x : Wd) :
    Calls Tryz.prog 40 #[.pointer (some ⟨ob, 0, none⟩), .agg (wdC x)] w (Did w B ob L o (found o x)) := by
  have T1 := Turns.lone H.held (.cells (wdC x) 62)
  have H1 := H.alloc (.cells (wdC x) 62)
  have HT1 := Lib.hid T1
  have HB1 := Lib.hid (Nat.le_trans hB T1.size)
  have HX := Lib.hid (Blk.new w 62 (wdC x))
  unfold found
  by_cases hc : o.draft.isSome = false ∨ x.imm = true
  · rw [if_pos hc]
    have hns := W.m.ns
    have hnb := W.m.nb
    have hnm := W.m.nm
    have HE := Lib.hid (fun q => Mc.enter_any B L.sv L.bv L.mv o.m x.xt ((w.alloc (.cells (wdC x) 62)).drewN q) (H1.drewN q).rows (by omega) (by omega) (by omega))
    have HH1 := Lib.hid H1
    have hp : 0 < (Mc.enter o.m x.xt).mem.length := H.lok.pos
    have HPos := Lib.hid hp
    rcases (show o.draft = none ∨ ∃ d, o.draft = some d by cases o.draft with | none => exact .inl rfl | some d => exact .inr ⟨d, rfl⟩) with hd | ⟨d, hd⟩
    · skip
      have c14 := draft_none H1 hd
      clear hns hnb hnm T1 H1 H hB W hp hc hd
      unfold wdC at *
      go_enter Tryz.func40, Tryz.ntmps40
      go_upto_region 2 with fail
      clear c14
      have HS0 : Hid ((fun W : World => W.rangeAt ob 0 (Mc.sCells L.sv L.bv L.mv o.m).toList ∧ W.cell? ⟨w.heap.size, 1, none⟩ = some (.int .i64 x.xt)) (w.alloc (.cells #[.string x.name, .int .i64 x.xt, .int .i64 x.op, .bool x.imm] 62)).drew) := ⟨(World.rangeAt_drew _ _ _ _).2 HH1.out.range, HX.out.cell 1⟩
      have HS1 := HS0.out
      refine Pb.wp_region_U (fun i => decide (i < 9) && i != 1) (fun W : World => W.rangeAt ob 0 (Mc.sCells L.sv L.bv L.mv o.m).toList ∧ W.cell? ⟨w.heap.size, 1, none⟩ = some (.int .i64 x.xt)) (by kernel_rfl) ?_
      change Pb.wpU _ _ _ _ _ _ 15 #[false, false, false, false, false, false, false, false, false, false, false, false, false, false, false] _ _
      refine Pb.U_pure (i := 1) (oi := { dst := some 16, op := .move (.tmp 0), type := 27, pos := "outer.go:193", after := #[{ on := 11, ground := .gcOnly .lateStores }], guard := none }) (v := .pointer (some ⟨ob, 0, none⟩)) rfl (by kernel_rfl) (by kernel_rfl) (by kernel_rfl) (by decide) (fun _ _ _ h => h) (Or.inl ⟨by rfl, ?_⟩) ?_
      · intro W hSw; (try dsimp only at hSw); go_simp
      simp only [Act.put, List.setIfInBounds_toArray, List.set_cons_zero, List.set_cons_succ]
      refine Pb.U_take (i := 0) (oi := { dst := some 15, op := .move (.tmp 0), type := 27, pos := "outer.go:193", after := #[], guard := none }) (v := .pointer (some ⟨ob, 0, none⟩)) rfl (by kernel_rfl) (by kernel_rfl) (by kernel_rfl) (by kernel_rfl) (fun _ _ _ h => h) (Or.inl ⟨by rfl, ?_⟩) (by assumption) ?_
      · intro W hSw; (try dsimp only at hSw); go_simp
      simp only [Act.put, List.setIfInBounds_toArray, List.set_cons_zero, List.set_cons_succ]
      refine Pb.U_take (i := 2) (oi := { dst := some 17, op := .move (.tmp 0), type := 27, pos := "outer.go:193", after := #[], guard := none }) (v := .pointer (some ⟨ob, 0, none⟩)) rfl (by kernel_rfl) (by kernel_rfl) (by kernel_rfl) (by kernel_rfl) (fun _ _ _ h => h) (Or.inl ⟨by rfl, ?_⟩) (by assumption) ?_
      · intro W hSw; (try dsimp only at hSw); go_simp
      simp only [Act.put, List.setIfInBounds_toArray, List.set_cons_zero, List.set_cons_succ]
      refine Pb.U_take (i := 3) (oi := { dst := some 18, op := .nilCheck (.tmp 17), type := 0, pos := "outer.go:193", after := #[{ on := 2, ground := .data }], guard := none }) (v := .pointer (some ⟨ob, 0, none⟩)) rfl (by kernel_rfl) (by kernel_rfl) (by kernel_rfl) (by kernel_rfl) (fun _ _ _ h => h) (Or.inl ⟨by rfl, ?_⟩) (by assumption) ?_
      · intro W hSw; (try dsimp only at hSw); go_simp
      simp only [Act.put, List.setIfInBounds_toArray, List.set_cons_zero, List.set_cons_succ]
      refine Pb.U_take (i := 4) (oi := { dst := some 19, op := .fieldAddr 47 (.tmp 18) 0, type := 0, pos := "outer.go:193", after := #[{ on := 3, ground := .data }], guard := none }) (v := .pointer (some ⟨ob, 0, none⟩)) rfl (by kernel_rfl) (by kernel_rfl) (by kernel_rfl) (by kernel_rfl) (fun _ _ _ h => h) (Or.inl ⟨by rfl, ?_⟩) (by assumption) ?_
      · intro W hSw; (try dsimp only at hSw); go_simp
      simp only [Act.put, List.setIfInBounds_toArray, List.set_cons_zero, List.set_cons_succ]
      refine Pb.U_take (i := 5) (oi := { dst := some 20, op := .load 33 (.tmp 19), type := 33, pos := "outer.go:193", after := #[{ on := 4, ground := .data }], guard := none }) (v := .agg (Mc.sCells L.sv L.bv L.mv o.m)) rfl (by kernel_rfl) (by kernel_rfl) (by kernel_rfl) (by kernel_rfl) (fun _ _ _ h => h) (yieldsIf_load_mid (by rfl) 33 (.tmp 19) rfl ob 0 rfl (Mc.sCells L.sv L.bv L.mv o.m).toList _ (fun _ h => h.1) Tryz.underlying33 rfl (sCells_info _ _ _ _)) (by assumption) ?_
      simp only [Act.put, List.setIfInBounds_toArray, List.set_cons_zero, List.set_cons_succ]
      refine Pb.U_take (i := 6) (oi := { dst := some 21, op := .fieldAddr 62 (.tmp 3) 1, type := 0, pos := "outer.go:193", after := #[], guard := none }) (v := .pointer (some ⟨w.heap.size, 1, none⟩)) rfl (by kernel_rfl) (by kernel_rfl) (by kernel_rfl) (by kernel_rfl) (fun _ _ _ h => h) (Or.inl ⟨by rfl, ?_⟩) (by assumption) ?_
      · intro W hSw; (try dsimp only at hSw); go_simp
      simp only [Act.put, List.setIfInBounds_toArray, List.set_cons_zero, List.set_cons_succ]
      refine Pb.U_take (i := 7) (oi := { dst := some 22, op := .load 3 (.tmp 21), type := 3, pos := "outer.go:193", after := #[{ on := 6, ground := .data }], guard := none }) (v := .int .i64 x.xt) rfl (by kernel_rfl) (by kernel_rfl) (by kernel_rfl) (by kernel_rfl) (fun _ _ _ h => h) (Or.inl ⟨by rfl, ?_⟩) (by assumption) ?_
      · intro W hSw; (try dsimp only at hSw); go_simp
      simp only [Act.put, List.setIfInBounds_toArray, List.set_cons_zero, List.set_cons_succ]
      refine Pb.U_ready (rs := [8]) (by kernel_rfl) (by simp) ?_
      refine Pb.AllReadyU.cons rfl (fun K hK => ?_) Pb.AllReadyU.nil
      go_simp
      refine (HE.out 1).mono ?_
      rintro e w2 ⟨sv2, bv2, mv2, rfl, H2, t2⟩
      obtain ⟨N, K, kb⟩ := machine_turns (HH1.out.drewN 1) HB1.out H2 t2 HPos.out
      have HN := Lib.hid N
      have HK0 := Lib.hid K
      have HT := Lib.hid (blk_there kb)
      have HI := Lib.hid (sCells_info sv2 bv2 mv2 (Mc.enter o.m x.xt))
      have HO := Lib.hid (rows_one H2)
      have HS2 := Lib.hid (show (fun W : World => W.rangeAt ob 0 (Mc.sCells L.sv L.bv L.mv o.m).toList ∧ W.cell? ⟨w.heap.size, 1, none⟩ = some (.int .i64 x.xt)) w2 from ⟨blk_range kb, ((HX.out.drewN 1).below t2 (HX.out.drewN 1).lt).cell 1⟩)
      clear N K kb H2 t2 HE HS0 HS1
      refine hK.out _ _ (fun _ => HS2.out) ?_
      clear hK K
      simp only [Act.put, List.setIfInBounds_toArray, List.set_cons_zero, List.set_cons_succ]
      refine Pb.U_pure (i := 9) (oi := { dst := some 24, op := .nilCheck (.tmp 15), type := 0, pos := "outer.go:193", after := #[{ on := 0, ground := .data }, { on := 0, ground := .phase }, { on := 1, ground := .textOnly .lateStores }, { on := 2, ground := .phase }, { on := 3, ground := .phase }, { on := 4, ground := .phase }, { on := 5, ground := .phase }, { on := 6, ground := .phase }, { on := 7, ground := .phase }, { on := 8, ground := .phase }], guard := none }) (v := .pointer (some ⟨ob, 0, none⟩)) rfl (by kernel_rfl) (by kernel_rfl) (by kernel_rfl) (by decide) (fun _ _ _ h => h) (Or.inl ⟨by rfl, ?_⟩) ?_
      · intro W hSw; (try dsimp only at hSw); go_simp
      simp only [Act.put, List.setIfInBounds_toArray, List.set_cons_zero, List.set_cons_succ]
      refine Pb.U_pure (i := 10) (oi := { dst := some 25, op := .fieldAddr 47 (.tmp 24) 0, type := 0, pos := "outer.go:193", after := #[{ on := 9, ground := .data }, { on := 0, ground := .phase }, { on := 1, ground := .textOnly .lateStores }, { on := 2, ground := .phase }, { on := 3, ground := .phase }, { on := 4, ground := .phase }, { on := 5, ground := .phase }, { on := 6, ground := .phase }, { on := 7, ground := .phase }, { on := 8, ground := .phase }], guard := none }) (v := .pointer (some ⟨ob, 0, none⟩)) rfl (by kernel_rfl) (by kernel_rfl) (by kernel_rfl) (by decide) (fun _ _ _ h => h) (Or.inl ⟨by rfl, ?_⟩) ?_
      · intro W hSw; (try dsimp only at hSw); go_simp
      simp only [Act.put, List.setIfInBounds_toArray, List.set_cons_zero, List.set_cons_succ]
      refine Pb.U_ready (rs := [11]) (by kernel_rfl) (by simp) ?_
      refine Pb.AllReadyU.cons rfl (fun K hK => ?_) Pb.AllReadyU.nil
      rw [if_pos (by kernel_rfl)]
      refine wp_store_mid _ _ _ rfl ob 0 (Mc.sCells sv2 bv2 mv2 (Mc.enter o.m x.xt)) rfl rfl HT.out HI.out HO.out ?_
      refine hK.out _ _ (fun h => absurd h (by decide)) ?_
      clear hK K
      simp only [Act.put, List.setIfInBounds_toArray, List.set_cons_zero, List.set_cons_succ]
      have I3 := Lib.hid ((HH1.out.drewN 1).next HN.out HK0.out)
      have TT := Lib.hid ((HT1.out.drewN 1).trans HN.out)
      clear HS2 HN HK0 HT HI HO
      generalize w2.setCells ob 0 (Mc.sCells sv2 bv2 mv2 (Mc.enter o.m x.xt)).toList = w3 at *
      have c15 := I3.out.cell 15
      simp only [oCells, List.getElem?_toArray, List.getElem?_cons_zero, List.getElem?_cons_succ] at c15
      have f15 := I3.out.frozen 15
      refine Pb.U_pure (i := 12) (oi := { dst := some 26, op := .nilCheck (.tmp 16), type := 0, pos := "outer.go:193", after := #[{ on := 1, ground := .data }, { on := 0, ground := .phase }, { on := 1, ground := .phase }, { on := 2, ground := .phase }, { on := 3, ground := .phase }, { on := 4, ground := .phase }, { on := 5, ground := .phase }, { on := 6, ground := .phase }, { on := 7, ground := .phase }, { on := 8, ground := .phase }, { on := 9, ground := .phase }, { on := 10, ground := .phase }, { on := 11, ground := .phase }], guard := none }) (v := .pointer (some ⟨ob, 0, none⟩)) rfl (by kernel_rfl) (by kernel_rfl) (by kernel_rfl) (by decide) (fun _ _ _ h => h) (Or.inl ⟨by rfl, ?_⟩) ?_
      · intro W hSw; (try dsimp only at hSw); go_simp
      simp only [Act.put, List.setIfInBounds_toArray, List.set_cons_zero, List.set_cons_succ]
      refine Pb.U_pure (i := 13) (oi := { dst := some 27, op := .fieldAddr 47 (.tmp 26) 6, type := 0, pos := "outer.go:193", after := #[{ on := 12, ground := .data }, { on := 0, ground := .phase }, { on := 1, ground := .phase }, { on := 2, ground := .phase }, { on := 3, ground := .phase }, { on := 4, ground := .phase }, { on := 5, ground := .phase }, { on := 6, ground := .phase }, { on := 7, ground := .phase }, { on := 8, ground := .phase }, { on := 9, ground := .phase }, { on := 10, ground := .phase }, { on := 11, ground := .phase }], guard := none }) (v := .pointer (some ⟨ob, 15, none⟩)) rfl (by kernel_rfl) (by kernel_rfl) (by kernel_rfl) (by decide) (fun _ _ _ h => h) (Or.inl ⟨by rfl, ?_⟩) ?_
      · intro W hSw; (try dsimp only at hSw); go_simp
      simp only [Act.put, List.setIfInBounds_toArray, List.set_cons_zero, List.set_cons_succ]
      refine Pb.U_ready (rs := [14]) (by kernel_rfl) (by simp) ?_
      refine Pb.AllReadyU.cons rfl (fun K hK => ?_) Pb.AllReadyU.nil
      go_simp
      refine hK.out _ _ (fun h => absurd h (by decide)) ?_
      clear hK K
      simp only [Act.put, List.setIfInBounds_toArray, List.set_cons_zero, List.set_cons_succ]
      refine Pb.U_done (by kernel_rfl) ?_ _
      go_simp
      have NN := Lib.hid (Nx.step TT.out (o_runs I3.out true))
      clear c15 f15 I3 TT
      go_wp2_with fail
      go_ret
      exact ⟨rfl, NN.out⟩
    · skip
      have himm : x.imm = true := by
        rcases hc with hc | hc
        · rw [hd] at hc; cases hc
        · exact hc
      have c14 := draft_cell H1 hd
      have x3 := HX.out.cell 3
      clear hns hnb hnm T1 H1 H hB W hp hc hd
      obtain ⟨xn, xt, xo, xi⟩ := x
      dsimp only at himm
      subst himm
      unfold wdC at *
      dsimp only at *
      simp only [List.getElem?_toArray, List.getElem?_cons_zero, List.getElem?_cons_succ] at x3
      go_enter Tryz.func40, Tryz.ntmps40
      go_upto_region 2 with fail
      clear c14 x3
      have HS0 : Hid ((fun W : World => W.rangeAt ob 0 (Mc.sCells L.sv L.bv L.mv o.m).toList ∧ W.cell? ⟨w.heap.size, 1, none⟩ = some (.int .i64 xt)) (w.alloc (.cells #[.string xn, .int .i64 xt, .int .i64 xo, .bool true] 62)).drew) := ⟨(World.rangeAt_drew _ _ _ _).2 HH1.out.range, HX.out.cell 1⟩
      have HS1 := HS0.out
      refine Pb.wp_region_U (fun i => decide (i < 9) && i != 1) (fun W : World => W.rangeAt ob 0 (Mc.sCells L.sv L.bv L.mv o.m).toList ∧ W.cell? ⟨w.heap.size, 1, none⟩ = some (.int .i64 xt)) (by kernel_rfl) ?_
      change Pb.wpU _ _ _ _ _ _ 15 #[false, false, false, false, false, false, false, false, false, false, false, false, false, false, false] _ _
      refine Pb.U_pure (i := 1) (oi := { dst := some 16, op := .move (.tmp 0), type := 27, pos := "outer.go:193", after := #[{ on := 11, ground := .gcOnly .lateStores }], guard := none }) (v := .pointer (some ⟨ob, 0, none⟩)) rfl (by kernel_rfl) (by kernel_rfl) (by kernel_rfl) (by decide) (fun _ _ _ h => h) (Or.inl ⟨by rfl, ?_⟩) ?_
      · intro W hSw; (try dsimp only at hSw); go_simp
      simp only [Act.put, List.setIfInBounds_toArray, List.set_cons_zero, List.set_cons_succ]
      refine Pb.U_take (i := 0) (oi := { dst := some 15, op := .move (.tmp 0), type := 27, pos := "outer.go:193", after := #[], guard := none }) (v := .pointer (some ⟨ob, 0, none⟩)) rfl (by kernel_rfl) (by kernel_rfl) (by kernel_rfl) (by kernel_rfl) (fun _ _ _ h => h) (Or.inl ⟨by rfl, ?_⟩) (by assumption) ?_
      · intro W hSw; (try dsimp only at hSw); go_simp
      simp only [Act.put, List.setIfInBounds_toArray, List.set_cons_zero, List.set_cons_succ]
      refine Pb.U_take (i := 2) (oi := { dst := some 17, op := .move (.tmp 0), type := 27, pos := "outer.go:193", after := #[], guard := none }) (v := .pointer (some ⟨ob, 0, none⟩)) rfl (by kernel_rfl) (by kernel_rfl) (by kernel_rfl) (by kernel_rfl) (fun _ _ _ h => h) (Or.inl ⟨by rfl, ?_⟩) (by assumption) ?_
      · intro W hSw; (try dsimp only at hSw); go_simp
      simp only [Act.put, List.setIfInBounds_toArray, List.set_cons_zero, List.set_cons_succ]
      refine Pb.U_take (i := 3) (oi := { dst := some 18, op := .nilCheck (.tmp 17), type := 0, pos := "outer.go:193", after := #[{ on := 2, ground := .data }], guard := none }) (v := .pointer (some ⟨ob, 0, none⟩)) rfl (by kernel_rfl) (by kernel_rfl) (by kernel_rfl) (by kernel_rfl) (fun _ _ _ h => h) (Or.inl ⟨by rfl, ?_⟩) (by assumption) ?_
      · intro W hSw; (try dsimp only at hSw); go_simp
      simp only [Act.put, List.setIfInBounds_toArray, List.set_cons_zero, List.set_cons_succ]
      refine Pb.U_take (i := 4) (oi := { dst := some 19, op := .fieldAddr 47 (.tmp 18) 0, type := 0, pos := "outer.go:193", after := #[{ on := 3, ground := .data }], guard := none }) (v := .pointer (some ⟨ob, 0, none⟩)) rfl (by kernel_rfl) (by kernel_rfl) (by kernel_rfl) (by kernel_rfl) (fun _ _ _ h => h) (Or.inl ⟨by rfl, ?_⟩) (by assumption) ?_
      · intro W hSw; (try dsimp only at hSw); go_simp
      simp only [Act.put, List.setIfInBounds_toArray, List.set_cons_zero, List.set_cons_succ]
      refine Pb.U_take (i := 5) (oi := { dst := some 20, op := .load 33 (.tmp 19), type := 33, pos := "outer.go:193", after := #[{ on := 4, ground := .data }], guard := none }) (v := .agg (Mc.sCells L.sv L.bv L.mv o.m)) rfl (by kernel_rfl) (by kernel_rfl) (by kernel_rfl) (by kernel_rfl) (fun _ _ _ h => h) (yieldsIf_load_mid (by rfl) 33 (.tmp 19) rfl ob 0 rfl (Mc.sCells L.sv L.bv L.mv o.m).toList _ (fun _ h => h.1) Tryz.underlying33 rfl (sCells_info _ _ _ _)) (by assumption) ?_
      simp only [Act.put, List.setIfInBounds_toArray, List.set_cons_zero, List.set_cons_succ]
      refine Pb.U_take (i := 6) (oi := { dst := some 21, op := .fieldAddr 62 (.tmp 3) 1, type := 0, pos := "outer.go:193", after := #[], guard := none }) (v := .pointer (some ⟨w.heap.size, 1, none⟩)) rfl (by kernel_rfl) (by kernel_rfl) (by kernel_rfl) (by kernel_rfl) (fun _ _ _ h => h) (Or.inl ⟨by rfl, ?_⟩) (by assumption) ?_
      · intro W hSw; (try dsimp only at hSw); go_simp
      simp only [Act.put, List.setIfInBounds_toArray, List.set_cons_zero, List.set_cons_succ]
      refine Pb.U_take (i := 7) (oi := { dst := some 22, op := .load 3 (.tmp 21), type := 3, pos := "outer.go:193", after := #[{ on := 6, ground := .data }], guard := none }) (v := .int .i64 xt) rfl (by kernel_rfl) (by kernel_rfl) (by kernel_rfl) (by kernel_rfl) (fun _ _ _ h => h) (Or.inl ⟨by rfl, ?_⟩) (by assumption) ?_
      · intro W hSw; (try dsimp only at hSw); go_simp
      simp only [Act.put, List.setIfInBounds_toArray, List.set_cons_zero, List.set_cons_succ]
      refine Pb.U_ready (rs := [8]) (by kernel_rfl) (by simp) ?_
      refine Pb.AllReadyU.cons rfl (fun K hK => ?_) Pb.AllReadyU.nil
      go_simp
      refine (HE.out 1).mono ?_
      rintro e w2 ⟨sv2, bv2, mv2, rfl, H2, t2⟩
      obtain ⟨N, K, kb⟩ := machine_turns (HH1.out.drewN 1) HB1.out H2 t2 HPos.out
      have HN := Lib.hid N
      have HK0 := Lib.hid K
      have HT := Lib.hid (blk_there kb)
      have HI := Lib.hid (sCells_info sv2 bv2 mv2 (Mc.enter o.m xt))
      have HO := Lib.hid (rows_one H2)
      have HS2 := Lib.hid (show (fun W : World => W.rangeAt ob 0 (Mc.sCells L.sv L.bv L.mv o.m).toList ∧ W.cell? ⟨w.heap.size, 1, none⟩ = some (.int .i64 xt)) w2 from ⟨blk_range kb, ((HX.out.drewN 1).below t2 (HX.out.drewN 1).lt).cell 1⟩)
      clear N K kb H2 t2 HE HS0 HS1
      refine hK.out _ _ (fun _ => HS2.out) ?_
      clear hK K
      simp only [Act.put, List.setIfInBounds_toArray, List.set_cons_zero, List.set_cons_succ]
      refine Pb.U_pure (i := 9) (oi := { dst := some 24, op := .nilCheck (.tmp 15), type := 0, pos := "outer.go:193", after := #[{ on := 0, ground := .data }, { on := 0, ground := .phase }, { on := 1, ground := .textOnly .lateStores }, { on := 2, ground := .phase }, { on := 3, ground := .phase }, { on := 4, ground := .phase }, { on := 5, ground := .phase }, { on := 6, ground := .phase }, { on := 7, ground := .phase }, { on := 8, ground := .phase }], guard := none }) (v := .pointer (some ⟨ob, 0, none⟩)) rfl (by kernel_rfl) (by kernel_rfl) (by kernel_rfl) (by decide) (fun _ _ _ h => h) (Or.inl ⟨by rfl, ?_⟩) ?_
      · intro W hSw; (try dsimp only at hSw); go_simp
      simp only [Act.put, List.setIfInBounds_toArray, List.set_cons_zero, List.set_cons_succ]
      refine Pb.U_pure (i := 10) (oi := { dst := some 25, op := .fieldAddr 47 (.tmp 24) 0, type := 0, pos := "outer.go:193", after := #[{ on := 9, ground := .data }, { on := 0, ground := .phase }, { on := 1, ground := .textOnly .lateStores }, { on := 2, ground := .phase }, { on := 3, ground := .phase }, { on := 4, ground := .phase }, { on := 5, ground := .phase }, { on := 6, ground := .phase }, { on := 7, ground := .phase }, { on := 8, ground := .phase }], guard := none }) (v := .pointer (some ⟨ob, 0, none⟩)) rfl (by kernel_rfl) (by kernel_rfl) (by kernel_rfl) (by decide) (fun _ _ _ h => h) (Or.inl ⟨by rfl, ?_⟩) ?_
      · intro W hSw; (try dsimp only at hSw); go_simp
      simp only [Act.put, List.setIfInBounds_toArray, List.set_cons_zero, List.set_cons_succ]
      refine Pb.U_ready (rs := [11]) (by kernel_rfl) (by simp) ?_
      refine Pb.AllReadyU.cons rfl (fun K hK => ?_) Pb.AllReadyU.nil
      rw [if_pos (by kernel_rfl)]
      refine wp_store_mid _ _ _ rfl ob 0 (Mc.sCells sv2 bv2 mv2 (Mc.enter o.m xt)) rfl rfl HT.out HI.out HO.out ?_
      refine hK.out _ _ (fun h => absurd h (by decide)) ?_
      clear hK K
      simp only [Act.put, List.setIfInBounds_toArray, List.set_cons_zero, List.set_cons_succ]
      have I3 := Lib.hid ((HH1.out.drewN 1).next HN.out HK0.out)
      have TT := Lib.hid ((HT1.out.drewN 1).trans HN.out)
      clear HS2 HN HK0 HT HI HO
      generalize w2.setCells ob 0 (Mc.sCells sv2 bv2 mv2 (Mc.enter o.m xt)).toList = w3 at *
      have c15 := I3.out.cell 15
      simp only [oCells, List.getElem?_toArray, List.getElem?_cons_zero, List.getElem?_cons_succ] at c15
      have f15 := I3.out.frozen 15
      refine Pb.U_pure (i := 12) (oi := { dst := some 26, op := .nilCheck (.tmp 16), type := 0, pos := "outer.go:193", after := #[{ on := 1, ground := .data }, { on := 0, ground := .phase }, { on := 1, ground := .phase }, { on := 2, ground := .phase }, { on := 3, ground := .phase }, { on := 4, ground := .phase }, { on := 5, ground := .phase }, { on := 6, ground := .phase }, { on := 7, ground := .phase }, { on := 8, ground := .phase }, { on := 9, ground := .phase }, { on := 10, ground := .phase }, { on := 11, ground := .phase }], guard := none }) (v := .pointer (some ⟨ob, 0, none⟩)) rfl (by kernel_rfl) (by kernel_rfl) (by kernel_rfl) (by decide) (fun _ _ _ h => h) (Or.inl ⟨by rfl, ?_⟩) ?_
      · intro W hSw; (try dsimp only at hSw); go_simp
      simp only [Act.put, List.setIfInBounds_toArray, List.set_cons_zero, List.set_cons_succ]
      refine Pb.U_pure (i := 13) (oi := { dst := some 27, op := .fieldAddr 47 (.tmp 26) 6, type := 0, pos := "outer.go:193", after := #[{ on := 12, ground := .data }, { on := 0, ground := .phase }, { on := 1, ground := .phase }, { on := 2, ground := .phase }, { on := 3, ground := .phase }, { on := 4, ground := .phase }, { on := 5, ground := .phase }, { on := 6, ground := .phase }, { on := 7, ground := .phase }, { on := 8, ground := .phase }, { on := 9, ground := .phase }, { on := 10, ground := .phase }, { on := 11, ground := .phase }], guard := none }) (v := .pointer (some ⟨ob, 15, none⟩)) rfl (by kernel_rfl) (by kernel_rfl) (by kernel_rfl) (by decide) (fun _ _ _ h => h) (Or.inl ⟨by rfl, ?_⟩) ?_
      · intro W hSw; (try dsimp only at hSw); go_simp
      simp only [Act.put, List.setIfInBounds_toArray, List.set_cons_zero, List.set_cons_succ]
      refine Pb.U_ready (rs := [14]) (by kernel_rfl) (by simp) ?_
      refine Pb.AllReadyU.cons rfl (fun K hK => ?_) Pb.AllReadyU.nil
      go_simp
      refine hK.out _ _ (fun h => absurd h (by decide)) ?_
      clear hK K
      simp only [Act.put, List.setIfInBounds_toArray, List.set_cons_zero, List.set_cons_succ]
      refine Pb.U_done (by kernel_rfl) ?_ _
      go_simp
      have NN := Lib.hid (Nx.step TT.out (o_runs I3.out true))
      clear c15 f15 I3 TT
      go_wp2_with fail
      go_ret
      exact ⟨rfl, NN.out⟩
  · rw [if_neg hc]
    obtain ⟨h1, h2⟩ := not_or.1 hc
    obtain ⟨d, hd⟩ : ∃ d, o.draft = some d := by cases h : o.draft with
      | none => rw [h] at h1; exact absurd rfl h1
      | some d => exact ⟨d, rfl⟩
    have himm : x.imm = false := by simpa using h2
    have c14 := draft_cell H1 hd
    have d0 : (w.alloc (.cells (wdC x) 62)).cell? ⟨L.db, 0, none⟩ = some (.pointer (some ⟨L.da.sb, 0, none⟩)) := (H1.dblk hd).cell 0
    have x1 := HX.out.cell 1
    have x2 := HX.out.cell 2
    have x3 := HX.out.cell 3
    have HO1 := Lib.hid ((op_did (H1.drewN 1) hd x.op).mono fun _ _ k => Did.pre (T1.drewN 1) k)
    have HO2 := Lib.hid ((call_did (H1.drewN 1) hd x.xt).mono fun _ _ k => Did.pre (T1.drewN 1) k)
    by_cases h0 : 0 ≤ x.op
    · rw [if_pos h0]
      have HO := HO1
      have hop : decide (0 ≤ x.op) = true := by simpa using h0
      clear T1 H1 H hB W hc hd h1 h2 HO1 HO2
      obtain ⟨xn, xt, xo, xi⟩ := x
      dsimp only at himm
      subst himm
      unfold wdC at *
      dsimp only at *
      simp only [List.getElem?_toArray, List.getElem?_cons_zero, List.getElem?_cons_succ] at x1 x2 x3
      go_enter Tryz.func40, Tryz.ntmps40
      go_upto_region 5 with fail
      go_region_with ((go_at_call 53; refine HO.out.mono ?_; rintro e w2 ⟨rfl, N⟩; have NN := Lib.hid N; clear N))
      all_goals
        go_wp2_with fail
        go_ret
        exact ⟨rfl, NN.out⟩
    · rw [if_neg h0]
      have HO := HO2
      have hop : decide (0 ≤ x.op) = false := by simpa using h0
      clear T1 H1 H hB W hc hd h1 h2 HO1 HO2
      obtain ⟨xn, xt, xo, xi⟩ := x
      dsimp only at himm
      subst himm
      unfold wdC at *
      dsimp only at *
      simp only [List.getElem?_toArray, List.getElem?_cons_zero, List.getElem?_cons_succ] at x1 x2 x3
      go_enter Tryz.func40, Tryz.ntmps40
      go_upto_region 6 with fail
      go_region_with ((go_at_call 54; refine HO.out.mono ?_; rintro e w2 ⟨rfl, N⟩; have NN := Lib.hid N; clear N))
      all_goals
        go_wp2_with fail
        go_ret
        exact ⟨rfl, NN.out⟩
end Go.Proofs.YtompdfpjmdnhoabGreatDoor.Ou
namespace Go.Proofs.YtompdfpjmdnhoabGreatDoor.Ou
open Go.RowKit Go.Proofs.YtompdfpjmdnhoabGreatDoor.Rs
set_option maxRecDepth 100000 in
set_option maxHeartbeats 1000000 in
theorem ogreat_any (s : ByteArray) (w : World) (hs : s.size ≤ 100000) :
    Calls Tryz.prog 55 #[.string s] w fun e w' => e = .returned (.string ⟨(ups s).toArray⟩) ∧ Below w.heap.size w w' := by
  go_enter Tryz.func55, Tryz.ntmps55
  go_wp2
  have hB0 : Lib.IsBuilder 117 5 w.heap.size w.heap.size (Lib.byteCells ((s.data.toList.take 0).map Wv.up)) (w.alloc (.cells #[.pointer none, .slice none 0 0] 117)) :=
    Or.inl ⟨Nat.le_refl _, .slice none 0 0, heap_alloc_new w _, World.ownsRow_nil _ _ _ _, by simp [Value.ownBlock]⟩
  have hb0 : Below w.heap.size w (w.alloc (.cells #[.pointer none, .slice none 0 0] 117)) := (Below.refl _ _).alloc (Nat.le_refl _) _
  have hz0 : w.heap.size + 1 ≤ (w.alloc (.cells #[.pointer none, .slice none 0 0] 117)).heap.size := by simp
  have HB0 := Lib.hid hB0
  have Hb0 := Lib.hid hb0
  clear hB0 hb0
  generalize hB : w.heap.size = B at *
  have HB := Lib.hid hB
  clear hB
  go_loopg [8] s.size (fun g v wr => ∃ j : Nat, g = s.size - j ∧ v = .int .i64 j ∧ j ≤ s.size ∧ Hid (Lib.IsBuilder 117 5 B B (Lib.byteCells ((s.data.toList.take j).map Wv.up)) wr) ∧ B + 1 ≤ wr.heap.size ∧ Hid (Below B w wr))
  case atStart => exact ⟨0, rfl, rfl, by omega, HB0, hz0, Hb0⟩
  case round =>
    obtain ⟨j, hg, rfl, hj, hbl, hsz, hb⟩ := hrel
    have Hg := Lib.hid hg
    clear hg
    by_cases hlt : j < s.size
    · have hlen : (Lib.byteCells ((s.data.toList.take j).map Wv.up)).length + 1 ≤ 140737488355328 := by
        have h1 : (s.data.toList.take j).length ≤ j := List.length_take_le _ _
        simp [Lib.byteCells]
        omega
      have Hlen := Lib.hid hlen
      clear hlen
      have Hst : Hid (Lib.byteCells ((s.data.toList.take (j + 1)).map Wv.up) = Lib.byteCells ((s.data.toList.take j).map Wv.up) ++ [.int .u8 ((Wv.up s[j]).toNat : Int)]) := by
        show _ = _
        rw [Wv.ups_step s j hlt]
        simp [Lib.byteCells]
      have hsj : (s[j].toNat : Int) ≤ 255 := by have := s[j].toNat_lt; omega
      by_cases h1 : 97 ≤ (s[j].toNat : Int)
      · by_cases h2 : (s[j].toNat : Int) ≤ 122
        · have hu := Wv.up_yes s[j] h1 h2
          rw [hu] at Hst
          clear hu
          go_wp2_with fail
          refine (Wv.writeByte_any B B _ _ _ hbl.out Hlen.out (by omega)).mono ?_
          rintro e w2 ⟨rfl, hbl2, hb2⟩
          rw [← Hst.out] at hbl2
          go_wp2_with fail
          go_roundg (s.size - (j + 1))
          case rel => exact ⟨j + 1, rfl, by go_num, by omega, Or.inr hbl2, by have := hb2.size; omega, hb.out.trans hb2⟩
          case measure => rw [Hg.out]; exact Nat.sub_lt_sub_left hlt (Nat.lt_succ_self j)
        · have hu := Wv.up_no s[j] (by omega)
          rw [hu] at Hst
          clear hu
          go_wp2_with fail
          refine (Wv.writeByte_any B B _ _ _ hbl.out Hlen.out (by omega)).mono ?_
          rintro e w2 ⟨rfl, hbl2, hb2⟩
          rw [← Hst.out] at hbl2
          go_wp2_with fail
          go_roundg (s.size - (j + 1))
          case rel => exact ⟨j + 1, rfl, by go_num, by omega, Or.inr hbl2, by have := hb2.size; omega, hb.out.trans hb2⟩
          case measure => rw [Hg.out]; exact Nat.sub_lt_sub_left hlt (Nat.lt_succ_self j)
      · have hu := Wv.up_no s[j] (by omega)
        rw [hu] at Hst
        clear hu
        go_wp2_with fail
        refine (Wv.writeByte_any B B _ _ _ hbl.out Hlen.out (by omega)).mono ?_
        rintro e w2 ⟨rfl, hbl2, hb2⟩
        rw [← Hst.out] at hbl2
        go_wp2_with fail
        go_roundg (s.size - (j + 1))
        case rel => exact ⟨j + 1, rfl, by go_num, by omega, Or.inr hbl2, by have := hb2.size; omega, hb.out.trans hb2⟩
        case measure => rw [Hg.out]; exact Nat.sub_lt_sub_left hlt (Nat.lt_succ_self j)
    · obtain rfl : j = s.size := by omega
      have hbl' : Lib.IsBuilder 117 5 B B (Lib.byteCells (ups s)) wr := by
        have := hbl.out
        rw [List.take_of_length_le (by simp)] at this
        exact this
      have Hbl := Lib.hid hbl'
      clear hbl'
      go_wp2_with fail
      refine (Tryz.Builder_String_any B B _ _ Hbl.out (by omega)).mono ?_
      rintro e w2 ⟨rfl, hb2⟩
      go_wp2_with fail
      go_ret
      exact ⟨rfl, by rw [HB.out]; exact hb.out.trans hb2⟩
end Go.Proofs.YtompdfpjmdnhoabGreatDoor.Ou
namespace Go.Proofs.YtompdfpjmdnhoabGreatDoor.Ou
open Go.RowKit Go.Proofs.YtompdfpjmdnhoabGreatDoor.Rs
def OwnIs (w : World) (k : Int) (u : ByteArray) (b : Bool) (e : Ending) (w' : World) : Prop := e = .returned (.tuple #[.agg #[.int .i64 k, .string u], .bool b]) ∧ Below w.heap.size w w'
theorem deed_info (k : Int) (u : ByteArray) : (Tryz.prog.info? 80).map (·.size) = some (#[.int .i64 k, .string u] : Array Value).size := by
  have : (Tryz.prog.info? 80).map (·.size) = some 2 := by kernel_rfl
  exact this
theorem deed_one (k : Int) (u : ByteArray) : (#[.int .i64 k, .string u] : Array Value).all (·.oneCell') = true := by simp [Value.oneCell']
end Go.Proofs.YtompdfpjmdnhoabGreatDoor.Ou
namespace Go.Proofs.YtompdfpjmdnhoabGreatDoor.Ou
open Go.RowKit Go.Proofs.YtompdfpjmdnhoabGreatDoor.Rs
set_option maxHeartbeats 2000000 in
set_option maxRecDepth 100000 in
theorem own_w0 (s : ByteArray) (w : World) (hs : s.size ≤ 100000) (hu : ups s = [58]) : Calls Tryz.prog 41 #[.string s] w (OwnIs w 1 ⟨#[58]⟩ true) := by
  have HG := Lib.hid (fun w => ogreat_any s w hs)
  rw [hu] at HG
  have k0 := Lib.hid ((Below.refl w.heap.size w).alloc (Nat.le_refl _) (.cells #[.int .i64 0, .string ⟨#[]⟩] 80))
  have B0 := Lib.hid (Blk.new w 80 #[.int .i64 0, .string ⟨#[]⟩])
  go_enter Tryz.func41, Tryz.ntmps41
  go_wp2_with fail
  refine (HG.out _).mono ?_
  rintro e w2 ⟨rfl, k2⟩
  have D2 := Lib.hid (B0.out.below k2 B0.out.lt)
  have K2 := Lib.hid (k0.out.trans (k2.mono k0.out.size))
  have HI := Lib.hid (deed_info 1 ⟨#[58]⟩)
  have H1 := Lib.hid (deed_one 1 ⟨#[58]⟩)
  clear k0 B0 k2 HG
  go_wp2_with (refine wpList_store_row rfl _ _ _ rfl w.heap.size #[.int .i64 1, .string ⟨#[58]⟩] rfl rfl _ _ D2.out HI.out rfl H1.out ?_)
  refine bodyPost_ret (Mc.results_row_tmp rfl _ _ w.heap.size _ _ (0, 0) _ rfl (setRow_heap _ _ _ _ _ _ D2.out) Tryz.underlying80 rfl HI.out) rfl ⟨rfl, ?_⟩
  exact K2.out.trans ⟨rfl, rfl, rfl, by simp, fun k hk => setRow_other _ _ _ _ (Nat.ne_of_lt hk)⟩
set_option maxHeartbeats 2000000 in
set_option maxRecDepth 100000 in
theorem own_w1 (s : ByteArray) (w : World) (hs : s.size ≤ 100000) (hu : ups s = [67, 79, 78, 83, 84, 65, 78, 84]) : Calls Tryz.prog 41 #[.string s] w (OwnIs w 1 ⟨#[67, 79, 78, 83, 84, 65, 78, 84]⟩ true) := by
  have HG := Lib.hid (fun w => ogreat_any s w hs)
  rw [hu] at HG
  have k0 := Lib.hid ((Below.refl w.heap.size w).alloc (Nat.le_refl _) (.cells #[.int .i64 0, .string ⟨#[]⟩] 80))
  have B0 := Lib.hid (Blk.new w 80 #[.int .i64 0, .string ⟨#[]⟩])
  go_enter Tryz.func41, Tryz.ntmps41
  go_wp2_with fail
  refine (HG.out _).mono ?_
  rintro e w2 ⟨rfl, k2⟩
  have D2 := Lib.hid (B0.out.below k2 B0.out.lt)
  have K2 := Lib.hid (k0.out.trans (k2.mono k0.out.size))
  have HI := Lib.hid (deed_info 1 ⟨#[67, 79, 78, 83, 84, 65, 78, 84]⟩)
  have H1 := Lib.hid (deed_one 1 ⟨#[67, 79, 78, 83, 84, 65, 78, 84]⟩)
  clear k0 B0 k2 HG
  go_wp2_with (refine wpList_store_row rfl _ _ _ rfl w.heap.size #[.int .i64 1, .string ⟨#[67, 79, 78, 83, 84, 65, 78, 84]⟩] rfl rfl _ _ D2.out HI.out rfl H1.out ?_)
  refine bodyPost_ret (Mc.results_row_tmp rfl _ _ w.heap.size _ _ (0, 0) _ rfl (setRow_heap _ _ _ _ _ _ D2.out) Tryz.underlying80 rfl HI.out) rfl ⟨rfl, ?_⟩
  exact K2.out.trans ⟨rfl, rfl, rfl, by simp, fun k hk => setRow_other _ _ _ _ (Nat.ne_of_lt hk)⟩
set_option maxHeartbeats 2000000 in
set_option maxRecDepth 100000 in
theorem own_w2 (s : ByteArray) (w : World) (hs : s.size ≤ 100000) (hu : ups s = [86, 65, 82, 73, 65, 66, 76, 69]) : Calls Tryz.prog 41 #[.string s] w (OwnIs w 1 ⟨#[86, 65, 82, 73, 65, 66, 76, 69]⟩ true) := by
  have HG := Lib.hid (fun w => ogreat_any s w hs)
  rw [hu] at HG
  have k0 := Lib.hid ((Below.refl w.heap.size w).alloc (Nat.le_refl _) (.cells #[.int .i64 0, .string ⟨#[]⟩] 80))
  have B0 := Lib.hid (Blk.new w 80 #[.int .i64 0, .string ⟨#[]⟩])
  go_enter Tryz.func41, Tryz.ntmps41
  go_wp2_with fail
  refine (HG.out _).mono ?_
  rintro e w2 ⟨rfl, k2⟩
  have D2 := Lib.hid (B0.out.below k2 B0.out.lt)
  have K2 := Lib.hid (k0.out.trans (k2.mono k0.out.size))
  have HI := Lib.hid (deed_info 1 ⟨#[86, 65, 82, 73, 65, 66, 76, 69]⟩)
  have H1 := Lib.hid (deed_one 1 ⟨#[86, 65, 82, 73, 65, 66, 76, 69]⟩)
  clear k0 B0 k2 HG
  go_wp2_with (refine wpList_store_row rfl _ _ _ rfl w.heap.size #[.int .i64 1, .string ⟨#[86, 65, 82, 73, 65, 66, 76, 69]⟩] rfl rfl _ _ D2.out HI.out rfl H1.out ?_)
  refine bodyPost_ret (Mc.results_row_tmp rfl _ _ w.heap.size _ _ (0, 0) _ rfl (setRow_heap _ _ _ _ _ _ D2.out) Tryz.underlying80 rfl HI.out) rfl ⟨rfl, ?_⟩
  exact K2.out.trans ⟨rfl, rfl, rfl, by simp, fun k hk => setRow_other _ _ _ _ (Nat.ne_of_lt hk)⟩
set_option maxHeartbeats 2000000 in
set_option maxRecDepth 100000 in
theorem own_w3 (s : ByteArray) (w : World) (hs : s.size ≤ 100000) (hu : ups s = [67, 82, 69, 65, 84, 69]) : Calls Tryz.prog 41 #[.string s] w (OwnIs w 1 ⟨#[67, 82, 69, 65, 84, 69]⟩ true) := by
  have HG := Lib.hid (fun w => ogreat_any s w hs)
  rw [hu] at HG
  have k0 := Lib.hid ((Below.refl w.heap.size w).alloc (Nat.le_refl _) (.cells #[.int .i64 0, .string ⟨#[]⟩] 80))
  have B0 := Lib.hid (Blk.new w 80 #[.int .i64 0, .string ⟨#[]⟩])
  go_enter Tryz.func41, Tryz.ntmps41
  go_wp2_with fail
  refine (HG.out _).mono ?_
  rintro e w2 ⟨rfl, k2⟩
  have D2 := Lib.hid (B0.out.below k2 B0.out.lt)
  have K2 := Lib.hid (k0.out.trans (k2.mono k0.out.size))
  have HI := Lib.hid (deed_info 1 ⟨#[67, 82, 69, 65, 84, 69]⟩)
  have H1 := Lib.hid (deed_one 1 ⟨#[67, 82, 69, 65, 84, 69]⟩)
  clear k0 B0 k2 HG
  go_wp2_with (refine wpList_store_row rfl _ _ _ rfl w.heap.size #[.int .i64 1, .string ⟨#[67, 82, 69, 65, 84, 69]⟩] rfl rfl _ _ D2.out HI.out rfl H1.out ?_)
  refine bodyPost_ret (Mc.results_row_tmp rfl _ _ w.heap.size _ _ (0, 0) _ rfl (setRow_heap _ _ _ _ _ _ D2.out) Tryz.underlying80 rfl HI.out) rfl ⟨rfl, ?_⟩
  exact K2.out.trans ⟨rfl, rfl, rfl, by simp, fun k hk => setRow_other _ _ _ _ (Nat.ne_of_lt hk)⟩
set_option maxHeartbeats 2000000 in
set_option maxRecDepth 100000 in
theorem own_w4 (s : ByteArray) (w : World) (hs : s.size ≤ 100000) (hu : ups s = [44]) : Calls Tryz.prog 41 #[.string s] w (OwnIs w 1 ⟨#[44]⟩ true) := by
  have HG := Lib.hid (fun w => ogreat_any s w hs)
  rw [hu] at HG
  have k0 := Lib.hid ((Below.refl w.heap.size w).alloc (Nat.le_refl _) (.cells #[.int .i64 0, .string ⟨#[]⟩] 80))
  have B0 := Lib.hid (Blk.new w 80 #[.int .i64 0, .string ⟨#[]⟩])
  go_enter Tryz.func41, Tryz.ntmps41
  go_wp2_with fail
  refine (HG.out _).mono ?_
  rintro e w2 ⟨rfl, k2⟩
  have D2 := Lib.hid (B0.out.below k2 B0.out.lt)
  have K2 := Lib.hid (k0.out.trans (k2.mono k0.out.size))
  have HI := Lib.hid (deed_info 1 ⟨#[44]⟩)
  have H1 := Lib.hid (deed_one 1 ⟨#[44]⟩)
  clear k0 B0 k2 HG
  go_wp2_with (refine wpList_store_row rfl _ _ _ rfl w.heap.size #[.int .i64 1, .string ⟨#[44]⟩] rfl rfl _ _ D2.out HI.out rfl H1.out ?_)
  refine bodyPost_ret (Mc.results_row_tmp rfl _ _ w.heap.size _ _ (0, 0) _ rfl (setRow_heap _ _ _ _ _ _ D2.out) Tryz.underlying80 rfl HI.out) rfl ⟨rfl, ?_⟩
  exact K2.out.trans ⟨rfl, rfl, rfl, by simp, fun k hk => setRow_other _ _ _ _ (Nat.ne_of_lt hk)⟩
set_option maxHeartbeats 2000000 in
set_option maxRecDepth 100000 in
theorem own_w5 (s : ByteArray) (w : World) (hs : s.size ≤ 100000) (hu : ups s = [65, 76, 76, 79, 84]) : Calls Tryz.prog 41 #[.string s] w (OwnIs w 1 ⟨#[65, 76, 76, 79, 84]⟩ true) := by
  have HG := Lib.hid (fun w => ogreat_any s w hs)
  rw [hu] at HG
  have k0 := Lib.hid ((Below.refl w.heap.size w).alloc (Nat.le_refl _) (.cells #[.int .i64 0, .string ⟨#[]⟩] 80))
  have B0 := Lib.hid (Blk.new w 80 #[.int .i64 0, .string ⟨#[]⟩])
  go_enter Tryz.func41, Tryz.ntmps41
  go_wp2_with fail
  refine (HG.out _).mono ?_
  rintro e w2 ⟨rfl, k2⟩
  have D2 := Lib.hid (B0.out.below k2 B0.out.lt)
  have K2 := Lib.hid (k0.out.trans (k2.mono k0.out.size))
  have HI := Lib.hid (deed_info 1 ⟨#[65, 76, 76, 79, 84]⟩)
  have H1 := Lib.hid (deed_one 1 ⟨#[65, 76, 76, 79, 84]⟩)
  clear k0 B0 k2 HG
  go_wp2_with (refine wpList_store_row rfl _ _ _ rfl w.heap.size #[.int .i64 1, .string ⟨#[65, 76, 76, 79, 84]⟩] rfl rfl _ _ D2.out HI.out rfl H1.out ?_)
  refine bodyPost_ret (Mc.results_row_tmp rfl _ _ w.heap.size _ _ (0, 0) _ rfl (setRow_heap _ _ _ _ _ _ D2.out) Tryz.underlying80 rfl HI.out) rfl ⟨rfl, ?_⟩
  exact K2.out.trans ⟨rfl, rfl, rfl, by simp, fun k hk => setRow_other _ _ _ _ (Nat.ne_of_lt hk)⟩
set_option maxHeartbeats 2000000 in
set_option maxRecDepth 100000 in
theorem own_w6 (s : ByteArray) (w : World) (hs : s.size ≤ 100000) (hu : ups s = [72, 69, 82, 69]) : Calls Tryz.prog 41 #[.string s] w (OwnIs w 1 ⟨#[72, 69, 82, 69]⟩ true) := by
  have HG := Lib.hid (fun w => ogreat_any s w hs)
  rw [hu] at HG
  have k0 := Lib.hid ((Below.refl w.heap.size w).alloc (Nat.le_refl _) (.cells #[.int .i64 0, .string ⟨#[]⟩] 80))
  have B0 := Lib.hid (Blk.new w 80 #[.int .i64 0, .string ⟨#[]⟩])
  go_enter Tryz.func41, Tryz.ntmps41
  go_wp2_with fail
  refine (HG.out _).mono ?_
  rintro e w2 ⟨rfl, k2⟩
  have D2 := Lib.hid (B0.out.below k2 B0.out.lt)
  have K2 := Lib.hid (k0.out.trans (k2.mono k0.out.size))
  have HI := Lib.hid (deed_info 1 ⟨#[72, 69, 82, 69]⟩)
  have H1 := Lib.hid (deed_one 1 ⟨#[72, 69, 82, 69]⟩)
  clear k0 B0 k2 HG
  go_wp2_with (refine wpList_store_row rfl _ _ _ rfl w.heap.size #[.int .i64 1, .string ⟨#[72, 69, 82, 69]⟩] rfl rfl _ _ D2.out HI.out rfl H1.out ?_)
  refine bodyPost_ret (Mc.results_row_tmp rfl _ _ w.heap.size _ _ (0, 0) _ rfl (setRow_heap _ _ _ _ _ _ D2.out) Tryz.underlying80 rfl HI.out) rfl ⟨rfl, ?_⟩
  exact K2.out.trans ⟨rfl, rfl, rfl, by simp, fun k hk => setRow_other _ _ _ _ (Nat.ne_of_lt hk)⟩
set_option maxHeartbeats 2000000 in
set_option maxRecDepth 100000 in
theorem own_w7 (s : ByteArray) (w : World) (hs : s.size ≤ 100000) (hu : ups s = [39]) : Calls Tryz.prog 41 #[.string s] w (OwnIs w 1 ⟨#[39]⟩ true) := by
  have HG := Lib.hid (fun w => ogreat_any s w hs)
  rw [hu] at HG
  have k0 := Lib.hid ((Below.refl w.heap.size w).alloc (Nat.le_refl _) (.cells #[.int .i64 0, .string ⟨#[]⟩] 80))
  have B0 := Lib.hid (Blk.new w 80 #[.int .i64 0, .string ⟨#[]⟩])
  go_enter Tryz.func41, Tryz.ntmps41
  go_wp2_with fail
  refine (HG.out _).mono ?_
  rintro e w2 ⟨rfl, k2⟩
  have D2 := Lib.hid (B0.out.below k2 B0.out.lt)
  have K2 := Lib.hid (k0.out.trans (k2.mono k0.out.size))
  have HI := Lib.hid (deed_info 1 ⟨#[39]⟩)
  have H1 := Lib.hid (deed_one 1 ⟨#[39]⟩)
  clear k0 B0 k2 HG
  go_wp2_with (refine wpList_store_row rfl _ _ _ rfl w.heap.size #[.int .i64 1, .string ⟨#[39]⟩] rfl rfl _ _ D2.out HI.out rfl H1.out ?_)
  refine bodyPost_ret (Mc.results_row_tmp rfl _ _ w.heap.size _ _ (0, 0) _ rfl (setRow_heap _ _ _ _ _ _ D2.out) Tryz.underlying80 rfl HI.out) rfl ⟨rfl, ?_⟩
  exact K2.out.trans ⟨rfl, rfl, rfl, by simp, fun k hk => setRow_other _ _ _ _ (Nat.ne_of_lt hk)⟩
set_option maxHeartbeats 2000000 in
set_option maxRecDepth 100000 in
theorem own_w8 (s : ByteArray) (w : World) (hs : s.size ≤ 100000) (hu : ups s = [73, 77, 77, 69, 68, 73, 65, 84, 69]) : Calls Tryz.prog 41 #[.string s] w (OwnIs w 1 ⟨#[73, 77, 77, 69, 68, 73, 65, 84, 69]⟩ true) := by
  have HG := Lib.hid (fun w => ogreat_any s w hs)
  rw [hu] at HG
  have k0 := Lib.hid ((Below.refl w.heap.size w).alloc (Nat.le_refl _) (.cells #[.int .i64 0, .string ⟨#[]⟩] 80))
  have B0 := Lib.hid (Blk.new w 80 #[.int .i64 0, .string ⟨#[]⟩])
  go_enter Tryz.func41, Tryz.ntmps41
  go_wp2_with fail
  refine (HG.out _).mono ?_
  rintro e w2 ⟨rfl, k2⟩
  have D2 := Lib.hid (B0.out.below k2 B0.out.lt)
  have K2 := Lib.hid (k0.out.trans (k2.mono k0.out.size))
  have HI := Lib.hid (deed_info 1 ⟨#[73, 77, 77, 69, 68, 73, 65, 84, 69]⟩)
  have H1 := Lib.hid (deed_one 1 ⟨#[73, 77, 77, 69, 68, 73, 65, 84, 69]⟩)
  clear k0 B0 k2 HG
  go_wp2_with (refine wpList_store_row rfl _ _ _ rfl w.heap.size #[.int .i64 1, .string ⟨#[73, 77, 77, 69, 68, 73, 65, 84, 69]⟩] rfl rfl _ _ D2.out HI.out rfl H1.out ?_)
  refine bodyPost_ret (Mc.results_row_tmp rfl _ _ w.heap.size _ _ (0, 0) _ rfl (setRow_heap _ _ _ _ _ _ D2.out) Tryz.underlying80 rfl HI.out) rfl ⟨rfl, ?_⟩
  exact K2.out.trans ⟨rfl, rfl, rfl, by simp, fun k hk => setRow_other _ _ _ _ (Nat.ne_of_lt hk)⟩
set_option maxHeartbeats 2000000 in
set_option maxRecDepth 100000 in
theorem own_w9 (s : ByteArray) (w : World) (hs : s.size ≤ 100000) (hu : ups s = [70, 79, 82, 71, 69, 84]) : Calls Tryz.prog 41 #[.string s] w (OwnIs w 1 ⟨#[70, 79, 82, 71, 69, 84]⟩ true) := by
  have HG := Lib.hid (fun w => ogreat_any s w hs)
  rw [hu] at HG
  have k0 := Lib.hid ((Below.refl w.heap.size w).alloc (Nat.le_refl _) (.cells #[.int .i64 0, .string ⟨#[]⟩] 80))
  have B0 := Lib.hid (Blk.new w 80 #[.int .i64 0, .string ⟨#[]⟩])
  go_enter Tryz.func41, Tryz.ntmps41
  go_wp2_with fail
  refine (HG.out _).mono ?_
  rintro e w2 ⟨rfl, k2⟩
  have D2 := Lib.hid (B0.out.below k2 B0.out.lt)
  have K2 := Lib.hid (k0.out.trans (k2.mono k0.out.size))
  have HI := Lib.hid (deed_info 1 ⟨#[70, 79, 82, 71, 69, 84]⟩)
  have H1 := Lib.hid (deed_one 1 ⟨#[70, 79, 82, 71, 69, 84]⟩)
  clear k0 B0 k2 HG
  go_wp2_with (refine wpList_store_row rfl _ _ _ rfl w.heap.size #[.int .i64 1, .string ⟨#[70, 79, 82, 71, 69, 84]⟩] rfl rfl _ _ D2.out HI.out rfl H1.out ?_)
  refine bodyPost_ret (Mc.results_row_tmp rfl _ _ w.heap.size _ _ (0, 0) _ rfl (setRow_heap _ _ _ _ _ _ D2.out) Tryz.underlying80 rfl HI.out) rfl ⟨rfl, ?_⟩
  exact K2.out.trans ⟨rfl, rfl, rfl, by simp, fun k hk => setRow_other _ _ _ _ (Nat.ne_of_lt hk)⟩
set_option maxHeartbeats 2000000 in
set_option maxRecDepth 100000 in
theorem own_w10 (s : ByteArray) (w : World) (hs : s.size ≤ 100000) (hu : ups s = [59]) : Calls Tryz.prog 41 #[.string s] w (OwnIs w 2 ⟨#[59]⟩ true) := by
  have HG := Lib.hid (fun w => ogreat_any s w hs)
  rw [hu] at HG
  have k0 := Lib.hid ((Below.refl w.heap.size w).alloc (Nat.le_refl _) (.cells #[.int .i64 0, .string ⟨#[]⟩] 80))
  have B0 := Lib.hid (Blk.new w 80 #[.int .i64 0, .string ⟨#[]⟩])
  go_enter Tryz.func41, Tryz.ntmps41
  go_wp2_with fail
  refine (HG.out _).mono ?_
  rintro e w2 ⟨rfl, k2⟩
  have D2 := Lib.hid (B0.out.below k2 B0.out.lt)
  have K2 := Lib.hid (k0.out.trans (k2.mono k0.out.size))
  have HI := Lib.hid (deed_info 2 ⟨#[59]⟩)
  have H1 := Lib.hid (deed_one 2 ⟨#[59]⟩)
  clear k0 B0 k2 HG
  go_wp2_with (refine wpList_store_row rfl _ _ _ rfl w.heap.size #[.int .i64 2, .string ⟨#[59]⟩] rfl rfl _ _ D2.out HI.out rfl H1.out ?_)
  refine bodyPost_ret (Mc.results_row_tmp rfl _ _ w.heap.size _ _ (0, 0) _ rfl (setRow_heap _ _ _ _ _ _ D2.out) Tryz.underlying80 rfl HI.out) rfl ⟨rfl, ?_⟩
  exact K2.out.trans ⟨rfl, rfl, rfl, by simp, fun k hk => setRow_other _ _ _ _ (Nat.ne_of_lt hk)⟩
end Go.Proofs.YtompdfpjmdnhoabGreatDoor.Ou
namespace Go.Proofs.YtompdfpjmdnhoabGreatDoor.Ou
open Go.RowKit Go.Proofs.YtompdfpjmdnhoabGreatDoor.Rs
set_option maxHeartbeats 2000000 in
set_option maxRecDepth 100000 in
theorem own_w11 (s : ByteArray) (w : World) (hs : s.size ≤ 100000) (hu : ups s = [91, 39, 93]) : Calls Tryz.prog 41 #[.string s] w (OwnIs w 2 ⟨#[91, 39, 93]⟩ true) := by
  have HG := Lib.hid (fun w => ogreat_any s w hs)
  rw [hu] at HG
  have k0 := Lib.hid ((Below.refl w.heap.size w).alloc (Nat.le_refl _) (.cells #[.int .i64 0, .string ⟨#[]⟩] 80))
  have B0 := Lib.hid (Blk.new w 80 #[.int .i64 0, .string ⟨#[]⟩])
  go_enter Tryz.func41, Tryz.ntmps41
  go_wp2_with fail
  refine (HG.out _).mono ?_
  rintro e w2 ⟨rfl, k2⟩
  have D2 := Lib.hid (B0.out.below k2 B0.out.lt)
  have K2 := Lib.hid (k0.out.trans (k2.mono k0.out.size))
  have HI := Lib.hid (deed_info 2 ⟨#[91, 39, 93]⟩)
  have H1 := Lib.hid (deed_one 2 ⟨#[91, 39, 93]⟩)
  clear k0 B0 k2 HG
  go_wp2_with (refine wpList_store_row rfl _ _ _ rfl w.heap.size #[.int .i64 2, .string ⟨#[91, 39, 93]⟩] rfl rfl _ _ D2.out HI.out rfl H1.out ?_)
  refine bodyPost_ret (Mc.results_row_tmp rfl _ _ w.heap.size _ _ (0, 0) _ rfl (setRow_heap _ _ _ _ _ _ D2.out) Tryz.underlying80 rfl HI.out) rfl ⟨rfl, ?_⟩
  exact K2.out.trans ⟨rfl, rfl, rfl, by simp, fun k hk => setRow_other _ _ _ _ (Nat.ne_of_lt hk)⟩
set_option maxHeartbeats 2000000 in
set_option maxRecDepth 100000 in
theorem own_w12 (s : ByteArray) (w : World) (hs : s.size ≤ 100000) (hu : ups s = [69, 88, 73, 84]) : Calls Tryz.prog 41 #[.string s] w (OwnIs w 2 ⟨#[69, 88, 73, 84]⟩ true) := by
  have HG := Lib.hid (fun w => ogreat_any s w hs)
  rw [hu] at HG
  have k0 := Lib.hid ((Below.refl w.heap.size w).alloc (Nat.le_refl _) (.cells #[.int .i64 0, .string ⟨#[]⟩] 80))
  have B0 := Lib.hid (Blk.new w 80 #[.int .i64 0, .string ⟨#[]⟩])
  go_enter Tryz.func41, Tryz.ntmps41
  go_wp2_with fail
  refine (HG.out _).mono ?_
  rintro e w2 ⟨rfl, k2⟩
  have D2 := Lib.hid (B0.out.below k2 B0.out.lt)
  have K2 := Lib.hid (k0.out.trans (k2.mono k0.out.size))
  have HI := Lib.hid (deed_info 2 ⟨#[69, 88, 73, 84]⟩)
  have H1 := Lib.hid (deed_one 2 ⟨#[69, 88, 73, 84]⟩)
  clear k0 B0 k2 HG
  go_wp2_with (refine wpList_store_row rfl _ _ _ rfl w.heap.size #[.int .i64 2, .string ⟨#[69, 88, 73, 84]⟩] rfl rfl _ _ D2.out HI.out rfl H1.out ?_)
  refine bodyPost_ret (Mc.results_row_tmp rfl _ _ w.heap.size _ _ (0, 0) _ rfl (setRow_heap _ _ _ _ _ _ D2.out) Tryz.underlying80 rfl HI.out) rfl ⟨rfl, ?_⟩
  exact K2.out.trans ⟨rfl, rfl, rfl, by simp, fun k hk => setRow_other _ _ _ _ (Nat.ne_of_lt hk)⟩
set_option maxHeartbeats 2000000 in
set_option maxRecDepth 100000 in
theorem own_w13 (s : ByteArray) (w : World) (hs : s.size ≤ 100000) (hu : ups s = [73]) : Calls Tryz.prog 41 #[.string s] w (OwnIs w 2 ⟨#[73]⟩ true) := by
  have HG := Lib.hid (fun w => ogreat_any s w hs)
  rw [hu] at HG
  have k0 := Lib.hid ((Below.refl w.heap.size w).alloc (Nat.le_refl _) (.cells #[.int .i64 0, .string ⟨#[]⟩] 80))
  have B0 := Lib.hid (Blk.new w 80 #[.int .i64 0, .string ⟨#[]⟩])
  go_enter Tryz.func41, Tryz.ntmps41
  go_wp2_with fail
  refine (HG.out _).mono ?_
  rintro e w2 ⟨rfl, k2⟩
  have D2 := Lib.hid (B0.out.below k2 B0.out.lt)
  have K2 := Lib.hid (k0.out.trans (k2.mono k0.out.size))
  have HI := Lib.hid (deed_info 2 ⟨#[73]⟩)
  have H1 := Lib.hid (deed_one 2 ⟨#[73]⟩)
  clear k0 B0 k2 HG
  go_wp2_with (refine wpList_store_row rfl _ _ _ rfl w.heap.size #[.int .i64 2, .string ⟨#[73]⟩] rfl rfl _ _ D2.out HI.out rfl H1.out ?_)
  refine bodyPost_ret (Mc.results_row_tmp rfl _ _ w.heap.size _ _ (0, 0) _ rfl (setRow_heap _ _ _ _ _ _ D2.out) Tryz.underlying80 rfl HI.out) rfl ⟨rfl, ?_⟩
  exact K2.out.trans ⟨rfl, rfl, rfl, by simp, fun k hk => setRow_other _ _ _ _ (Nat.ne_of_lt hk)⟩
set_option maxHeartbeats 2000000 in
set_option maxRecDepth 100000 in
theorem own_w14 (s : ByteArray) (w : World) (hs : s.size ≤ 100000) (hu : ups s = [74]) : Calls Tryz.prog 41 #[.string s] w (OwnIs w 2 ⟨#[74]⟩ true) := by
  have HG := Lib.hid (fun w => ogreat_any s w hs)
  rw [hu] at HG
  have k0 := Lib.hid ((Below.refl w.heap.size w).alloc (Nat.le_refl _) (.cells #[.int .i64 0, .string ⟨#[]⟩] 80))
  have B0 := Lib.hid (Blk.new w 80 #[.int .i64 0, .string ⟨#[]⟩])
  go_enter Tryz.func41, Tryz.ntmps41
  go_wp2_with fail
  refine (HG.out _).mono ?_
  rintro e w2 ⟨rfl, k2⟩
  have D2 := Lib.hid (B0.out.below k2 B0.out.lt)
  have K2 := Lib.hid (k0.out.trans (k2.mono k0.out.size))
  have HI := Lib.hid (deed_info 2 ⟨#[74]⟩)
  have H1 := Lib.hid (deed_one 2 ⟨#[74]⟩)
  clear k0 B0 k2 HG
  go_wp2_with (refine wpList_store_row rfl _ _ _ rfl w.heap.size #[.int .i64 2, .string ⟨#[74]⟩] rfl rfl _ _ D2.out HI.out rfl H1.out ?_)
  refine bodyPost_ret (Mc.results_row_tmp rfl _ _ w.heap.size _ _ (0, 0) _ rfl (setRow_heap _ _ _ _ _ _ D2.out) Tryz.underlying80 rfl HI.out) rfl ⟨rfl, ?_⟩
  exact K2.out.trans ⟨rfl, rfl, rfl, by simp, fun k hk => setRow_other _ _ _ _ (Nat.ne_of_lt hk)⟩
set_option maxHeartbeats 2000000 in
set_option maxRecDepth 100000 in
theorem own_w15 (s : ByteArray) (w : World) (hs : s.size ≤ 100000) (hu : ups s = [85, 78, 76, 79, 79, 80]) : Calls Tryz.prog 41 #[.string s] w (OwnIs w 2 ⟨#[85, 78, 76, 79, 79, 80]⟩ true) := by
  have HG := Lib.hid (fun w => ogreat_any s w hs)
  rw [hu] at HG
  have k0 := Lib.hid ((Below.refl w.heap.size w).alloc (Nat.le_refl _) (.cells #[.int .i64 0, .string ⟨#[]⟩] 80))
  have B0 := Lib.hid (Blk.new w 80 #[.int .i64 0, .string ⟨#[]⟩])
  go_enter Tryz.func41, Tryz.ntmps41
  go_wp2_with fail
  refine (HG.out _).mono ?_
  rintro e w2 ⟨rfl, k2⟩
  have D2 := Lib.hid (B0.out.below k2 B0.out.lt)
  have K2 := Lib.hid (k0.out.trans (k2.mono k0.out.size))
  have HI := Lib.hid (deed_info 2 ⟨#[85, 78, 76, 79, 79, 80]⟩)
  have H1 := Lib.hid (deed_one 2 ⟨#[85, 78, 76, 79, 79, 80]⟩)
  clear k0 B0 k2 HG
  go_wp2_with (refine wpList_store_row rfl _ _ _ rfl w.heap.size #[.int .i64 2, .string ⟨#[85, 78, 76, 79, 79, 80]⟩] rfl rfl _ _ D2.out HI.out rfl H1.out ?_)
  refine bodyPost_ret (Mc.results_row_tmp rfl _ _ w.heap.size _ _ (0, 0) _ rfl (setRow_heap _ _ _ _ _ _ D2.out) Tryz.underlying80 rfl HI.out) rfl ⟨rfl, ?_⟩
  exact K2.out.trans ⟨rfl, rfl, rfl, by simp, fun k hk => setRow_other _ _ _ _ (Nat.ne_of_lt hk)⟩
set_option maxHeartbeats 2000000 in
set_option maxRecDepth 100000 in
theorem own_w16 (s : ByteArray) (w : World) (hs : s.size ≤ 100000) (hu : ups s = [82, 69, 67, 85, 82, 83, 69]) : Calls Tryz.prog 41 #[.string s] w (OwnIs w 2 ⟨#[82, 69, 67, 85, 82, 83, 69]⟩ true) := by
  have HG := Lib.hid (fun w => ogreat_any s w hs)
  rw [hu] at HG
  have k0 := Lib.hid ((Below.refl w.heap.size w).alloc (Nat.le_refl _) (.cells #[.int .i64 0, .string ⟨#[]⟩] 80))
  have B0 := Lib.hid (Blk.new w 80 #[.int .i64 0, .string ⟨#[]⟩])
  go_enter Tryz.func41, Tryz.ntmps41
  go_wp2_with fail
  refine (HG.out _).mono ?_
  rintro e w2 ⟨rfl, k2⟩
  have D2 := Lib.hid (B0.out.below k2 B0.out.lt)
  have K2 := Lib.hid (k0.out.trans (k2.mono k0.out.size))
  have HI := Lib.hid (deed_info 2 ⟨#[82, 69, 67, 85, 82, 83, 69]⟩)
  have H1 := Lib.hid (deed_one 2 ⟨#[82, 69, 67, 85, 82, 83, 69]⟩)
  clear k0 B0 k2 HG
  go_wp2_with (refine wpList_store_row rfl _ _ _ rfl w.heap.size #[.int .i64 2, .string ⟨#[82, 69, 67, 85, 82, 83, 69]⟩] rfl rfl _ _ D2.out HI.out rfl H1.out ?_)
  refine bodyPost_ret (Mc.results_row_tmp rfl _ _ w.heap.size _ _ (0, 0) _ rfl (setRow_heap _ _ _ _ _ _ D2.out) Tryz.underlying80 rfl HI.out) rfl ⟨rfl, ?_⟩
  exact K2.out.trans ⟨rfl, rfl, rfl, by simp, fun k hk => setRow_other _ _ _ _ (Nat.ne_of_lt hk)⟩
set_option maxHeartbeats 2000000 in
set_option maxRecDepth 100000 in
theorem own_w17 (s : ByteArray) (w : World) (hs : s.size ≤ 100000) (hu : ups s = [76, 73, 84, 69, 82, 65, 76]) : Calls Tryz.prog 41 #[.string s] w (OwnIs w 2 ⟨#[76, 73, 84, 69, 82, 65, 76]⟩ true) := by
  have HG := Lib.hid (fun w => ogreat_any s w hs)
  rw [hu] at HG
  have k0 := Lib.hid ((Below.refl w.heap.size w).alloc (Nat.le_refl _) (.cells #[.int .i64 0, .string ⟨#[]⟩] 80))
  have B0 := Lib.hid (Blk.new w 80 #[.int .i64 0, .string ⟨#[]⟩])
  go_enter Tryz.func41, Tryz.ntmps41
  go_wp2_with fail
  refine (HG.out _).mono ?_
  rintro e w2 ⟨rfl, k2⟩
  have D2 := Lib.hid (B0.out.below k2 B0.out.lt)
  have K2 := Lib.hid (k0.out.trans (k2.mono k0.out.size))
  have HI := Lib.hid (deed_info 2 ⟨#[76, 73, 84, 69, 82, 65, 76]⟩)
  have H1 := Lib.hid (deed_one 2 ⟨#[76, 73, 84, 69, 82, 65, 76]⟩)
  clear k0 B0 k2 HG
  go_wp2_with (refine wpList_store_row rfl _ _ _ rfl w.heap.size #[.int .i64 2, .string ⟨#[76, 73, 84, 69, 82, 65, 76]⟩] rfl rfl _ _ D2.out HI.out rfl H1.out ?_)
  refine bodyPost_ret (Mc.results_row_tmp rfl _ _ w.heap.size _ _ (0, 0) _ rfl (setRow_heap _ _ _ _ _ _ D2.out) Tryz.underlying80 rfl HI.out) rfl ⟨rfl, ?_⟩
  exact K2.out.trans ⟨rfl, rfl, rfl, by simp, fun k hk => setRow_other _ _ _ _ (Nat.ne_of_lt hk)⟩
set_option maxHeartbeats 2000000 in
set_option maxRecDepth 100000 in
theorem own_w18 (s : ByteArray) (w : World) (hs : s.size ≤ 100000) (hu : ups s = [73, 70]) : Calls Tryz.prog 41 #[.string s] w (OwnIs w 2 ⟨#[73, 70]⟩ true) := by
  have HG := Lib.hid (fun w => ogreat_any s w hs)
  rw [hu] at HG
  have k0 := Lib.hid ((Below.refl w.heap.size w).alloc (Nat.le_refl _) (.cells #[.int .i64 0, .string ⟨#[]⟩] 80))
  have B0 := Lib.hid (Blk.new w 80 #[.int .i64 0, .string ⟨#[]⟩])
  go_enter Tryz.func41, Tryz.ntmps41
  go_wp2_with fail
  refine (HG.out _).mono ?_
  rintro e w2 ⟨rfl, k2⟩
  have D2 := Lib.hid (B0.out.below k2 B0.out.lt)
  have K2 := Lib.hid (k0.out.trans (k2.mono k0.out.size))
  have HI := Lib.hid (deed_info 2 ⟨#[73, 70]⟩)
  have H1 := Lib.hid (deed_one 2 ⟨#[73, 70]⟩)
  clear k0 B0 k2 HG
  go_wp2_with (refine wpList_store_row rfl _ _ _ rfl w.heap.size #[.int .i64 2, .string ⟨#[73, 70]⟩] rfl rfl _ _ D2.out HI.out rfl H1.out ?_)
  refine bodyPost_ret (Mc.results_row_tmp rfl _ _ w.heap.size _ _ (0, 0) _ rfl (setRow_heap _ _ _ _ _ _ D2.out) Tryz.underlying80 rfl HI.out) rfl ⟨rfl, ?_⟩
  exact K2.out.trans ⟨rfl, rfl, rfl, by simp, fun k hk => setRow_other _ _ _ _ (Nat.ne_of_lt hk)⟩
end Go.Proofs.YtompdfpjmdnhoabGreatDoor.Ou
namespace Go.Proofs.YtompdfpjmdnhoabGreatDoor.Ou
open Go.RowKit Go.Proofs.YtompdfpjmdnhoabGreatDoor.Rs
set_option maxHeartbeats 2000000 in
set_option maxRecDepth 100000 in
theorem own_w19 (s : ByteArray) (w : World) (hs : s.size ≤ 100000) (hu : ups s = [69, 76, 83, 69]) : Calls Tryz.prog 41 #[.string s] w (OwnIs w 2 ⟨#[69, 76, 83, 69]⟩ true) := by
  have HG := Lib.hid (fun w => ogreat_any s w hs)
  rw [hu] at HG
  have k0 := Lib.hid ((Below.refl w.heap.size w).alloc (Nat.le_refl _) (.cells #[.int .i64 0, .string ⟨#[]⟩] 80))
  have B0 := Lib.hid (Blk.new w 80 #[.int .i64 0, .string ⟨#[]⟩])
  go_enter Tryz.func41, Tryz.ntmps41
  go_wp2_with fail
  refine (HG.out _).mono ?_
  rintro e w2 ⟨rfl, k2⟩
  have D2 := Lib.hid (B0.out.below k2 B0.out.lt)
  have K2 := Lib.hid (k0.out.trans (k2.mono k0.out.size))
  have HI := Lib.hid (deed_info 2 ⟨#[69, 76, 83, 69]⟩)
  have H1 := Lib.hid (deed_one 2 ⟨#[69, 76, 83, 69]⟩)
  clear k0 B0 k2 HG
  go_wp2_with (refine wpList_store_row rfl _ _ _ rfl w.heap.size #[.int .i64 2, .string ⟨#[69, 76, 83, 69]⟩] rfl rfl _ _ D2.out HI.out rfl H1.out ?_)
  refine bodyPost_ret (Mc.results_row_tmp rfl _ _ w.heap.size _ _ (0, 0) _ rfl (setRow_heap _ _ _ _ _ _ D2.out) Tryz.underlying80 rfl HI.out) rfl ⟨rfl, ?_⟩
  exact K2.out.trans ⟨rfl, rfl, rfl, by simp, fun k hk => setRow_other _ _ _ _ (Nat.ne_of_lt hk)⟩
set_option maxHeartbeats 2000000 in
set_option maxRecDepth 100000 in
theorem own_w20 (s : ByteArray) (w : World) (hs : s.size ≤ 100000) (hu : ups s = [84, 72, 69, 78]) : Calls Tryz.prog 41 #[.string s] w (OwnIs w 2 ⟨#[84, 72, 69, 78]⟩ true) := by
  have HG := Lib.hid (fun w => ogreat_any s w hs)
  rw [hu] at HG
  have k0 := Lib.hid ((Below.refl w.heap.size w).alloc (Nat.le_refl _) (.cells #[.int .i64 0, .string ⟨#[]⟩] 80))
  have B0 := Lib.hid (Blk.new w 80 #[.int .i64 0, .string ⟨#[]⟩])
  go_enter Tryz.func41, Tryz.ntmps41
  go_wp2_with fail
  refine (HG.out _).mono ?_
  rintro e w2 ⟨rfl, k2⟩
  have D2 := Lib.hid (B0.out.below k2 B0.out.lt)
  have K2 := Lib.hid (k0.out.trans (k2.mono k0.out.size))
  have HI := Lib.hid (deed_info 2 ⟨#[84, 72, 69, 78]⟩)
  have H1 := Lib.hid (deed_one 2 ⟨#[84, 72, 69, 78]⟩)
  clear k0 B0 k2 HG
  go_wp2_with (refine wpList_store_row rfl _ _ _ rfl w.heap.size #[.int .i64 2, .string ⟨#[84, 72, 69, 78]⟩] rfl rfl _ _ D2.out HI.out rfl H1.out ?_)
  refine bodyPost_ret (Mc.results_row_tmp rfl _ _ w.heap.size _ _ (0, 0) _ rfl (setRow_heap _ _ _ _ _ _ D2.out) Tryz.underlying80 rfl HI.out) rfl ⟨rfl, ?_⟩
  exact K2.out.trans ⟨rfl, rfl, rfl, by simp, fun k hk => setRow_other _ _ _ _ (Nat.ne_of_lt hk)⟩
set_option maxHeartbeats 2000000 in
set_option maxRecDepth 100000 in
theorem own_w21 (s : ByteArray) (w : World) (hs : s.size ≤ 100000) (hu : ups s = [66, 69, 71, 73, 78]) : Calls Tryz.prog 41 #[.string s] w (OwnIs w 2 ⟨#[66, 69, 71, 73, 78]⟩ true) := by
  have HG := Lib.hid (fun w => ogreat_any s w hs)
  rw [hu] at HG
  have k0 := Lib.hid ((Below.refl w.heap.size w).alloc (Nat.le_refl _) (.cells #[.int .i64 0, .string ⟨#[]⟩] 80))
  have B0 := Lib.hid (Blk.new w 80 #[.int .i64 0, .string ⟨#[]⟩])
  go_enter Tryz.func41, Tryz.ntmps41
  go_wp2_with fail
  refine (HG.out _).mono ?_
  rintro e w2 ⟨rfl, k2⟩
  have D2 := Lib.hid (B0.out.below k2 B0.out.lt)
  have K2 := Lib.hid (k0.out.trans (k2.mono k0.out.size))
  have HI := Lib.hid (deed_info 2 ⟨#[66, 69, 71, 73, 78]⟩)
  have H1 := Lib.hid (deed_one 2 ⟨#[66, 69, 71, 73, 78]⟩)
  clear k0 B0 k2 HG
  go_wp2_with (refine wpList_store_row rfl _ _ _ rfl w.heap.size #[.int .i64 2, .string ⟨#[66, 69, 71, 73, 78]⟩] rfl rfl _ _ D2.out HI.out rfl H1.out ?_)
  refine bodyPost_ret (Mc.results_row_tmp rfl _ _ w.heap.size _ _ (0, 0) _ rfl (setRow_heap _ _ _ _ _ _ D2.out) Tryz.underlying80 rfl HI.out) rfl ⟨rfl, ?_⟩
  exact K2.out.trans ⟨rfl, rfl, rfl, by simp, fun k hk => setRow_other _ _ _ _ (Nat.ne_of_lt hk)⟩
set_option maxHeartbeats 2000000 in
set_option maxRecDepth 100000 in
theorem own_w22 (s : ByteArray) (w : World) (hs : s.size ≤ 100000) (hu : ups s = [85, 78, 84, 73, 76]) : Calls Tryz.prog 41 #[.string s] w (OwnIs w 2 ⟨#[85, 78, 84, 73, 76]⟩ true) := by
  have HG := Lib.hid (fun w => ogreat_any s w hs)
  rw [hu] at HG
  have k0 := Lib.hid ((Below.refl w.heap.size w).alloc (Nat.le_refl _) (.cells #[.int .i64 0, .string ⟨#[]⟩] 80))
  have B0 := Lib.hid (Blk.new w 80 #[.int .i64 0, .string ⟨#[]⟩])
  go_enter Tryz.func41, Tryz.ntmps41
  go_wp2_with fail
  refine (HG.out _).mono ?_
  rintro e w2 ⟨rfl, k2⟩
  have D2 := Lib.hid (B0.out.below k2 B0.out.lt)
  have K2 := Lib.hid (k0.out.trans (k2.mono k0.out.size))
  have HI := Lib.hid (deed_info 2 ⟨#[85, 78, 84, 73, 76]⟩)
  have H1 := Lib.hid (deed_one 2 ⟨#[85, 78, 84, 73, 76]⟩)
  clear k0 B0 k2 HG
  go_wp2_with (refine wpList_store_row rfl _ _ _ rfl w.heap.size #[.int .i64 2, .string ⟨#[85, 78, 84, 73, 76]⟩] rfl rfl _ _ D2.out HI.out rfl H1.out ?_)
  refine bodyPost_ret (Mc.results_row_tmp rfl _ _ w.heap.size _ _ (0, 0) _ rfl (setRow_heap _ _ _ _ _ _ D2.out) Tryz.underlying80 rfl HI.out) rfl ⟨rfl, ?_⟩
  exact K2.out.trans ⟨rfl, rfl, rfl, by simp, fun k hk => setRow_other _ _ _ _ (Nat.ne_of_lt hk)⟩
set_option maxHeartbeats 2000000 in
set_option maxRecDepth 100000 in
theorem own_w23 (s : ByteArray) (w : World) (hs : s.size ≤ 100000) (hu : ups s = [65, 71, 65, 73, 78]) : Calls Tryz.prog 41 #[.string s] w (OwnIs w 2 ⟨#[65, 71, 65, 73, 78]⟩ true) := by
  have HG := Lib.hid (fun w => ogreat_any s w hs)
  rw [hu] at HG
  have k0 := Lib.hid ((Below.refl w.heap.size w).alloc (Nat.le_refl _) (.cells #[.int .i64 0, .string ⟨#[]⟩] 80))
  have B0 := Lib.hid (Blk.new w 80 #[.int .i64 0, .string ⟨#[]⟩])
  go_enter Tryz.func41, Tryz.ntmps41
  go_wp2_with fail
  refine (HG.out _).mono ?_
  rintro e w2 ⟨rfl, k2⟩
  have D2 := Lib.hid (B0.out.below k2 B0.out.lt)
  have K2 := Lib.hid (k0.out.trans (k2.mono k0.out.size))
  have HI := Lib.hid (deed_info 2 ⟨#[65, 71, 65, 73, 78]⟩)
  have H1 := Lib.hid (deed_one 2 ⟨#[65, 71, 65, 73, 78]⟩)
  clear k0 B0 k2 HG
  go_wp2_with (refine wpList_store_row rfl _ _ _ rfl w.heap.size #[.int .i64 2, .string ⟨#[65, 71, 65, 73, 78]⟩] rfl rfl _ _ D2.out HI.out rfl H1.out ?_)
  refine bodyPost_ret (Mc.results_row_tmp rfl _ _ w.heap.size _ _ (0, 0) _ rfl (setRow_heap _ _ _ _ _ _ D2.out) Tryz.underlying80 rfl HI.out) rfl ⟨rfl, ?_⟩
  exact K2.out.trans ⟨rfl, rfl, rfl, by simp, fun k hk => setRow_other _ _ _ _ (Nat.ne_of_lt hk)⟩
set_option maxHeartbeats 2000000 in
set_option maxRecDepth 100000 in
theorem own_w24 (s : ByteArray) (w : World) (hs : s.size ≤ 100000) (hu : ups s = [87, 72, 73, 76, 69]) : Calls Tryz.prog 41 #[.string s] w (OwnIs w 2 ⟨#[87, 72, 73, 76, 69]⟩ true) := by
  have HG := Lib.hid (fun w => ogreat_any s w hs)
  rw [hu] at HG
  have k0 := Lib.hid ((Below.refl w.heap.size w).alloc (Nat.le_refl _) (.cells #[.int .i64 0, .string ⟨#[]⟩] 80))
  have B0 := Lib.hid (Blk.new w 80 #[.int .i64 0, .string ⟨#[]⟩])
  go_enter Tryz.func41, Tryz.ntmps41
  go_wp2_with fail
  refine (HG.out _).mono ?_
  rintro e w2 ⟨rfl, k2⟩
  have D2 := Lib.hid (B0.out.below k2 B0.out.lt)
  have K2 := Lib.hid (k0.out.trans (k2.mono k0.out.size))
  have HI := Lib.hid (deed_info 2 ⟨#[87, 72, 73, 76, 69]⟩)
  have H1 := Lib.hid (deed_one 2 ⟨#[87, 72, 73, 76, 69]⟩)
  clear k0 B0 k2 HG
  go_wp2_with (refine wpList_store_row rfl _ _ _ rfl w.heap.size #[.int .i64 2, .string ⟨#[87, 72, 73, 76, 69]⟩] rfl rfl _ _ D2.out HI.out rfl H1.out ?_)
  refine bodyPost_ret (Mc.results_row_tmp rfl _ _ w.heap.size _ _ (0, 0) _ rfl (setRow_heap _ _ _ _ _ _ D2.out) Tryz.underlying80 rfl HI.out) rfl ⟨rfl, ?_⟩
  exact K2.out.trans ⟨rfl, rfl, rfl, by simp, fun k hk => setRow_other _ _ _ _ (Nat.ne_of_lt hk)⟩
end Go.Proofs.YtompdfpjmdnhoabGreatDoor.Ou
namespace Go.Proofs.YtompdfpjmdnhoabGreatDoor.Ou
open Go.RowKit Go.Proofs.YtompdfpjmdnhoabGreatDoor.Rs
set_option maxHeartbeats 2000000 in
set_option maxRecDepth 100000 in
theorem own_w25 (s : ByteArray) (w : World) (hs : s.size ≤ 100000) (hu : ups s = [82, 69, 80, 69, 65, 84]) : Calls Tryz.prog 41 #[.string s] w (OwnIs w 2 ⟨#[82, 69, 80, 69, 65, 84]⟩ true) := by
  have HG := Lib.hid (fun w => ogreat_any s w hs)
  rw [hu] at HG
  have k0 := Lib.hid ((Below.refl w.heap.size w).alloc (Nat.le_refl _) (.cells #[.int .i64 0, .string ⟨#[]⟩] 80))
  have B0 := Lib.hid (Blk.new w 80 #[.int .i64 0, .string ⟨#[]⟩])
  go_enter Tryz.func41, Tryz.ntmps41
  go_wp2_with fail
  refine (HG.out _).mono ?_
  rintro e w2 ⟨rfl, k2⟩
  have D2 := Lib.hid (B0.out.below k2 B0.out.lt)
  have K2 := Lib.hid (k0.out.trans (k2.mono k0.out.size))
  have HI := Lib.hid (deed_info 2 ⟨#[82, 69, 80, 69, 65, 84]⟩)
  have H1 := Lib.hid (deed_one 2 ⟨#[82, 69, 80, 69, 65, 84]⟩)
  clear k0 B0 k2 HG
  go_wp2_with (refine wpList_store_row rfl _ _ _ rfl w.heap.size #[.int .i64 2, .string ⟨#[82, 69, 80, 69, 65, 84]⟩] rfl rfl _ _ D2.out HI.out rfl H1.out ?_)
  refine bodyPost_ret (Mc.results_row_tmp rfl _ _ w.heap.size _ _ (0, 0) _ rfl (setRow_heap _ _ _ _ _ _ D2.out) Tryz.underlying80 rfl HI.out) rfl ⟨rfl, ?_⟩
  exact K2.out.trans ⟨rfl, rfl, rfl, by simp, fun k hk => setRow_other _ _ _ _ (Nat.ne_of_lt hk)⟩
set_option maxHeartbeats 2000000 in
set_option maxRecDepth 100000 in
theorem own_w26 (s : ByteArray) (w : World) (hs : s.size ≤ 100000) (hu : ups s = [68, 79]) : Calls Tryz.prog 41 #[.string s] w (OwnIs w 2 ⟨#[68, 79]⟩ true) := by
  have HG := Lib.hid (fun w => ogreat_any s w hs)
  rw [hu] at HG
  have k0 := Lib.hid ((Below.refl w.heap.size w).alloc (Nat.le_refl _) (.cells #[.int .i64 0, .string ⟨#[]⟩] 80))
  have B0 := Lib.hid (Blk.new w 80 #[.int .i64 0, .string ⟨#[]⟩])
  go_enter Tryz.func41, Tryz.ntmps41
  go_wp2_with fail
  refine (HG.out _).mono ?_
  rintro e w2 ⟨rfl, k2⟩
  have D2 := Lib.hid (B0.out.below k2 B0.out.lt)
  have K2 := Lib.hid (k0.out.trans (k2.mono k0.out.size))
  have HI := Lib.hid (deed_info 2 ⟨#[68, 79]⟩)
  have H1 := Lib.hid (deed_one 2 ⟨#[68, 79]⟩)
  clear k0 B0 k2 HG
  go_wp2_with (refine wpList_store_row rfl _ _ _ rfl w.heap.size #[.int .i64 2, .string ⟨#[68, 79]⟩] rfl rfl _ _ D2.out HI.out rfl H1.out ?_)
  refine bodyPost_ret (Mc.results_row_tmp rfl _ _ w.heap.size _ _ (0, 0) _ rfl (setRow_heap _ _ _ _ _ _ D2.out) Tryz.underlying80 rfl HI.out) rfl ⟨rfl, ?_⟩
  exact K2.out.trans ⟨rfl, rfl, rfl, by simp, fun k hk => setRow_other _ _ _ _ (Nat.ne_of_lt hk)⟩
set_option maxHeartbeats 2000000 in
set_option maxRecDepth 100000 in
theorem own_w27 (s : ByteArray) (w : World) (hs : s.size ≤ 100000) (hu : ups s = [76, 79, 79, 80]) : Calls Tryz.prog 41 #[.string s] w (OwnIs w 2 ⟨#[76, 79, 79, 80]⟩ true) := by
  have HG := Lib.hid (fun w => ogreat_any s w hs)
  rw [hu] at HG
  have k0 := Lib.hid ((Below.refl w.heap.size w).alloc (Nat.le_refl _) (.cells #[.int .i64 0, .string ⟨#[]⟩] 80))
  have B0 := Lib.hid (Blk.new w 80 #[.int .i64 0, .string ⟨#[]⟩])
  go_enter Tryz.func41, Tryz.ntmps41
  go_wp2_with fail
  refine (HG.out _).mono ?_
  rintro e w2 ⟨rfl, k2⟩
  have D2 := Lib.hid (B0.out.below k2 B0.out.lt)
  have K2 := Lib.hid (k0.out.trans (k2.mono k0.out.size))
  have HI := Lib.hid (deed_info 2 ⟨#[76, 79, 79, 80]⟩)
  have H1 := Lib.hid (deed_one 2 ⟨#[76, 79, 79, 80]⟩)
  clear k0 B0 k2 HG
  go_wp2_with (refine wpList_store_row rfl _ _ _ rfl w.heap.size #[.int .i64 2, .string ⟨#[76, 79, 79, 80]⟩] rfl rfl _ _ D2.out HI.out rfl H1.out ?_)
  refine bodyPost_ret (Mc.results_row_tmp rfl _ _ w.heap.size _ _ (0, 0) _ rfl (setRow_heap _ _ _ _ _ _ D2.out) Tryz.underlying80 rfl HI.out) rfl ⟨rfl, ?_⟩
  exact K2.out.trans ⟨rfl, rfl, rfl, by simp, fun k hk => setRow_other _ _ _ _ (Nat.ne_of_lt hk)⟩
set_option maxHeartbeats 2000000 in
set_option maxRecDepth 100000 in
theorem own_w28 (s : ByteArray) (w : World) (hs : s.size ≤ 100000) (hu : ups s = [43, 76, 79, 79, 80]) : Calls Tryz.prog 41 #[.string s] w (OwnIs w 2 ⟨#[43, 76, 79, 79, 80]⟩ true) := by
  have HG := Lib.hid (fun w => ogreat_any s w hs)
  rw [hu] at HG
  have k0 := Lib.hid ((Below.refl w.heap.size w).alloc (Nat.le_refl _) (.cells #[.int .i64 0, .string ⟨#[]⟩] 80))
  have B0 := Lib.hid (Blk.new w 80 #[.int .i64 0, .string ⟨#[]⟩])
  go_enter Tryz.func41, Tryz.ntmps41
  go_wp2_with fail
  refine (HG.out _).mono ?_
  rintro e w2 ⟨rfl, k2⟩
  have D2 := Lib.hid (B0.out.below k2 B0.out.lt)
  have K2 := Lib.hid (k0.out.trans (k2.mono k0.out.size))
  have HI := Lib.hid (deed_info 2 ⟨#[43, 76, 79, 79, 80]⟩)
  have H1 := Lib.hid (deed_one 2 ⟨#[43, 76, 79, 79, 80]⟩)
  clear k0 B0 k2 HG
  go_wp2_with (refine wpList_store_row rfl _ _ _ rfl w.heap.size #[.int .i64 2, .string ⟨#[43, 76, 79, 79, 80]⟩] rfl rfl _ _ D2.out HI.out rfl H1.out ?_)
  refine bodyPost_ret (Mc.results_row_tmp rfl _ _ w.heap.size _ _ (0, 0) _ rfl (setRow_heap _ _ _ _ _ _ D2.out) Tryz.underlying80 rfl HI.out) rfl ⟨rfl, ?_⟩
  exact K2.out.trans ⟨rfl, rfl, rfl, by simp, fun k hk => setRow_other _ _ _ _ (Nat.ne_of_lt hk)⟩
set_option maxHeartbeats 2000000 in
set_option maxRecDepth 100000 in
theorem own_w29 (s : ByteArray) (w : World) (hs : s.size ≤ 100000) (hu : ups s = [40]) : Calls Tryz.prog 41 #[.string s] w (OwnIs w 3 ⟨#[40]⟩ true) := by
  have HG := Lib.hid (fun w => ogreat_any s w hs)
  rw [hu] at HG
  have k0 := Lib.hid ((Below.refl w.heap.size w).alloc (Nat.le_refl _) (.cells #[.int .i64 0, .string ⟨#[]⟩] 80))
  have B0 := Lib.hid (Blk.new w 80 #[.int .i64 0, .string ⟨#[]⟩])
  go_enter Tryz.func41, Tryz.ntmps41
  go_wp2_with fail
  refine (HG.out _).mono ?_
  rintro e w2 ⟨rfl, k2⟩
  have D2 := Lib.hid (B0.out.below k2 B0.out.lt)
  have K2 := Lib.hid (k0.out.trans (k2.mono k0.out.size))
  have HI := Lib.hid (deed_info 3 ⟨#[40]⟩)
  have H1 := Lib.hid (deed_one 3 ⟨#[40]⟩)
  clear k0 B0 k2 HG
  go_wp2_with (refine wpList_store_row rfl _ _ _ rfl w.heap.size #[.int .i64 3, .string ⟨#[40]⟩] rfl rfl _ _ D2.out HI.out rfl H1.out ?_)
  refine bodyPost_ret (Mc.results_row_tmp rfl _ _ w.heap.size _ _ (0, 0) _ rfl (setRow_heap _ _ _ _ _ _ D2.out) Tryz.underlying80 rfl HI.out) rfl ⟨rfl, ?_⟩
  exact K2.out.trans ⟨rfl, rfl, rfl, by simp, fun k hk => setRow_other _ _ _ _ (Nat.ne_of_lt hk)⟩
end Go.Proofs.YtompdfpjmdnhoabGreatDoor.Ou
