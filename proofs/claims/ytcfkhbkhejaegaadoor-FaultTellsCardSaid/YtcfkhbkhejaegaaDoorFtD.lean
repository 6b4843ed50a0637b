/-
  Chapter 2 (fault): inner, Code, Where.
-/
import Derived.Test.YtcfkhbkhejaegaaDoorFtC
namespace Go.Proofs.YtcfkhbkhejaegaaDoor.Ft
open Go.RowKit Go.Extern.Stop Go.Stop Go.Extern

theorem HandleIs.below {w w' : World} (h : HandleIs w) (hb : Below w.heap.size w w') : HandleIs w' := by
  have hlt : 0 < w.heap.size := by
    unfold HandleIs at h
    rcases Nat.lt_or_ge 0 w.heap.size with h' | h'
    · exact h'
    · simp [World.cell?, Array.getElem?_eq_none h'] at h
  exact (hb.cell (p := ⟨0, 0, none⟩) hlt).trans h

set_option maxHeartbeats 2000000 in
set_option maxRecDepth 100000 in
theorem inner_any (code ip : Int) (ws : List ByteArray) (v : Value) (w : World) (H : ErrIs w code ip ws v) (hg : HandleIs w) :
    Calls Tryd.prog 40 #[v] w fun e w' => e = .returned (.agg #[.int .i64 code, .int .i64 ip]) ∧ Below w.heap.size w w' := by
  have HH := Lib.hid H
  have HG := Lib.hid hg
  clear H hg
  go_enter Tryd.func40, Tryd.ntmps40
  have b0 : Below w.heap.size w ((w.alloc (.cells #[.int .i64 0, .int .i64 0] 73)).alloc (.cells #[.pointer none] 71)) := ((Below.refl _ _).alloc (Nat.le_refl _) _).alloc (by simp) _
  have HA := Lib.hid (As_f code ip ws v (w.heap.size + 1) _ (HH.out.below b0) (HG.out.below b0) (by simp) (by simp))
  have HB := Lib.hid b0
  clear b0
  go_wp2_with fail
  refine HA.out.mono ?_
  rintro e w' ⟨rfl, b, w1, h1, h2, rfl⟩
  have hsz := h1.size
  simp at hsz
  have k0 : w1.heap[w.heap.size]? = some (.cells #[.int .i64 0, .int .i64 0] 73 (0, 0)) := (h1.block w.heap.size (by simp; omega)).trans (by rw [Below.heap_alloc _ _ _ (by simp)]; exact heap_alloc_new w _)
  have k1 : Blk w1 (w.heap.size + 1) 71 #[.pointer none] := (h1.block (w.heap.size + 1) (by simp)).trans (by have := heap_alloc_new (w.alloc (.cells #[.int .i64 0, .int .i64 0] 73)) (.cells #[.pointer none] 71); simpa using this)
  have n1 : b ≠ w.heap.size + 1 := Blk.ne_ h2 k1 (by decide)
  have g1 : Blk (w1.setCell ⟨w.heap.size + 1, 0, none⟩ (.pointer (some ⟨b, 0, none⟩))) (w.heap.size + 1) 71 #[.pointer (some ⟨b, 0, none⟩)] := k1.set_ 0 _
  have g2 : Blk (w1.setCell ⟨w.heap.size + 1, 0, none⟩ (.pointer (some ⟨b, 0, none⟩))) b 73 #[.int .i64 code, .int .i64 ip] := h2.far (p := ⟨w.heap.size + 1, 0, none⟩) n1 _
  have g0 : Blk (w1.setCell ⟨w.heap.size + 1, 0, none⟩ (.pointer (some ⟨b, 0, none⟩))) w.heap.size 73 #[.int .i64 0, .int .i64 0] := Blk.far (p := ⟨w.heap.size + 1, 0, none⟩) (show Blk w1 w.heap.size _ _ from k0) (by simp) _
  have c1 : (w1.setCell ⟨w.heap.size + 1, 0, none⟩ (.pointer (some ⟨b, 0, none⟩))).cell? ⟨w.heap.size + 1, 0, none⟩ = some (.pointer (some ⟨b, 0, none⟩)) := g1.cell 0
  have c2 : (w1.setCell ⟨w.heap.size + 1, 0, none⟩ (.pointer (some ⟨b, 0, none⟩))).cell? ⟨b, 0, none⟩ = some (.int .i64 code) := g2.cell 0
  have c3 : (w1.setCell ⟨w.heap.size + 1, 0, none⟩ (.pointer (some ⟨b, 0, none⟩))).cell? ⟨b, 1, none⟩ = some (.int .i64 ip) := g2.cell 1
  have d0 : (w1.setCell ⟨w.heap.size + 1, 0, none⟩ (.pointer (some ⟨b, 0, none⟩))).cell? ⟨w.heap.size, 0, none⟩ = some (.int .i64 0) := g0.cell 0
  have d1 : (w1.setCell ⟨w.heap.size + 1, 0, none⟩ (.pointer (some ⟨b, 0, none⟩))).cell? ⟨w.heap.size, 1, none⟩ = some (.int .i64 0) := g0.cell 1
  have z0 : (w1.setCell ⟨w.heap.size + 1, 0, none⟩ (.pointer (some ⟨b, 0, none⟩))).frozen? ⟨w.heap.size, 0, none⟩ = false := g0.frozen 0
  have z1 : (w1.setCell ⟨w.heap.size + 1, 0, none⟩ (.pointer (some ⟨b, 0, none⟩))).frozen? ⟨w.heap.size, 1, none⟩ = false := g0.frozen 1
  have HW := Lib.hid ((HB.out.trans (h1.mono (by simp; omega))).setCell (p := ⟨w.heap.size + 1, 0, none⟩) (by simp) (.pointer (some ⟨b, 0, none⟩)))
  clear h1 h2 k0 k1 g1 g2 HA
  generalize w1.setCell ⟨w.heap.size + 1, 0, none⟩ (.pointer (some ⟨b, 0, none⟩)) = w2 at *
  go_wp2_with fail
  have g3 := (g0.set_ 0 (.int .i64 code)).set_ 1 (.int .i64 ip)
  have HW2 := Lib.hid ((HW.out.setCell (p := ⟨w.heap.size, 0, none⟩) (Nat.le_refl _) (.int .i64 code)).setCell (p := ⟨w.heap.size, 1, none⟩) (Nat.le_refl _) (.int .i64 ip))
  refine bodyPost_ret_by (v := .agg #[.int .i64 code, .int .i64 ip]) (results_cell_row (fn := Tryd.f40) (p := 2) (ty := 73) rfl _ _ w.heap.size 73 #[.int .i64 code, .int .i64 ip] (0, 0) _ rfl g3 Tryd.underlying73 rfl (by kernel_rfl)) rfl ?_
  exact ⟨rfl, HW2.out⟩

set_option maxRecDepth 100000 in
theorem code_any (code ip : Int) (ws : List ByteArray) (v : Value) (w : World) (H : ErrIs w code ip ws v) (hg : HandleIs w) :
    Calls Tryd.prog 23 #[v] w fun e w' => e = .returned (.int .i64 code) ∧ Below w.heap.size w w' := by
  have HI := Lib.hid (inner_any code ip ws v w H hg)
  clear H hg
  have fe : ∀ W, (Instr.field 73 (.agg #[.int .i64 code, .int .i64 ip]) 0).run Tryd.prog W = .ok (.int .i64 code) W := fun W => by kernel_rfl
  go_enter Tryd.func23, Tryd.ntmps23
  go_wp2_with fail
  refine HI.out.mono ?_
  rintro e w' ⟨rfl, hb⟩
  have HB := Lib.hid hb
  clear hb HI
  go_wp2_with fail
  go_ret
  exact ⟨rfl, HB.out⟩
set_option maxRecDepth 100000 in
theorem where_any (code ip : Int) (ws : List ByteArray) (v : Value) (w : World) (H : ErrIs w code ip ws v) (hg : HandleIs w) :
    Calls Tryd.prog 24 #[v] w fun e w' => e = .returned (.int .i64 ip) ∧ Below w.heap.size w w' := by
  have HI := Lib.hid (inner_any code ip ws v w H hg)
  clear H hg
  have fe : ∀ W, (Instr.field 73 (.agg #[.int .i64 code, .int .i64 ip]) 1).run Tryd.prog W = .ok (.int .i64 ip) W := fun W => by kernel_rfl
  go_enter Tryd.func24, Tryd.ntmps24
  go_wp2_with fail
  refine HI.out.mono ?_
  rintro e w' ⟨rfl, hb⟩
  have HB := Lib.hid hb
  clear hb HI
  go_wp2_with fail
  go_ret
  exact ⟨rfl, HB.out⟩
end Go.Proofs.YtcfkhbkhejaegaaDoor.Ft
