/-
  Lemmas on the way, for every input that they name: McB, McC, McO, McQ, McH.
-/
import Derived.Test.YtompdfpjmdnhoabGreatDoorProg
import Derived.Deep.DeepCutAuto
import Derived.Deep.CutBlock
import Derived.Deep.LoopGhost
import Derived.Deep.RegionLaw
import Derived.Deep.RegionWith
import Derived.Deep.RegionHeld3
import Derived.BigQuiet
import Derived.WalkKit
import Derived.Laws.Tables
import Derived.Test.YtompdfpjmdnhoabGreatDoorQ00
import Derived.Test.YtompdfpjmdnhoabGreatDoorQ04
set_option linter.unusedVariables false
set_option linter.unusedSimpArgs false
set_option linter.deprecated false
namespace Go.Proofs.YtompdfpjmdnhoabGreatDoor.Mc
open Go.RowKit
def opNames : List (List UInt8) := [[72, 65, 76, 84], [69, 78, 68, 67, 65, 84, 67, 72], [76, 73, 84], [66, 82, 65, 78, 67, 72], [48, 66, 82, 65, 78, 67, 72], [69, 88, 73, 84], [68, 85, 80], [68, 82, 79, 80], [83, 87, 65, 80], [79, 86, 69, 82], [82, 79, 84], [43], [45], [42], [47], [77, 79, 68], [78, 69, 71, 65, 84, 69], [65, 78, 68], [79, 82], [88, 79, 82], [73, 78, 86, 69, 82, 84], [76, 83, 72, 73, 70, 84], [82, 83, 72, 73, 70, 84], [61], [60], [85, 60], [48, 61], [48, 60], [77, 73, 78], [77, 65, 88], [64], [33], [43, 33], [62, 82], [82, 62], [82, 64], [40, 68, 79, 41], [40, 76, 79, 79, 80, 41], [40, 43, 76, 79, 79, 80, 41], [74], [85, 78, 76, 79, 79, 80], [69, 77, 73, 84], [46], [75, 69, 89], [69, 88, 69, 67, 85, 84, 69], [84, 72, 82, 79, 87], [67, 65, 84, 67, 72], [78, 79, 80]]
def opName (c : Int) : ByteArray := ⟨(opNames.getD c.toNat []).toArray⟩
def rowOf (c : Nat) : Array Value := #[.string (opName c), .int .i64 (moves c).1, .int .i64 (moves c).2.1, .int .i64 (moves c).2.2.1, .int .i64 (moves c).2.2.2]
def tbl : Array Value := ((List.range 48).flatMap fun c => (rowOf c).toList).toArray
set_option maxHeartbeats 4000000 in
set_option maxRecDepth 100000 in
theorem table_any (w : World) : Calls Tryz.prog 49 #[] w fun e w' => e = .returned (.agg tbl) ∧ Below w.heap.size w w' := by
  go_enter Tryz.func49, Tryz.ntmps49
  go_wp2_with (refine wpList_store_row rfl _ _ _ rfl w.heap.size tbl rfl (by kernel_rfl) _ _ (heap_alloc_new _ _) (by kernel_rfl) (by kernel_rfl) (by kernel_rfl) ?_)
  refine bodyPost_ret (results_cell_row rfl _ _ w.heap.size _ tbl (0, 0) _ rfl (setRow_heap _ _ _ _ _ _ (heap_alloc_new _ _)) Tryz.underlying90 rfl (by kernel_rfl)) rfl ⟨rfl, ?_⟩
  exact ⟨rfl, rfl, rfl, by simp, fun k hk => (setRow_other _ _ _ _ (by omega)).trans (Below.heap_alloc _ _ _ hk)⟩
end Go.Proofs.YtompdfpjmdnhoabGreatDoor.Mc
namespace Go.Proofs.YtompdfpjmdnhoabGreatDoor.Mc
open Go.RowKit Go.Proofs.YtompdfpjmdnhoabGreatDoor.Rs
def mCells (sv bv mv : Value) (s : S) (t : Bool) : Array Value := #[.int .i64 s.ip, .int .i64 s.handler, sv, bv, mv, .string s.out, .string s.inp, .int .i64 s.read, .int .i64 s.status, .int .i64 s.code, .bool t]
def mach (m : Nat) (sv bv mv : Value) (s : S) (t : Bool) : List Res :=
  [.st m 70 (mCells sv bv mv s t), .row 3 1 sv s.stack.length (ints s.stack), .row 3 1 bv s.back.length (ints s.back), .row 3 1 mv s.mem.length (ints s.mem)]
theorem infoInt : (Tryz.prog.info? 3).map (fun i => (i.zero, i.size, i.bytes)) = some (some (.int .i64 0), 1, 8) := by kernel_rfl
section
variable {w : World} {B m : Nat} {sv bv mv : Value} {s : S} {t : Bool}
theorem m_blk (H : Held w B (mach m sv bv mv s t)) : Blk w m 70 (mCells sv bv mv s t) := H.blk (List.mem_cons_self ..)
theorem m_stack (H : Held w B (mach m sv bv mv s t)) : Row w B 3 1 sv s.stack.length (ints s.stack) := H.row (by simp [mach])
theorem m_back (H : Held w B (mach m sv bv mv s t)) : Row w B 3 1 bv s.back.length (ints s.back) := H.row (by simp [mach])
theorem m_mem (H : Held w B (mach m sv bv mv s t)) : Row w B 3 1 mv s.mem.length (ints s.mem) := H.row (by simp [mach])
end
def Goes (w : World) (B m : Nat) (sv bv mv : Value) (s : S) (t : Bool) (s' : S) (t' : Bool) (w' : World) : Prop :=
  ∃ sv' bv', Turns w B (mach m sv bv mv s t) (mach m sv' bv' mv s' t') w'
set_option maxHeartbeats 1000000 in
theorem push_any (B m : Nat) (sv bv mv : Value) (s : S) (t : Bool) (w : World) (H : Held w B (mach m sv bv mv s t)) (hB : B ≤ w.heap.size) (A : Option Addr) (c n : Nat) (l : List Int) (hn : n = l.length) (hr : Reads w w.heap.size 1 A n (ints l)) (hs : s.stack.length + l.length ≤ 1000) :
    Calls Tryz.prog 97 #[.pointer (some ⟨m, 0, none⟩), .slice A n c] w fun e w' => e = .returned (.tuple #[]) ∧ Goes w B m sv bv mv s t (push s l) t w' := by
  obtain ⟨i0, hi, hz0, hz1, hz2⟩ := info_parts infoInt
  obtain ⟨SA, sc, rfl⟩ := (m_stack H).slice
  have k := m_blk H
  have c2 : w.cell? ⟨m, 2, none⟩ = some (.slice SA s.stack.length sc) := k.cell 2
  subst hn
  go_enter Tryz.func97, Tryz.ntmps97
  go_wp2_with (at_builtin; refine wpList_append_row _ rfl _ _ 31 rfl B 3 i0 (.int .i64 0) 1 8 Tryz.underlying31 hi hz0 hz1 hz2 rfl (by decide) _ _ _ rfl (m_stack H) w.heap.size A l.length c _ rfl hr (ints_one l) ?c1 ?c2 hB ?_)
  case c1 => unfold maxLen; omega
  case c2 => omega
  intro v' w2 hrow hg hv
  obtain ⟨VA, vc, rfl⟩ := hrow.slice
  have N1 := Turns.grow_at [.st m 70 (mCells (.slice SA s.stack.length sc) bv mv s t)] [.row 3 1 bv s.back.length (ints s.back), .row 3 1 mv s.mem.length (ints s.mem)] H hrow hg hv
  have k2 : Blk w2 m 70 (mCells (.slice SA s.stack.length sc) bv mv s t) := N1.held.blk (List.mem_cons_self ..)
  have d2 : w2.cell? ⟨m, 2, none⟩ = some (.slice SA s.stack.length sc) := k2.cell 2
  have f2 := k2.frozen 2
  have N2 := N1.trans (Turns.set N1.held 2 (.slice VA (s.stack.length + l.length) vc))
  rw [← ints_append] at N2
  have N := Lib.hid N2
  clear N1 N2 hrow hg hv k k2 c2 H hr
  go_wp2_with fail
  go_end0
  have M := N.out
  rw [show s.stack.length + l.length = (s.stack ++ l).length by simp] at M ⊢
  exact ⟨rfl, _, bv, M⟩
set_option maxHeartbeats 1000000 in
theorem back_any (B m : Nat) (sv bv mv : Value) (s : S) (t : Bool) (w : World) (H : Held w B (mach m sv bv mv s t)) (hB : B ≤ w.heap.size) (A : Option Addr) (c n : Nat) (l : List Int) (hn : n = l.length) (hr : Reads w w.heap.size 1 A n (ints l)) (hs : s.back.length + l.length ≤ 1000) :
    Calls Tryz.prog 93 #[.pointer (some ⟨m, 0, none⟩), .slice A n c] w fun e w' => e = .returned (.tuple #[]) ∧ Goes w B m sv bv mv s t (lay s l) t w' := by
  obtain ⟨i0, hi, hz0, hz1, hz2⟩ := info_parts infoInt
  obtain ⟨SA, sc, rfl⟩ := (m_back H).slice
  have k := m_blk H
  have c2 : w.cell? ⟨m, 3, none⟩ = some (.slice SA s.back.length sc) := k.cell 3
  subst hn
  go_enter Tryz.func93, Tryz.ntmps93
  go_wp2_with (at_builtin; refine wpList_append_row _ rfl _ _ 31 rfl B 3 i0 (.int .i64 0) 1 8 Tryz.underlying31 hi hz0 hz1 hz2 rfl (by decide) _ _ _ rfl (m_back H) w.heap.size A l.length c _ rfl hr (ints_one l) ?c1 ?c2 hB ?_)
  case c1 => unfold maxLen; omega
  case c2 => omega
  intro v' w2 hrow hg hv
  obtain ⟨VA, vc, rfl⟩ := hrow.slice
  have N1 := Turns.grow_at [.st m 70 (mCells sv (.slice SA s.back.length sc) mv s t), .row 3 1 sv s.stack.length (ints s.stack)] [.row 3 1 mv s.mem.length (ints s.mem)] H hrow hg hv
  have k2 : Blk w2 m 70 (mCells sv (.slice SA s.back.length sc) mv s t) := N1.held.blk (List.mem_cons_self ..)
  have d2 : w2.cell? ⟨m, 3, none⟩ = some (.slice SA s.back.length sc) := k2.cell 3
  have f2 := k2.frozen 3
  have N2 := N1.trans (Turns.set N1.held 3 (.slice VA (s.back.length + l.length) vc))
  rw [← ints_append] at N2
  have N := Lib.hid N2
  clear N1 N2 hrow hg hv k k2 c2 H hr
  go_wp2_with fail
  go_end0
  have M := N.out
  rw [show s.back.length + l.length = (s.back ++ l).length by simp] at M ⊢
  exact ⟨rfl, sv, _, M⟩
theorem len_dropLast {l : List Int} (h : l ≠ []) : l.length = l.dropLast.length + 1 := by cases l with | nil => exact absurd rfl h | cons a r => simp
theorem take_dropLast (l : List Int) : l.take l.dropLast.length = l.dropLast := by rw [List.length_dropLast, List.dropLast_eq_take]
theorem top_get (l : List Int) (h : l ≠ []) : (ints l)[l.dropLast.length]? = some (.int .i64 (top l)) := by
  have := len_dropLast h
  rw [ints_get l _ (by omega)]
  unfold top
  rw [List.length_dropLast]
set_option maxHeartbeats 1000000 in
theorem pop_any (B m : Nat) (sv bv mv : Value) (s : S) (t : Bool) (w : World) (H : Held w B (mach m sv bv mv s t)) (hs : s.stack ≠ []) (hs2 : s.stack.length ≤ 1000) :
    Calls Tryz.prog 98 #[.pointer (some ⟨m, 0, none⟩)] w fun e w' => e = .returned (.int .i64 (top s.stack)) ∧ Goes w B m sv bv mv s t (pop s) t w' := by
  have hl := len_dropLast hs
  obtain ⟨g, c, rfl, hc, hb, hg, hcell, hfz⟩ := (m_stack H).form (by omega)
  have k := m_blk H
  have hx := hcell s.stack.dropLast.length (by omega)
  rw [top_get s.stack hs] at hx
  have N1 := Turns.turn_at [.st m 70 (mCells (.slice (some ⟨g, 0, none⟩) s.stack.length (c + 1)) bv mv s t)] [.row 3 1 bv s.back.length (ints s.back), .row 3 1 mv s.mem.length (ints s.mem)] H ((m_stack H).take (k := s.stack.dropLast.length) (by omega)) (fun k hk => hk)
  have N2 := N1.trans (Turns.set N1.held 2 (.slice (some ⟨g, 0, none⟩) s.stack.dropLast.length (c + 1)))
  rw [Nat.mul_one, ints_take, take_dropLast] at N2
  have N := Lib.hid N2
  have c2 : w.cell? ⟨m, 2, none⟩ = some (.slice (some ⟨g, 0, none⟩) s.stack.length (c + 1)) := k.cell 2
  have f2 := k.frozen 2
  rw [hl] at c2 hc hs2
  generalize hd : s.stack.dropLast.length = d at *
  have Hd := Lib.hid hd
  generalize htop : top s.stack = x at *
  clear N1 N2 k hcell hfz H hs hl hd htop
  go_enter Tryz.func98, Tryz.ntmps98
  go_wp2_with fail
  go_ret
  exact ⟨rfl, .slice (some ⟨g, 0, none⟩) d (c + 1), bv, by have := N.out; rw [← Hd.out] at this ⊢; exact this⟩
set_option maxHeartbeats 1000000 in
theorem popBack_any (B m : Nat) (sv bv mv : Value) (s : S) (t : Bool) (w : World) (H : Held w B (mach m sv bv mv s t)) (hs : s.back ≠ []) (hs2 : s.back.length ≤ 1000) :
    Calls Tryz.prog 99 #[.pointer (some ⟨m, 0, none⟩)] w fun e w' => e = .returned (.int .i64 (top s.back)) ∧ Goes w B m sv bv mv s t (popBack s) t w' := by
  have hl := len_dropLast hs
  obtain ⟨g, c, rfl, hc, hb, hg, hcell, hfz⟩ := (m_back H).form (by omega)
  have k := m_blk H
  have hx := hcell s.back.dropLast.length (by omega)
  rw [top_get s.back hs] at hx
  have N1 := Turns.turn_at [.st m 70 (mCells sv (.slice (some ⟨g, 0, none⟩) s.back.length (c + 1)) mv s t), .row 3 1 sv s.stack.length (ints s.stack)] [.row 3 1 mv s.mem.length (ints s.mem)] H ((m_back H).take (k := s.back.dropLast.length) (by omega)) (fun k hk => hk)
  have N2 := N1.trans (Turns.set N1.held 3 (.slice (some ⟨g, 0, none⟩) s.back.dropLast.length (c + 1)))
  rw [Nat.mul_one, ints_take, take_dropLast] at N2
  have N := Lib.hid N2
  have c2 : w.cell? ⟨m, 3, none⟩ = some (.slice (some ⟨g, 0, none⟩) s.back.length (c + 1)) := k.cell 3
  have f2 := k.frozen 3
  rw [hl] at c2 hc hs2
  generalize hd : s.back.dropLast.length = d at *
  have Hd := Lib.hid hd
  generalize htop : top s.back = x at *
  clear N1 N2 k hcell hfz H hs hl hd htop
  go_enter Tryz.func99, Tryz.ntmps99
  go_wp2_with fail
  go_ret
  exact ⟨rfl, sv, .slice (some ⟨g, 0, none⟩) d (c + 1), by have := N.out; rw [← Hd.out] at this ⊢; exact this⟩
end Go.Proofs.YtompdfpjmdnhoabGreatDoor.Mc
namespace Go.Proofs.YtompdfpjmdnhoabGreatDoor.Mc
open Go.RowKit Go.Proofs.YtompdfpjmdnhoabGreatDoor.Rs
theorem right_op (c : Int) (hc : isOp c = true) (w : World) : Calls Tryz.prog 48 #[.int .i64 c] w fun e w' => e = .returned (.bool true) ∧ w = w' := by
  have hc2 : 0 ≤ c ∧ c < 48 := by simpa [isOp] using hc
  obtain ⟨h1, h2⟩ := hc2
  clear hc
  go_enter Tryz.func48, Tryz.ntmps48
  go_wp2_with fail
  go_ret
  exact ⟨by simp [h1, h2], rfl⟩
theorem right_no (c : Int) (hc : isOp c = false) (w : World) : Calls Tryz.prog 48 #[.int .i64 c] w fun e w' => e = .returned (.bool false) ∧ w = w' := by
  have hc2 : c < 0 ∨ 48 ≤ c := by
    rcases Int.lt_or_le c 0 with h | h
    · exact .inl h
    · rcases Int.lt_or_le c 48 with h2 | h2
      · exfalso; simp [isOp, h, h2] at hc
      · exact .inr h2
  clear hc
  by_cases h1 : c < 0
  · have h3 : ¬ 0 ≤ c := by omega
    clear hc2
    go_enter Tryz.func48, Tryz.ntmps48
    go_wp2_with fail
    go_ret
    exact ⟨by simp [h3], rfl⟩
  · have h3 : 0 ≤ c := by omega
    have h4 : ¬ c < 48 := by omega
    clear hc2 h1
    go_enter Tryz.func48, Tryz.ntmps48
    go_wp2_with fail
    go_ret
    exact ⟨by simp [h3, h4], rfl⟩
theorem op_cases {P : Int → Prop} (h : ∀ k : Fin 48, P (k.1 : Int)) (c : Int) (hc : isOp c = true) : P c := by
  have hc2 : 0 ≤ c ∧ c < 48 := by simpa [isOp] using hc
  have := h ⟨c.toNat, by omega⟩
  have e : ((c.toNat : Nat) : Int) = c := by omega
  dsimp only at this
  rw [e] at this
  exact this
set_option maxRecDepth 100000 in
theorem ix0 (w : World) : (Instr.index 90 (.agg tbl) (.int .i64 0)).run Tryz.prog w = .ok (.agg (rowOf 0)) w := by kernel_rfl
set_option maxRecDepth 100000 in
theorem ix1 (w : World) : (Instr.index 90 (.agg tbl) (.int .i64 1)).run Tryz.prog w = .ok (.agg (rowOf 1)) w := by kernel_rfl
set_option maxRecDepth 100000 in
theorem ix2 (w : World) : (Instr.index 90 (.agg tbl) (.int .i64 2)).run Tryz.prog w = .ok (.agg (rowOf 2)) w := by kernel_rfl
set_option maxRecDepth 100000 in
theorem ix3 (w : World) : (Instr.index 90 (.agg tbl) (.int .i64 3)).run Tryz.prog w = .ok (.agg (rowOf 3)) w := by kernel_rfl
set_option maxRecDepth 100000 in
theorem ix4 (w : World) : (Instr.index 90 (.agg tbl) (.int .i64 4)).run Tryz.prog w = .ok (.agg (rowOf 4)) w := by kernel_rfl
set_option maxRecDepth 100000 in
theorem ix5 (w : World) : (Instr.index 90 (.agg tbl) (.int .i64 5)).run Tryz.prog w = .ok (.agg (rowOf 5)) w := by kernel_rfl
set_option maxRecDepth 100000 in
theorem ix6 (w : World) : (Instr.index 90 (.agg tbl) (.int .i64 6)).run Tryz.prog w = .ok (.agg (rowOf 6)) w := by kernel_rfl
set_option maxRecDepth 100000 in
theorem ix7 (w : World) : (Instr.index 90 (.agg tbl) (.int .i64 7)).run Tryz.prog w = .ok (.agg (rowOf 7)) w := by kernel_rfl
set_option maxRecDepth 100000 in
theorem ix8 (w : World) : (Instr.index 90 (.agg tbl) (.int .i64 8)).run Tryz.prog w = .ok (.agg (rowOf 8)) w := by kernel_rfl
set_option maxRecDepth 100000 in
theorem ix9 (w : World) : (Instr.index 90 (.agg tbl) (.int .i64 9)).run Tryz.prog w = .ok (.agg (rowOf 9)) w := by kernel_rfl
set_option maxRecDepth 100000 in
theorem ix10 (w : World) : (Instr.index 90 (.agg tbl) (.int .i64 10)).run Tryz.prog w = .ok (.agg (rowOf 10)) w := by kernel_rfl
set_option maxRecDepth 100000 in
theorem ix11 (w : World) : (Instr.index 90 (.agg tbl) (.int .i64 11)).run Tryz.prog w = .ok (.agg (rowOf 11)) w := by kernel_rfl
set_option maxRecDepth 100000 in
theorem ix12 (w : World) : (Instr.index 90 (.agg tbl) (.int .i64 12)).run Tryz.prog w = .ok (.agg (rowOf 12)) w := by kernel_rfl
set_option maxRecDepth 100000 in
theorem ix13 (w : World) : (Instr.index 90 (.agg tbl) (.int .i64 13)).run Tryz.prog w = .ok (.agg (rowOf 13)) w := by kernel_rfl
set_option maxRecDepth 100000 in
theorem ix14 (w : World) : (Instr.index 90 (.agg tbl) (.int .i64 14)).run Tryz.prog w = .ok (.agg (rowOf 14)) w := by kernel_rfl
set_option maxRecDepth 100000 in
theorem ix15 (w : World) : (Instr.index 90 (.agg tbl) (.int .i64 15)).run Tryz.prog w = .ok (.agg (rowOf 15)) w := by kernel_rfl
set_option maxRecDepth 100000 in
theorem ix16 (w : World) : (Instr.index 90 (.agg tbl) (.int .i64 16)).run Tryz.prog w = .ok (.agg (rowOf 16)) w := by kernel_rfl
set_option maxRecDepth 100000 in
theorem ix17 (w : World) : (Instr.index 90 (.agg tbl) (.int .i64 17)).run Tryz.prog w = .ok (.agg (rowOf 17)) w := by kernel_rfl
set_option maxRecDepth 100000 in
theorem ix18 (w : World) : (Instr.index 90 (.agg tbl) (.int .i64 18)).run Tryz.prog w = .ok (.agg (rowOf 18)) w := by kernel_rfl
set_option maxRecDepth 100000 in
theorem ix19 (w : World) : (Instr.index 90 (.agg tbl) (.int .i64 19)).run Tryz.prog w = .ok (.agg (rowOf 19)) w := by kernel_rfl
set_option maxRecDepth 100000 in
theorem ix20 (w : World) : (Instr.index 90 (.agg tbl) (.int .i64 20)).run Tryz.prog w = .ok (.agg (rowOf 20)) w := by kernel_rfl
set_option maxRecDepth 100000 in
theorem ix21 (w : World) : (Instr.index 90 (.agg tbl) (.int .i64 21)).run Tryz.prog w = .ok (.agg (rowOf 21)) w := by kernel_rfl
set_option maxRecDepth 100000 in
theorem ix22 (w : World) : (Instr.index 90 (.agg tbl) (.int .i64 22)).run Tryz.prog w = .ok (.agg (rowOf 22)) w := by kernel_rfl
set_option maxRecDepth 100000 in
theorem ix23 (w : World) : (Instr.index 90 (.agg tbl) (.int .i64 23)).run Tryz.prog w = .ok (.agg (rowOf 23)) w := by kernel_rfl
set_option maxRecDepth 100000 in
theorem ix24 (w : World) : (Instr.index 90 (.agg tbl) (.int .i64 24)).run Tryz.prog w = .ok (.agg (rowOf 24)) w := by kernel_rfl
set_option maxRecDepth 100000 in
theorem ix25 (w : World) : (Instr.index 90 (.agg tbl) (.int .i64 25)).run Tryz.prog w = .ok (.agg (rowOf 25)) w := by kernel_rfl
set_option maxRecDepth 100000 in
theorem ix26 (w : World) : (Instr.index 90 (.agg tbl) (.int .i64 26)).run Tryz.prog w = .ok (.agg (rowOf 26)) w := by kernel_rfl
set_option maxRecDepth 100000 in
theorem ix27 (w : World) : (Instr.index 90 (.agg tbl) (.int .i64 27)).run Tryz.prog w = .ok (.agg (rowOf 27)) w := by kernel_rfl
set_option maxRecDepth 100000 in
theorem ix28 (w : World) : (Instr.index 90 (.agg tbl) (.int .i64 28)).run Tryz.prog w = .ok (.agg (rowOf 28)) w := by kernel_rfl
set_option maxRecDepth 100000 in
theorem ix29 (w : World) : (Instr.index 90 (.agg tbl) (.int .i64 29)).run Tryz.prog w = .ok (.agg (rowOf 29)) w := by kernel_rfl
set_option maxRecDepth 100000 in
theorem ix30 (w : World) : (Instr.index 90 (.agg tbl) (.int .i64 30)).run Tryz.prog w = .ok (.agg (rowOf 30)) w := by kernel_rfl
set_option maxRecDepth 100000 in
theorem ix31 (w : World) : (Instr.index 90 (.agg tbl) (.int .i64 31)).run Tryz.prog w = .ok (.agg (rowOf 31)) w := by kernel_rfl
set_option maxRecDepth 100000 in
theorem ix32 (w : World) : (Instr.index 90 (.agg tbl) (.int .i64 32)).run Tryz.prog w = .ok (.agg (rowOf 32)) w := by kernel_rfl
set_option maxRecDepth 100000 in
theorem ix33 (w : World) : (Instr.index 90 (.agg tbl) (.int .i64 33)).run Tryz.prog w = .ok (.agg (rowOf 33)) w := by kernel_rfl
set_option maxRecDepth 100000 in
theorem ix34 (w : World) : (Instr.index 90 (.agg tbl) (.int .i64 34)).run Tryz.prog w = .ok (.agg (rowOf 34)) w := by kernel_rfl
set_option maxRecDepth 100000 in
theorem ix35 (w : World) : (Instr.index 90 (.agg tbl) (.int .i64 35)).run Tryz.prog w = .ok (.agg (rowOf 35)) w := by kernel_rfl
set_option maxRecDepth 100000 in
theorem ix36 (w : World) : (Instr.index 90 (.agg tbl) (.int .i64 36)).run Tryz.prog w = .ok (.agg (rowOf 36)) w := by kernel_rfl
set_option maxRecDepth 100000 in
theorem ix37 (w : World) : (Instr.index 90 (.agg tbl) (.int .i64 37)).run Tryz.prog w = .ok (.agg (rowOf 37)) w := by kernel_rfl
set_option maxRecDepth 100000 in
theorem ix38 (w : World) : (Instr.index 90 (.agg tbl) (.int .i64 38)).run Tryz.prog w = .ok (.agg (rowOf 38)) w := by kernel_rfl
set_option maxRecDepth 100000 in
theorem ix39 (w : World) : (Instr.index 90 (.agg tbl) (.int .i64 39)).run Tryz.prog w = .ok (.agg (rowOf 39)) w := by kernel_rfl
set_option maxRecDepth 100000 in
theorem ix40 (w : World) : (Instr.index 90 (.agg tbl) (.int .i64 40)).run Tryz.prog w = .ok (.agg (rowOf 40)) w := by kernel_rfl
set_option maxRecDepth 100000 in
theorem ix41 (w : World) : (Instr.index 90 (.agg tbl) (.int .i64 41)).run Tryz.prog w = .ok (.agg (rowOf 41)) w := by kernel_rfl
set_option maxRecDepth 100000 in
theorem ix42 (w : World) : (Instr.index 90 (.agg tbl) (.int .i64 42)).run Tryz.prog w = .ok (.agg (rowOf 42)) w := by kernel_rfl
set_option maxRecDepth 100000 in
theorem ix43 (w : World) : (Instr.index 90 (.agg tbl) (.int .i64 43)).run Tryz.prog w = .ok (.agg (rowOf 43)) w := by kernel_rfl
set_option maxRecDepth 100000 in
theorem ix44 (w : World) : (Instr.index 90 (.agg tbl) (.int .i64 44)).run Tryz.prog w = .ok (.agg (rowOf 44)) w := by kernel_rfl
set_option maxRecDepth 100000 in
theorem ix45 (w : World) : (Instr.index 90 (.agg tbl) (.int .i64 45)).run Tryz.prog w = .ok (.agg (rowOf 45)) w := by kernel_rfl
set_option maxRecDepth 100000 in
theorem ix46 (w : World) : (Instr.index 90 (.agg tbl) (.int .i64 46)).run Tryz.prog w = .ok (.agg (rowOf 46)) w := by kernel_rfl
set_option maxRecDepth 100000 in
theorem ix47 (w : World) : (Instr.index 90 (.agg tbl) (.int .i64 47)).run Tryz.prog w = .ok (.agg (rowOf 47)) w := by kernel_rfl
theorem ix_any (c : Int) (hc : isOp c = true) (w : World) : (Instr.index 90 (.agg tbl) (.int .i64 c)).run Tryz.prog w = .ok (.agg (rowOf c.toNat)) w := by
  have hc2 : 0 ≤ c ∧ c < 48 := by simpa [isOp] using hc
  have : c = 0 ∨ c = 1 ∨ c = 2 ∨ c = 3 ∨ c = 4 ∨ c = 5 ∨ c = 6 ∨ c = 7 ∨ c = 8 ∨ c = 9 ∨ c = 10 ∨ c = 11 ∨ c = 12 ∨ c = 13 ∨ c = 14 ∨ c = 15 ∨ c = 16 ∨ c = 17 ∨ c = 18 ∨ c = 19 ∨ c = 20 ∨ c = 21 ∨ c = 22 ∨ c = 23 ∨ c = 24 ∨ c = 25 ∨ c = 26 ∨ c = 27 ∨ c = 28 ∨ c = 29 ∨ c = 30 ∨ c = 31 ∨ c = 32 ∨ c = 33 ∨ c = 34 ∨ c = 35 ∨ c = 36 ∨ c = 37 ∨ c = 38 ∨ c = 39 ∨ c = 40 ∨ c = 41 ∨ c = 42 ∨ c = 43 ∨ c = 44 ∨ c = 45 ∨ c = 46 ∨ c = 47 := by omega
  rcases this with rfl | rfl | rfl | rfl | rfl | rfl | rfl | rfl | rfl | rfl | rfl | rfl | rfl | rfl | rfl | rfl | rfl | rfl | rfl | rfl | rfl | rfl | rfl | rfl | rfl | rfl | rfl | rfl | rfl | rfl | rfl | rfl | rfl | rfl | rfl | rfl | rfl | rfl | rfl | rfl | rfl | rfl | rfl | rfl | rfl | rfl | rfl | rfl
  · exact ix0 w
  · exact ix1 w
  · exact ix2 w
  · exact ix3 w
  · exact ix4 w
  · exact ix5 w
  · exact ix6 w
  · exact ix7 w
  · exact ix8 w
  · exact ix9 w
  · exact ix10 w
  · exact ix11 w
  · exact ix12 w
  · exact ix13 w
  · exact ix14 w
  · exact ix15 w
  · exact ix16 w
  · exact ix17 w
  · exact ix18 w
  · exact ix19 w
  · exact ix20 w
  · exact ix21 w
  · exact ix22 w
  · exact ix23 w
  · exact ix24 w
  · exact ix25 w
  · exact ix26 w
  · exact ix27 w
  · exact ix28 w
  · exact ix29 w
  · exact ix30 w
  · exact ix31 w
  · exact ix32 w
  · exact ix33 w
  · exact ix34 w
  · exact ix35 w
  · exact ix36 w
  · exact ix37 w
  · exact ix38 w
  · exact ix39 w
  · exact ix40 w
  · exact ix41 w
  · exact ix42 w
  · exact ix43 w
  · exact ix44 w
  · exact ix45 w
  · exact ix46 w
  · exact ix47 w
set_option maxHeartbeats 4000000 in
set_option maxRecDepth 100000 in
theorem of_any (c : Int) (hc : isOp c = true) (w : World) : Calls Tryz.prog 37 #[.int .i64 c] w fun e w' => e = .returned (.agg (rowOf c.toNat)) ∧ Below w.heap.size w w' := by
  have HR := Lib.hid (right_op c hc)
  generalize hR : rowOf c.toNat = R
  have hs : R.size = 5 := by rw [← hR]; rfl
  have hix : ∀ w, (Instr.index 90 (.agg tbl) (.int .i64 c)).run Tryz.prog w = .ok (.agg R) w := fun w => by rw [← hR]; exact ix_any c hc w
  have h1 : R.all (·.oneCell') = true := by rw [← hR]; simp [rowOf, Value.oneCell']
  have hi : (Tryz.prog.info? 73).map (·.size) = some R.size := by rw [hs]; kernel_rfl
  have hold : (#[.string ⟨#[]⟩, .int .i64 0, .int .i64 0, .int .i64 0, .int .i64 0] : Array Value).size = R.size := by rw [hs]; rfl
  generalize hv : Value.agg tbl = V at *
  have hb0 := Lib.hid ((Below.refl w.heap.size w).alloc (Nat.le_refl _) (.cells #[.string ⟨#[]⟩, .int .i64 0, .int .i64 0, .int .i64 0, .int .i64 0] 73))
  have H1 := Lib.hid h1
  have HI := Lib.hid hi
  have HO := Lib.hid hold
  clear hc hR h1 hs hi hold
  go_enter Tryz.func37, Tryz.ntmps37
  go_wp2_with fail
  refine (HR.out _).mono ?_
  rintro e w1 ⟨rfl, rfl⟩
  go_wp2_with fail
  refine (table_any _).mono ?_
  rintro e w1 ⟨rfl, hb⟩
  rw [hv]
  have hlt : w.heap.size < (w.alloc (.cells #[.string ⟨#[]⟩, .int .i64 0, .int .i64 0, .int .i64 0, .int .i64 0] 73)).heap.size := by simp
  have hcell : w1.heap[w.heap.size]? = some (.cells #[.string ⟨#[]⟩, .int .i64 0, .int .i64 0, .int .i64 0, .int .i64 0] 73 (0, 0)) := (hb.block _ hlt).trans (heap_alloc_new _ _)
  have hB := Lib.hid (hb0.out.trans (hb.mono (Nat.le_of_lt hlt)))
  clear hb hlt
  go_wp2_with (refine wpList_store_row rfl _ _ _ rfl w.heap.size R rfl rfl _ _ hcell HI.out HO.out H1.out ?_)
  refine bodyPost_ret (results_cell_row rfl _ _ w.heap.size _ R (0, 0) _ rfl (setRow_heap _ _ _ _ _ _ hcell) Tryz.underlying73 rfl HI.out) rfl ⟨rfl, ?_⟩
  exact hB.out.trans ⟨rfl, rfl, rfl, by simp, fun k hk => setRow_other _ _ _ _ (by omega)⟩
theorem row_eq (c : Int) (hc : isOp c = true) : rowOf c.toNat = #[.string (opName c), .int .i64 (moves c).1, .int .i64 (moves c).2.1, .int .i64 (moves c).2.2.1, .int .i64 (moves c).2.2.2] := by
  have hc2 : 0 ≤ c ∧ c < 48 := by simpa [isOp] using hc
  have e : ((c.toNat : Nat) : Int) = c := by omega
  unfold rowOf
  rw [e]
set_option maxHeartbeats 1000000 in
set_option maxRecDepth 100000 in
theorem takes_any (c : Int) (hc : isOp c = true) (w : World) : Calls Tryz.prog 95 #[.int .i64 c] w fun e w' => e = .returned (.tuple #[.int .i64 (moves c).1, .int .i64 (moves c).2.1]) ∧ Below w.heap.size w w' := by
  have HF := Lib.hid (of_any c hc)
  have hrow := row_eq c hc
  generalize opName c = nm at *
  generalize (moves c) = mv at *
  have HR := Lib.hid hrow
  clear hrow hc
  go_enter Tryz.func95, Tryz.ntmps95
  go_wp2_with fail
  refine (HF.out _).mono ?_
  rintro e w1 ⟨rfl, hb⟩
  rw [HR.out]
  have hB := Lib.hid hb
  clear hb
  go_wp2_with fail
  go_quiet (fail)
  go_wp2
  go_ret2
  exact ⟨rfl, below_of_draw (hB.out.alloc hB.out.size _) _⟩
set_option maxHeartbeats 1000000 in
set_option maxRecDepth 100000 in
theorem gives_any (c : Int) (hc : isOp c = true) (w : World) : Calls Tryz.prog 96 #[.int .i64 c] w fun e w' => e = .returned (.tuple #[.int .i64 (moves c).2.2.1, .int .i64 (moves c).2.2.2]) ∧ Below w.heap.size w w' := by
  have HF := Lib.hid (of_any c hc)
  have hrow := row_eq c hc
  generalize opName c = nm at *
  generalize (moves c) = mv at *
  have HR := Lib.hid hrow
  clear hrow hc
  go_enter Tryz.func96, Tryz.ntmps96
  go_wp2_with fail
  refine (HF.out _).mono ?_
  rintro e w1 ⟨rfl, hb⟩
  rw [HR.out]
  have hB := Lib.hid hb
  clear hb
  go_wp2_with fail
  go_quiet (fail)
  go_wp2
  go_ret2
  exact ⟨rfl, below_of_draw (hB.out.alloc hB.out.size _) _⟩
def sCells (sv bv mv : Value) (s : S) : Array Value := #[.int .i64 s.ip, .int .i64 s.handler, sv, bv, mv, .string s.out, .string s.inp, .int .i64 s.read, .int .i64 s.status, .int .i64 s.code]
theorem moves_small (c : Int) (hc : isOp c = true) : (moves c).1 ≤ 4 ∧ (moves c).2.1 ≤ 4 ∧ (moves c).2.2.1 ≤ 4 ∧ (moves c).2.2.2 ≤ 4 :=
  op_cases (P := fun c => (moves c).1 ≤ 4 ∧ (moves c).2.1 ≤ 4 ∧ (moves c).2.2.1 ≤ 4 ∧ (moves c).2.2.2 ≤ 4) (by decide) c hc
end Go.Proofs.YtompdfpjmdnhoabGreatDoor.Mc
namespace Go.Proofs.YtompdfpjmdnhoabGreatDoor.Mc
open Go.RowKit Go.Proofs.YtompdfpjmdnhoabGreatDoor.Rs
set_option maxHeartbeats 4000000 in
set_option maxRecDepth 100000 in
theorem room_any (c : Int) (hc : isOp c = true) (SA BA : Option Addr) (sc bc : Nat) (mv : Value) (s : S) (w : World) (hn : s.stack.length ≤ 100) (hb : s.back.length ≤ 100) :
    Calls Tryz.prog 68 #[.agg (sCells (.slice SA s.stack.length sc) (.slice BA s.back.length bc) mv s), .int .i64 c] w fun e w' => e = .returned (.int .i64 (room s c)) ∧ Below w.heap.size w w' := by
  have HT := Lib.hid (takes_any c hc)
  have HG := Lib.hid (gives_any c hc)
  obtain ⟨m1, m2, m3, m4⟩ := moves_small c hc
  have hroom : room s c = if s.stack.length < (moves c).1 then -4 else if s.back.length < (moves c).2.1 then -6
    else if 48 < s.stack.length - (moves c).1 + (moves c).2.2.1 then -3 else if 48 < s.back.length - (moves c).2.1 + (moves c).2.2.2 then -5 else 0 := rfl
  generalize room s c = rv at *
  unfold sCells
  generalize s.stack.length = n at *
  generalize s.back.length = nb at *
  generalize (moves c) = mv at *
  obtain ⟨a, b, g, gb⟩ := mv
  dsimp only at *
  have hb0 := Lib.hid (Below.refl w.heap.size w)
  have HV := Lib.hid hroom
  clear hc hroom
  have HM := Lib.hid (And.intro m1 (And.intro m2 (And.intro m3 m4)))
  have HN := Lib.hid (And.intro hn hb)
  clear m1 m2 m3 m4 hn hb
  go_enter Tryz.func68, Tryz.ntmps68
  go_wp2_with fail
  refine (HT.out _).mono ?_
  rintro e w1 ⟨rfl, h1⟩
  have H1 := Lib.hid h1
  clear h1
  go_wp2_with fail
  refine (HG.out _).mono ?_
  rintro e w2 ⟨rfl, h2⟩
  have hz : w.heap.size ≤ w1.heap.size := by have := H1.out.size; simp at this; omega
  have hlt : w.heap.size < w1.heap.size := by have := H1.out.size; simp at this; omega
  have hcell1 : w1.heap[w.heap.size]? = some (.cells #[.int .i64 s.ip, .int .i64 s.handler, .slice SA n sc, .slice BA nb bc, mv, .string s.out, .string s.inp, .int .i64 s.read, .int .i64 s.status, .int .i64 s.code] 33 (0, 0)) := (H1.out.block _ (by simp)).trans (heap_alloc_new _ _)
  have hcell : w2.heap[w.heap.size]? = _ := (h2.block _ hlt).trans hcell1
  have c2 : w2.cell? ⟨w.heap.size, 2, none⟩ = some (.slice SA n sc) := by simp [World.cell?, hcell]
  have c3 : w2.cell? ⟨w.heap.size, 3, none⟩ = some (.slice BA nb bc) := by simp [World.cell?, hcell]
  have H2 : Hid (Below w.heap.size w w2) := ((hb0.out.alloc (Nat.le_refl _) _).trans (H1.out.mono (by simp))).trans (h2.mono hz)
  clear h2 hcell hcell1 hlt hz
  by_cases k1 : n < a
  · have d1 : decide (n < a) = true := by simpa using k1
    have K1 := Lib.hid k1
    clear k1
    go_wp2_with fail
    go_ret
    exact ⟨(by rw [HV.out, if_pos K1.out]; rfl), H2.out⟩
  have d1 : decide (n < a) = false := by simpa using k1
  have k1' := Lib.hid k1
  clear k1
  by_cases k2 : nb < b
  · have d2 : decide (nb < b) = true := by simpa using k2
    have K2 := Lib.hid k2
    clear k2
    go_wp2_with fail
    go_ret
    exact ⟨(by rw [HV.out, if_neg k1'.out, if_pos K2.out]; rfl), H2.out⟩
  have d2 : decide (nb < b) = false := by simpa using k2
  have k2' := Lib.hid k2
  clear k2
  have e1 : wrap64 ((n : Int) - (a : Int)) = ((n - a : Nat) : Int) := by have := k1'.out; have := HN.out.1; unfold wrap64; omega
  have e2 : wrap64 (((n - a : Nat) : Int) + (g : Int)) = ((n - a + g : Nat) : Int) := by have := HM.out.2.2.1; have := HN.out.1; unfold wrap64; omega
  have e3 : wrap64 ((nb : Int) - (b : Int)) = ((nb - b : Nat) : Int) := by have := k2'.out; have := HN.out.2; unfold wrap64; omega
  have e4 : wrap64 (((nb - b : Nat) : Int) + (gb : Int)) = ((nb - b + gb : Nat) : Int) := by have := HM.out.2.2.2; have := HN.out.2; unfold wrap64; omega
  generalize n - a + g = q at *
  generalize nb - b + gb = r at *
  generalize n - a = n' at *
  generalize nb - b = nb' at *
  by_cases k3 : 48 < q
  · have d3 : decide (48 < q) = true := by simpa using k3
    have d3' : (48 : Int) < (q : Int) := by omega
    have K3 := Lib.hid k3
    clear k3
    go_wp2_with fail
    go_ret
    exact ⟨(by rw [HV.out, if_neg k1'.out, if_neg k2'.out, if_pos K3.out]; rfl), H2.out⟩
  have d3 : decide (48 < q) = false := by simpa using k3
  have d3' : ¬ (48 : Int) < (q : Int) := by omega
  have k3' := Lib.hid k3
  clear k3
  by_cases k4 : 48 < r
  · have d4' : (48 : Int) < (r : Int) := by omega
    have K4 := Lib.hid k4
    clear k4
    go_wp2_with fail
    go_ret
    exact ⟨(by rw [HV.out, if_neg k1'.out, if_neg k2'.out, if_neg k3'.out, if_pos K4.out]; rfl), H2.out⟩
  · have d4' : ¬ (48 : Int) < (r : Int) := by omega
    have k4' := Lib.hid k4
    clear k4
    go_wp2_with fail
    go_ret
    exact ⟨(by rw [HV.out, if_neg k1'.out, if_neg k2'.out, if_neg k3'.out, if_neg k4'.out]; rfl), H2.out⟩
end Go.Proofs.YtompdfpjmdnhoabGreatDoor.Mc
namespace Go.Proofs.YtompdfpjmdnhoabGreatDoor.Mc
open Go.RowKit
theorem flag_any (b : Bool) (w : World) : Calls Tryz.prog 153 #[.bool b] w fun e w' => e = .returned (.int .i64 (flag b)) ∧ w = w' := by
  cases b
  all_goals
    go_enter Tryz.func153, Tryz.ntmps153
    go_wp2_with fail
    go_ret
    exact ⟨rfl, rfl⟩
theorem crosses_any (x n : Int) (w : World) : Calls Tryz.prog 134 #[.int .i64 x, .int .i64 n] w fun e w' => e = .returned (.bool (crosses x n)) ∧ w = w' := by
  go_enter Tryz.func134, Tryz.ntmps134
  go_wp2_with fail
  go_ret
  exact ⟨rfl, rfl⟩
theorem compare_any (o a b : Int) (ho : o = 23 ∨ o = 24 ∨ o = 25) (w : World) : Calls Tryz.prog 156 #[.int .i64 o, .int .i64 a, .int .i64 b] w fun e w' => e = .returned (.int .i64 ((two o a b).getD 0)) ∧ w = w' := by
  rcases ho with rfl | rfl | rfl
  all_goals
    go_enter Tryz.func156, Tryz.ntmps156
    go_wp2_with fail
    refine (flag_any _ _).mono ?_
    rintro e w' ⟨rfl, rfl⟩
    go_wp2_with fail
    go_ret
    exact ⟨rfl, rfl⟩
theorem shift_any (o a b : Int) (ho : o = 21 ∨ o = 22) (w : World) : Calls Tryz.prog 155 #[.int .i64 o, .int .i64 a, .int .i64 b] w fun e w' => e = .returned (.int .i64 ((two o a b).getD 0)) ∧ w = w' := by
  by_cases h0 : b < 0
  · rcases ho with rfl | rfl
    all_goals
      go_enter Tryz.func155, Tryz.ntmps155
      go_wp2_with fail
      go_ret
      exact ⟨by simp [two, shl, shr, h0], rfl⟩
  · by_cases h1 : 64 ≤ b
    · rcases ho with rfl | rfl
      all_goals
        go_enter Tryz.func155, Tryz.ntmps155
        go_wp2_with fail
        go_ret
        exact ⟨by simp [two, shl, shr, h1], rfl⟩
    · rcases ho with rfl | rfl
      all_goals
        go_enter Tryz.func155, Tryz.ntmps155
        go_wp2_with fail
        go_ret
        exact ⟨by simp [two, shl, shr, h0, h1, wr, u64, show ¬ (b < 0 ∨ 64 ≤ b) by omega], rfl⟩
theorem floor_any (a b : Int) (w : World) : Calls Tryz.prog 154 #[.int .i64 a, .int .i64 b] w fun e w' => e = .returned (.tuple #[.int .i64 ((floor a b).getD (0, 0)).1, .int .i64 ((floor a b).getD (0, 0)).2, .bool (floor a b).isSome]) ∧ ∃ q, w' = w.drewN q := by
  by_cases h0 : b = 0
  · subst h0
    go_enter Tryz.func154, Tryz.ntmps154
    go_wp2_with fail
    go_ret3
    exact ⟨rfl, 0, rfl⟩
  · by_cases h1 : b = -1
    · subst h1
      go_enter Tryz.func154, Tryz.ntmps154
      go_wp2_with fail
      go_ret3
      exact ⟨rfl, 0, rfl⟩
    · have e0 : (b == 0) = false := beq_eq_false_iff_ne.2 h0
      have e1 : (b == -1) = false := beq_eq_false_iff_ne.2 h1
      by_cases hr : a.tmod b = 0
      · have hf : floor a b = some (wr (a.tdiv b), a.tmod b) := by unfold floor; rw [if_neg h0, if_neg h1, if_neg (fun h => h.1 hr)]
        rw [hf]
        have e2 : (a.tmod b != 0) = false := by simpa using hr
        clear hf hr
        go_enter Tryz.func154, Tryz.ntmps154
        go_wp2_with fail
        go_quiet (fail)
        go_wp2_with fail
        go_ret3
        exact ⟨rfl, _, rfl⟩
      · have e2 : (a.tmod b != 0) = true := by simpa using hr
        by_cases hr0 : a.tmod b < 0
        · by_cases hb0 : b < 0
          · have hf : floor a b = some (wr (a.tdiv b), a.tmod b) := by unfold floor; rw [if_neg h0, if_neg h1, if_neg (fun h => h.2 (by simp [hr0, hb0]))]
            rw [hf]
            clear hf hr
            generalize hq : a.tmod b = r at *
            generalize hq2 : a.tdiv b = q at *
            have d1 : decide (r < 0) = true := decide_eq_true hr0
            have d2 : decide (b < 0) = true := decide_eq_true hb0
            have Hq := Lib.hid hq
            have Hq2 := Lib.hid hq2
            clear hq hq2
            go_enter Tryz.func154, Tryz.ntmps154
            go_wp2_with fail
            go_quiet (fail)
            simp only [Hq.out, Hq2.out]
            go_wp2_with fail
            go_ret3
            exact ⟨rfl, _, rfl⟩
          · have hf : floor a b = some (wr (wr (a.tdiv b) - 1), wr (a.tmod b + b)) := by unfold floor; rw [if_neg h0, if_neg h1, if_pos ⟨hr, by simp [hr0, hb0]⟩]
            rw [hf]
            clear hf hr
            generalize hq : a.tmod b = r at *
            generalize hq2 : a.tdiv b = q at *
            have d1 : decide (r < 0) = true := decide_eq_true hr0
            have d2 : decide (b < 0) = false := decide_eq_false hb0
            have Hq := Lib.hid hq
            have Hq2 := Lib.hid hq2
            clear hq hq2
            go_enter Tryz.func154, Tryz.ntmps154
            go_wp2_with fail
            go_quiet (fail)
            simp only [Hq.out, Hq2.out]
            go_wp2_with fail
            go_ret3
            exact ⟨rfl, _, rfl⟩
        · by_cases hb0 : b < 0
          · have hf : floor a b = some (wr (wr (a.tdiv b) - 1), wr (a.tmod b + b)) := by unfold floor; rw [if_neg h0, if_neg h1, if_pos ⟨hr, by simp [hr0, hb0]⟩]
            rw [hf]
            clear hf hr
            generalize hq : a.tmod b = r at *
            generalize hq2 : a.tdiv b = q at *
            have d1 : decide (r < 0) = false := decide_eq_false hr0
            have d2 : decide (b < 0) = true := decide_eq_true hb0
            have Hq := Lib.hid hq
            have Hq2 := Lib.hid hq2
            clear hq hq2
            go_enter Tryz.func154, Tryz.ntmps154
            go_wp2_with fail
            go_quiet (fail)
            simp only [Hq.out, Hq2.out]
            go_wp2_with fail
            go_ret3
            exact ⟨rfl, _, rfl⟩
          · have hf : floor a b = some (wr (a.tdiv b), a.tmod b) := by unfold floor; rw [if_neg h0, if_neg h1, if_neg (fun h => h.2 (by simp [hr0, hb0]))]
            rw [hf]
            clear hf hr
            generalize hq : a.tmod b = r at *
            generalize hq2 : a.tdiv b = q at *
            have d1 : decide (r < 0) = false := decide_eq_false hr0
            have d2 : decide (b < 0) = false := decide_eq_false hb0
            have Hq := Lib.hid hq
            have Hq2 := Lib.hid hq2
            clear hq hq2
            go_enter Tryz.func154, Tryz.ntmps154
            go_wp2_with fail
            go_quiet (fail)
            simp only [Hq.out, Hq2.out]
            go_wp2_with fail
            go_ret3
            exact ⟨rfl, _, rfl⟩
def twos : List Int := [11, 12, 13, 14, 15, 17, 18, 19, 21, 22, 23, 24, 25, 28, 29]
def ones : List Int := [16, 20, 26, 27]
def TwoPost (c a b : Int) (w : World) (e : Ending) (w' : World) : Prop := e = .returned (.tuple #[.int .i64 ((two c a b).getD 0), .bool (two c a b).isSome]) ∧ ∃ q, w' = w.drewN q
theorem eq_of_two {x y : Int} (h : x = y) : Ending.returned (.tuple #[.int .i64 x, .bool true]) = .returned (.tuple #[.int .i64 ((some y).getD 0), .bool (some y).isSome]) := by rw [h]; rfl
set_option maxHeartbeats 2000000 in
theorem two_any (c a b : Int) (hc : c ∈ twos) (w : World) : Calls Tryz.prog 138 #[.int .i64 c, .int .i64 a, .int .i64 b] w (TwoPost c a b w) := by
  have hF := Lib.hid (floor_any a b)
  have hS := Lib.hid (shift_any · a b)
  have hC := Lib.hid (compare_any · a b)
  simp only [twos, List.mem_cons, List.not_mem_nil, or_false] at hc
  rcases hc with rfl | rfl | rfl | rfl | rfl | rfl | rfl | rfl | rfl | rfl | rfl | rfl | rfl | rfl | rfl
  · go_enter Tryz.func138, Tryz.ntmps138
    go_wp2_with fail
    go_ret2
    exact ⟨rfl, 0, rfl⟩
  · go_enter Tryz.func138, Tryz.ntmps138
    go_wp2_with fail
    go_ret2
    exact ⟨rfl, 0, rfl⟩
  · go_enter Tryz.func138, Tryz.ntmps138
    go_wp2_with fail
    go_ret2
    exact ⟨rfl, 0, rfl⟩
  · go_enter Tryz.func138, Tryz.ntmps138
    go_wp2_with fail
    refine (hF.out _).mono ?_
    rintro e w' ⟨rfl, q, rfl⟩
    go_wp2_with fail
    go_ret2
    exact ⟨by show _ = Ending.returned (.tuple #[.int .i64 (((floor a b).map (·.1)).getD 0), .bool ((floor a b).map (·.1)).isSome]); cases floor a b <;> rfl, q, rfl⟩
  · go_enter Tryz.func138, Tryz.ntmps138
    go_wp2_with fail
    refine (hF.out _).mono ?_
    rintro e w' ⟨rfl, q, rfl⟩
    go_wp2_with fail
    go_ret2
    exact ⟨by show _ = Ending.returned (.tuple #[.int .i64 (((floor a b).map (·.2)).getD 0), .bool ((floor a b).map (·.2)).isSome]); cases floor a b <;> rfl, q, rfl⟩
  · go_enter Tryz.func138, Tryz.ntmps138
    go_wp2_with fail
    go_ret2
    exact ⟨rfl, 0, rfl⟩
  · go_enter Tryz.func138, Tryz.ntmps138
    go_wp2_with fail
    go_ret2
    exact ⟨rfl, 0, rfl⟩
  · go_enter Tryz.func138, Tryz.ntmps138
    go_wp2_with fail
    go_ret2
    exact ⟨rfl, 0, rfl⟩
  · go_enter Tryz.func138, Tryz.ntmps138
    go_wp2_with fail
    refine (hS.out 21 (.inl rfl) _).mono ?_
    rintro e w' ⟨rfl, rfl⟩
    go_wp2_with fail
    go_ret2
    exact ⟨rfl, 0, rfl⟩
  · go_enter Tryz.func138, Tryz.ntmps138
    go_wp2_with fail
    refine (hS.out 22 (.inr rfl) _).mono ?_
    rintro e w' ⟨rfl, rfl⟩
    go_wp2_with fail
    go_ret2
    exact ⟨rfl, 0, rfl⟩
  · go_enter Tryz.func138, Tryz.ntmps138
    go_wp2_with fail
    refine (hC.out 23 (.inl rfl) _).mono ?_
    rintro e w' ⟨rfl, rfl⟩
    go_wp2_with fail
    go_ret2
    exact ⟨rfl, 0, rfl⟩
  · go_enter Tryz.func138, Tryz.ntmps138
    go_wp2_with fail
    refine (hC.out 24 (.inr (.inl rfl)) _).mono ?_
    rintro e w' ⟨rfl, rfl⟩
    go_wp2_with fail
    go_ret2
    exact ⟨rfl, 0, rfl⟩
  · go_enter Tryz.func138, Tryz.ntmps138
    go_wp2_with fail
    refine (hC.out 25 (.inr (.inr rfl)) _).mono ?_
    rintro e w' ⟨rfl, rfl⟩
    go_wp2_with fail
    go_ret2
    exact ⟨rfl, 0, rfl⟩
  · by_cases hab : a ≤ b
    · have hm : two 28 a b = some a := by show some (min a b) = _; rw [Int.min_eq_left hab]
      unfold TwoPost
      rw [hm]
      clear hm
      go_enter Tryz.func138, Tryz.ntmps138
      go_wp2_with fail
      all_goals
        go_ret2
        exact ⟨eq_of_two (by omega), 0, rfl⟩
    · have hm : two 28 a b = some b := by show some (min a b) = _; rw [Int.min_eq_right (by omega)]
      unfold TwoPost
      rw [hm]
      clear hm
      go_enter Tryz.func138, Tryz.ntmps138
      go_wp2_with fail
      all_goals
        go_ret2
        exact ⟨eq_of_two (by omega), 0, rfl⟩
  · by_cases hab : a ≤ b
    · have hm : two 29 a b = some b := by show some (max a b) = _; rw [Int.max_eq_right hab]
      unfold TwoPost
      rw [hm]
      clear hm
      go_enter Tryz.func138, Tryz.ntmps138
      go_wp2_with fail
      all_goals
        go_ret2
        exact ⟨eq_of_two (by omega), 0, rfl⟩
    · have hm : two 29 a b = some a := by show some (max a b) = _; rw [Int.max_eq_left (by omega)]
      unfold TwoPost
      rw [hm]
      clear hm
      go_enter Tryz.func138, Tryz.ntmps138
      go_wp2_with fail
      all_goals
        go_ret2
        exact ⟨eq_of_two (by omega), 0, rfl⟩
set_option maxHeartbeats 2000000 in
theorem one_any (c a : Int) (hc : c ∈ ones) (w : World) : Calls Tryz.prog 137 #[.int .i64 c, .int .i64 a] w fun e w' => e = .returned (.tuple #[.int .i64 ((one c a).getD 0), .bool true]) ∧ w = w' := by
  simp only [ones, List.mem_cons, List.not_mem_nil, or_false] at hc
  rcases hc with rfl | rfl | rfl | rfl
  · go_enter Tryz.func137, Tryz.ntmps137
    go_wp2_with fail
    go_ret2
    exact ⟨rfl, rfl⟩
  · go_enter Tryz.func137, Tryz.ntmps137
    go_wp2_with fail
    go_ret2
    exact ⟨rfl, rfl⟩
  · go_enter Tryz.func137, Tryz.ntmps137
    go_wp2_with fail
    refine (flag_any _ _).mono ?_
    rintro e w' ⟨rfl, rfl⟩
    go_wp2_with fail
    go_ret2
    exact ⟨rfl, rfl⟩
  · go_enter Tryz.func137, Tryz.ntmps137
    go_wp2_with fail
    refine (flag_any _ _).mono ?_
    rintro e w' ⟨rfl, rfl⟩
    go_wp2_with fail
    go_ret2
    exact ⟨rfl, rfl⟩
theorem one_none (c a : Int) (hc : c ∈ twos) (w : World) : Calls Tryz.prog 137 #[.int .i64 c, .int .i64 a] w fun e w' => e = .returned (.tuple #[.int .i64 0, .bool false]) ∧ w = w' := by
  have n1 : c ≠ 16 := by rintro rfl; revert hc; decide
  have n2 : c ≠ 20 := by rintro rfl; revert hc; decide
  have n3 : c ≠ 26 := by rintro rfl; revert hc; decide
  have n4 : c ≠ 27 := by rintro rfl; revert hc; decide
  clear hc
  go_enter Tryz.func137, Tryz.ntmps137
  go_wp2_with fail
  go_ret2
  exact ⟨rfl, rfl⟩
end Go.Proofs.YtompdfpjmdnhoabGreatDoor.Mc
