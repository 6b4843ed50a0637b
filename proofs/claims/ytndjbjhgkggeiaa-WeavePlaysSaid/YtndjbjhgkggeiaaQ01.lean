/-
  Lemmas on the way, for every input that they name: WvA.
-/
import Derived.Test.YtndjbjhgkggeiaaRows
import Derived.WalkKit
import Derived.WalkSmall
import Derived.Lib.Hide
import Derived.Lib.Builder
import Derived.Lib.Walk
import Derived.Laws.Externs
import Derived.BigQuiet
import Derived.Deep.QuietTactic
import Derived.Deep.LoopGhost
import Derived.Deep.DeepCutAuto
import Derived.Deep.CutBlock
import Derived.Test.YtndjbjhgkggeiaaQ00
set_option linter.unusedVariables false
set_option linter.unusedSimpArgs false
set_option linter.deprecated false
namespace Go.Proofs.Ytndjbjhgkggeiaa.Wv
open Go.RowKit
theorem sizeBuilder : (Try.prog.info? 80).map (·.size) = some 2 := by kernel_rfl
theorem liesBuilder : liesAt Try.prog Try.prog.depth 80 (2 / Try.prog.cellsOf 80) 0 80 1 = true := by kernel_rfl
theorem infoByte : (Try.prog.info? 5).map (fun i => (i.zero, i.size, i.bytes)) = some (some (.int .u8 0), 1, 1) := by kernel_rfl
set_option maxHeartbeats 1000000 in
set_option maxRecDepth 100000 in
theorem copyCheck_used (b : Nat) (w : World) (h0 : w.cell? ⟨b, 0, none⟩ = some (.pointer (some ⟨b, 0, none⟩))) :
    Calls Try.prog 82 #[.pointer (some ⟨b, 0, none⟩)] w fun e w' => e = .returned (.tuple #[]) ∧ w' = w := by
  obtain ⟨j, hj, _⟩ := Option.map_eq_some_iff.1 sizeBuilder
  go_enter Try.func82, Try.ntmps82
  go_wp2
  rw [Lib.run_neq_ptr_same w _ Try.underlying77 hj]
  go_wp2
  go_end0
  exact ⟨rfl, rfl⟩
set_option maxHeartbeats 1000000 in
set_option maxRecDepth 100000 in
theorem copyCheck_fresh (b : Nat) (w : World) (h0 : w.cell? ⟨b, 0, none⟩ = some (.pointer none)) (hsh : w.shape? b = some (80, 2)) (hfz : w.frozen? ⟨b, 0, none⟩ = false) :
    Calls Try.prog 82 #[.pointer (some ⟨b, 0, none⟩)] w fun e w' => e = .returned (.tuple #[]) ∧ w' = w.setCell ⟨b, 0, none⟩ (.pointer (some ⟨b, 0, none⟩)) := by
  obtain ⟨j, hj, hjs⟩ := Option.map_eq_some_iff.1 sizeBuilder
  go_enter Try.func82, Try.ntmps82
  go_wp2
  rw [Lib.run_to_unsafe w ⟨b, 0, none⟩ Try.underlying77 Try.underlying115 hj (by rw [hjs]; decide) hsh (Nat.zero_lt_succ 1)]
  simp only [Result.andThen]
  rw [Oper.upon_value]
  go_wp2
  rw [run_callFunc_extern Try.func85 (by kernel_rfl) (by kernel_rfl) (by kernel_rfl) (e := Extern.AbiNoEscape.same) (by kernel_rfl)]
  rw [Lib.run_noEscape]
  simp only [Result.andThen]
  rw [Oper.upon_value]
  go_wp2
  rw [Lib.run_from_unsafe w ⟨b, 0, none⟩ Try.underlying115 Try.underlying77 hj hsh liesBuilder]
  simp only [Result.andThen]
  rw [Oper.upon_value]
  go_wp2
  go_end0
  exact ⟨rfl, rfl⟩
theorem copyCheck_any (B b : Nat) (bs : List Value) (w : World) (h : Lib.IsBuilder 80 5 B b bs w) :
    Calls Try.prog 82 #[.pointer (some ⟨b, 0, none⟩)] w fun e w' => e = .returned (.tuple #[]) ∧ (Lib.BuilderAt 80 5 B b (.pointer (some ⟨b, 0, none⟩)) bs w' ∧ Below B w w') := by
  rcases h with h | h
  · refine (copyCheck_fresh b w h.cell0 h.shape h.frozen0).mono ?_
    rintro e w' ⟨rfl, rfl⟩
    exact ⟨rfl, h.used _, (Below.refl B w).setCell (p := ⟨b, 0, none⟩) h.1 _⟩
  · refine (copyCheck_used b w h.cell0).mono ?_
    rintro e w' ⟨rfl, rfl⟩
    exact ⟨rfl, h, Below.refl B _⟩
set_option maxHeartbeats 2000000 in
set_option maxRecDepth 100000 in
theorem writeByte_any (B b : Nat) (bs : List Value) (c : Int) (w : World) (h : Lib.IsBuilder 80 5 B b bs w) (hlen : bs.length + 1 ≤ 140737488355328) (hBw : B ≤ w.heap.size) :
    Calls Try.prog 67 #[.pointer (some ⟨b, 0, none⟩), .int .u8 c] w fun e w' => e = .returned .nilIface ∧ (Lib.BuilderAt 80 5 B b (.pointer (some ⟨b, 0, none⟩)) (bs ++ [.int .u8 c]) w' ∧ Below B w w') := by
  obtain ⟨i0, hi, hz0, hz1, hz2⟩ := info_parts infoByte
  go_enter Try.func67, Try.ntmps67
  go_wp2_with (go_at_call 82; refine (copyCheck_any B b bs _ h).mono ?_)
  rintro e w1 ⟨rfl, h1, hb1⟩
  obtain ⟨hB, v, hbk, hown, hne⟩ := h1
  have c0 : w1.cell? ⟨b, 0, none⟩ = some (.pointer (some ⟨b, 0, none⟩)) := by rw [Lib.cell_of_heap hbk]; rfl
  have c1 : w1.cell? ⟨b, 1, none⟩ = some v := by rw [Lib.cell_of_heap hbk]; rfl
  go_wp2_with (at_builtin; refine wpList_append_own _ rfl _ _ 78 rfl B 5 i0 (.int .u8 0) 1 1 Try.underlying78 hi hz0 hz1 hz2 rfl (by decide) _ _ _ rfl (hown.alloc _) ⟨w1.heap.size, 0, none⟩ 1 1 [.int .u8 c] rfl rfl ?c1 ?c2 ?c3 ?c4 ?c5 ?_)
  case c1 =>
    intro j u hj
    match j, hj with
    | 0, hj => simp at hj; subst hj; simp [Addr.add]
  case c2 => intro u hu; simp at hu; subst hu; rfl
  case c3 => unfold maxLen; omega
  case c4 => omega
  case c5 => have := hb1.size; simp; omega
  intro v' w2 hown' hgrow _
  have hlt : b < w1.heap.size := by
    rcases Nat.lt_or_ge b w1.heap.size with h' | h'
    · exact h'
    · simp [Array.getElem?_eq_none h'] at hbk
  have hb2 : w2.heap[b]? = some (.cells #[.pointer (some ⟨b, 0, none⟩), v] 80 (0, 0)) := by
    rw [hgrow.block b (by simp; omega) (fun e => hne e.symm), Lib.alloc_old w1 _ b hlt]
    exact hbk
  have d0 : w2.cell? ⟨b, 0, none⟩ = some (.pointer (some ⟨b, 0, none⟩)) := by rw [Lib.cell_of_heap hb2]; rfl
  have d1 : w2.cell? ⟨b, 1, none⟩ = some v := by rw [Lib.cell_of_heap hb2]; rfl
  have f1 : w2.frozen? ⟨b, 1, none⟩ = false := Lib.frozen_of_heap hb2 1
  obtain ⟨g, cap, rfl⟩ : ∃ g cap, v' = .slice (some ⟨g, 0, none⟩) (bs.length + 1) cap := by
    rcases hown'.2 with ⟨_, h0⟩ | ⟨g, cap, cur, hv, _⟩
    · omega
    · exact ⟨g, cap, hv⟩
  go_wp2
  go_ret
  refine ⟨rfl, ?_, ?_⟩
  · exact Lib.BuilderAt.put (T := 80) (e := 5) hB hb2 (bs' := bs ++ [.int .u8 c]) (by simpa using hown') (by decide)
  · exact ((hb1.alloc (by have := hb1.size; omega) _).grown hgrow (by have := hb1.size; simp; omega) (fun k hk => (hown.lt k hk).1)).setCell (p := ⟨b, 1, none⟩) hB _
def up (c : UInt8) : UInt8 := if 97 ≤ c.toNat ∧ c.toNat ≤ 122 then c - 32 else c
def ups (s : ByteArray) : List UInt8 := s.data.toList.map up
theorem up_yes (c : UInt8) (h : 97 ≤ (c.toNat : Int)) (h' : (c.toNat : Int) ≤ 122) : ((up c).toNat : Int) = (c.toNat : Int) - 32 := by
  unfold up
  rw [if_pos ⟨by omega, by omega⟩, UInt8.toNat_sub_of_le _ _ (by rw [UInt8.le_iff_toNat_le]; simp; omega)]
  simp
  omega
theorem up_no (c : UInt8) (h : ¬ (97 ≤ (c.toNat : Int) ∧ (c.toNat : Int) ≤ 122)) : up c = c := by
  unfold up
  rw [if_neg (by omega)]
theorem ups_step (s : ByteArray) (j : Nat) (hj : j < s.size) : (s.data.toList.take (j + 1)).map up = (s.data.toList.take j).map up ++ [up s[j]] := by
  rw [List.take_succ_eq_append_getElem (by simpa using hj), List.map_append]
  rfl
set_option maxRecDepth 100000 in
set_option maxHeartbeats 1000000 in
theorem great_any (s : ByteArray) (w : World) (hs : s.size ≤ 100000) :
    Calls Try.prog 32 #[.string s] w fun e w' => e = .returned (.string ⟨(ups s).toArray⟩) ∧ Below w.heap.size w w' := by
  go_enter Try.func32, Try.ntmps32
  go_wp2
  have hB0 : Lib.IsBuilder 80 5 w.heap.size w.heap.size (Lib.byteCells ((s.data.toList.take 0).map up)) (w.alloc (.cells #[.pointer none, .slice none 0 0] 80)) :=
    Or.inl ⟨Nat.le_refl _, .slice none 0 0, heap_alloc_new w _, World.ownsRow_nil _ _ _ _, by simp [Value.ownBlock]⟩
  have hb0 : Below w.heap.size w (w.alloc (.cells #[.pointer none, .slice none 0 0] 80)) := (Below.refl _ _).alloc (Nat.le_refl _) _
  have hz0 : w.heap.size + 1 ≤ (w.alloc (.cells #[.pointer none, .slice none 0 0] 80)).heap.size := by simp
  have HB0 := Lib.hid hB0
  have Hb0 := Lib.hid hb0
  clear hB0 hb0
  generalize hB : w.heap.size = B at *
  have HB := Lib.hid hB
  clear hB
  go_loopg [8] s.size (fun g v wr => ∃ j : Nat, g = s.size - j ∧ v = .int .i64 j ∧ j ≤ s.size ∧ Hid (Lib.IsBuilder 80 5 B B (Lib.byteCells ((s.data.toList.take j).map up)) wr) ∧ B + 1 ≤ wr.heap.size ∧ Hid (Below B w wr))
  case atStart => exact ⟨0, rfl, rfl, by omega, HB0, hz0, Hb0⟩
  case round =>
    obtain ⟨j, hg, rfl, hj, hbl, hsz, hb⟩ := hrel
    have Hg := Lib.hid hg
    clear hg
    by_cases hlt : j < s.size
    · have hlen : (Lib.byteCells ((s.data.toList.take j).map up)).length + 1 ≤ 140737488355328 := by
        have h1 : (s.data.toList.take j).length ≤ j := List.length_take_le _ _
        simp [Lib.byteCells]
        omega
      have Hlen := Lib.hid hlen
      clear hlen
      have Hst : Hid (Lib.byteCells ((s.data.toList.take (j + 1)).map up) = Lib.byteCells ((s.data.toList.take j).map up) ++ [.int .u8 ((up s[j]).toNat : Int)]) := by
        show _ = _
        rw [ups_step s j hlt]
        simp [Lib.byteCells]
      have hsj : (s[j].toNat : Int) ≤ 255 := by have := s[j].toNat_lt; omega
      by_cases h1 : 97 ≤ (s[j].toNat : Int)
      · by_cases h2 : (s[j].toNat : Int) ≤ 122
        · have hu := up_yes s[j] h1 h2
          rw [hu] at Hst
          clear hu
          go_wp2_with fail
          refine (writeByte_any B B _ _ _ hbl.out Hlen.out (by omega)).mono ?_
          rintro e w2 ⟨rfl, hbl2, hb2⟩
          rw [← Hst.out] at hbl2
          go_wp2_with fail
          go_roundg (s.size - (j + 1))
          case rel => exact ⟨j + 1, rfl, by go_num, by omega, Or.inr hbl2, by have := hb2.size; omega, hb.out.trans hb2⟩
          case measure => rw [Hg.out]; exact Nat.sub_lt_sub_left hlt (Nat.lt_succ_self j)
        · have hu := up_no s[j] (by omega)
          rw [hu] at Hst
          clear hu
          go_wp2_with fail
          refine (writeByte_any B B _ _ _ hbl.out Hlen.out (by omega)).mono ?_
          rintro e w2 ⟨rfl, hbl2, hb2⟩
          rw [← Hst.out] at hbl2
          go_wp2_with fail
          go_roundg (s.size - (j + 1))
          case rel => exact ⟨j + 1, rfl, by go_num, by omega, Or.inr hbl2, by have := hb2.size; omega, hb.out.trans hb2⟩
          case measure => rw [Hg.out]; exact Nat.sub_lt_sub_left hlt (Nat.lt_succ_self j)
      · have hu := up_no s[j] (by omega)
        rw [hu] at Hst
        clear hu
        go_wp2_with fail
        refine (writeByte_any B B _ _ _ hbl.out Hlen.out (by omega)).mono ?_
        rintro e w2 ⟨rfl, hbl2, hb2⟩
        rw [← Hst.out] at hbl2
        go_wp2_with fail
        go_roundg (s.size - (j + 1))
        case rel => exact ⟨j + 1, rfl, by go_num, by omega, Or.inr hbl2, by have := hb2.size; omega, hb.out.trans hb2⟩
        case measure => rw [Hg.out]; exact Nat.sub_lt_sub_left hlt (Nat.lt_succ_self j)
    · obtain rfl : j = s.size := by omega
      have hbl' : Lib.IsBuilder 80 5 B B (Lib.byteCells (ups s)) wr := by
        have := hbl.out
        rw [List.take_of_length_le (by simp)] at this
        exact this
      have Hbl := Lib.hid hbl'
      clear hbl'
      go_wp2_with fail
      refine (Try.Builder_String_any B B _ _ Hbl.out (by omega)).mono ?_
      rintro e w2 ⟨rfl, hb2⟩
      go_wp2_with fail
      go_ret
      exact ⟨rfl, by rw [HB.out]; exact hb.out.trans hb2⟩
end Go.Proofs.Ytndjbjhgkggeiaa.Wv
