/-
  Chapter 14 (ir): an instruction as a text.
-/
import Derived.Test.YtoaidcjjjoafjaaGreatDoorIrB
import Derived.Test.YtoaidcjjjoafjaaGreatDoorIrD
import Derived.Test.YtoaidcjjjoafjaaGreatDoorShelf
import Derived.Test.YtoaidcjjjoafjaaGreatDoorPh
import Derived.WideShapes
set_option linter.unusedVariables false
set_option linter.unusedSimpArgs false
set_option linter.unnecessarySimpa false
set_option linter.deprecated false
namespace Go.Proofs.YtoaidcjjjoafjaaGreatDoor.Ir
open Go.RowKit

theorem below_frame_drew' {B : Nat} {a w : World} (h : Below B a.drew w) : Below B a w := ⟨h.os, h.tape, h.output, h.size, h.block⟩
def nameL : List ByteArray := [⟨#[]⟩, ⟨#[99, 111, 110, 115, 116]⟩, ⟨#[115, 108, 111, 116]⟩, ⟨#[98, 101, 104, 105, 110, 100]⟩, ⟨#[99, 97, 108, 99]⟩, ⟨#[108, 111, 97, 100]⟩, ⟨#[112, 117, 116]⟩, ⟨#[109, 117, 115, 116]⟩, ⟨#[109, 117, 115, 116, 110, 111, 116]⟩, ⟨#[115, 97, 109, 101]⟩, ⟨#[115, 97, 121]⟩, ⟨#[116, 101, 108, 108]⟩, ⟨#[97, 115, 107]⟩]
def nameCells : Array Value := (nameL.map Value.string).toArray
theorem infoStr : (Tryz.prog.info? 9).map (fun i => (i.zero, i.size, i.bytes)) = some (some (.string ⟨#[]⟩), 1, 16) := by kernel_rfl
theorem names_any (w : World) : Calls Tryz.prog 46 #[] w fun e w' => e = .returned (.slice (some ⟨w.heap.size, 0, none⟩) 13 13) ∧ w' = w.alloc (.cells nameCells 9) := by
  go_enter Tryz.func46, Tryz.ntmps46
  go_wp2
  go_ret
  exact ⟨rfl, rfl⟩
theorem name_cell (W : World) (k : Nat) (h : k < 13) : (W.alloc (.cells nameCells 9)).cell? ⟨W.heap.size, k, none⟩ = some (.string (nameL.getD k ⟨#[]⟩)) := by
  have hb : Blk (W.alloc (.cells nameCells 9)) W.heap.size 9 nameCells := Blk.new _ _ _
  obtain rfl | rfl | rfl | rfl | rfl | rfl | rfl | rfl | rfl | rfl | rfl | rfl | rfl : k = 0 ∨ k = 1 ∨ k = 2 ∨ k = 3 ∨ k = 4 ∨ k = 5 ∨ k = 6 ∨ k = 7 ∨ k = 8 ∨ k = 9 ∨ k = 10 ∨ k = 11 ∨ k = 12 := by omega
  · exact hb.cell 0
  · exact hb.cell 1
  · exact hb.cell 2
  · exact hb.cell 3
  · exact hb.cell 4
  · exact hb.cell 5
  · exact hb.cell 6
  · exact hb.cell 7
  · exact hb.cell 8
  · exact hb.cell 9
  · exact hb.cell 10
  · exact hb.cell 11
  · exact hb.cell 12
theorem strs_one (L : List ByteArray) : ∀ u ∈ L.map Value.string, u.oneCell' = true := by intro u hu; simp at hu; obtain ⟨s, _, rfl⟩ := hu; rfl
theorem own_touch' {w w' : World} {B n : Nat} {v : Value} {xs : List Value} (H : w.ownsRow B 9 1 v n xs) (hb : Below w.heap.size w w') : w'.ownsRow B 9 1 v n xs := by
  rcases H.2 with ⟨rfl, rfl⟩ | ⟨g, cap, cur, rfl, _⟩
  · exact ⟨H.1, .inl ⟨rfl, rfl⟩⟩
  · exact own_touch H (Touch.of_below hb (fun _ => False)) (fun _ _ h => h)
theorem own_alloc {w : World} {B n : Nat} {v : Value} {xs : List Value} (H : w.ownsRow B 9 1 v n xs) (o : Obj) : (w.alloc o).ownsRow B 9 1 v n xs := own_touch' H ((Below.refl _ _).alloc (Nat.le_refl _) _)
theorem reads_one (w : World) (t : ByteArray) : Reads (w.alloc (.cells #[.string t] 9)) (w.heap.size + 1) 1 (some ⟨w.heap.size, 0, none⟩) 1 [.string t] := by
  refine ⟨rfl, fun _ => ⟨_, rfl, Nat.lt_succ_self _, fun j u hu => ?_⟩⟩
  have hb : Blk (w.alloc (.cells #[.string t] 9)) w.heap.size 9 #[.string t] := Blk.new _ _ _
  match j, hu with
  | 0, hu =>
    simp at hu
    subst hu
    exact hb.cell 0
theorem own_ge {w : World} {B n k : Nat} {v : Value} {xs : List Value} (H : w.ownsRow B 9 1 v n xs) (h : v.ownBlock = some k) : B ≤ k := by
  rcases H.2 with ⟨rfl, _⟩ | ⟨g, cap, cur, rfl, hg, _⟩
  · simp [Value.ownBlock] at h
  · simp [Value.ownBlock] at h
    omega
theorem name_size (p : Nat) : (nameL.getD p ⟨#[]⟩).size ≤ 20 := by
  by_cases h : p < 13
  · obtain rfl | rfl | rfl | rfl | rfl | rfl | rfl | rfl | rfl | rfl | rfl | rfl | rfl : p = 0 ∨ p = 1 ∨ p = 2 ∨ p = 3 ∨ p = 4 ∨ p = 5 ∨ p = 6 ∨ p = 7 ∨ p = 8 ∨ p = 9 ∨ p = 10 ∨ p = 11 ∨ p = 12 := by omega
    all_goals decide
  · rw [List.getD_eq_getElem?_getD, List.getElem?_eq_none (show nameL.length ≤ p by show 13 ≤ p; omega)]
    decide
/-- A text of an instruction, by texts of its numbers. -/
def textV (i : Ins) (txt : Int → ByteArray) : ByteArray :=
  if 1 ≤ i.op ∧ i.op ≤ 12 then ⟨(Lib.join (([nameL.getD i.op.toNat ⟨#[]⟩, txt i.a, txt i.b, txt i.c, txt i.x] : List ByteArray).map (·.data.toList)) [32]).toArray⟩ else ⟨#[]⟩
def argL (i : Ins) : List Int := [i.a, i.b, i.c, i.x]

set_option maxHeartbeats 4000000 in
set_option maxRecDepth 100000 in
theorem text_any (i : Ins) (txt : Int → ByteArray) (w : World) (hs : ∀ n ∈ argL i, (txt n).size ≤ 20) (hI : ∀ n ∈ argL i, ∀ W, Below w.heap.size w W → Calls Tryz.prog 47 #[.int .i64 n] W fun e w' => e = .returned (.string (txt n)) ∧ Below W.heap.size W w') :
    Calls Tryz.prog 15 #[.agg (insCells i)] w fun e w' => e = .returned (.string (textV i txt)) ∧ Below w.heap.size w w' := by
  obtain ⟨i0, hi0, hz0, hz1, hz2⟩ := info_parts infoStr
  have hbel := (Below.refl w.heap.size w).alloc (Nat.le_refl _) (.cells (insCells i) 42)
  have kb : Blk (w.alloc (.cells (insCells i) 42)) w.heap.size 42 (insCells i) := Blk.new _ _ _
  have HB := Lib.hid hbel
  have HI := Lib.hid hI
  have HS := Lib.hid hs
  clear hbel hI hs
  obtain ⟨bb, hbb⟩ : ∃ b, b = (decide (1 ≤ i.op) && decide (i.op ≤ 12)) := ⟨_, rfl⟩
  have HBt := Lib.hid (between_any i.op 1 12 bb (by rw [hbb]; simp [Btw]))
  have Hbb := Lib.hid hbb
  clear hbb
  unfold insCells at *
  go_enter Tryz.func15, Tryz.ntmps15
  go_wp2_with fail
  generalize w.alloc (.cells #[.int .i64 i.op, .int .i64 i.a, .int .i64 i.b, .int .i64 i.c, .int .i64 i.x] 42) = w1 at *
  have k0 : w1.cell? ⟨w.heap.size, 0, none⟩ = some (.int .i64 i.op) := kb.cell 0
  have k1 : w1.cell? ⟨w.heap.size, 1, none⟩ = some (.int .i64 i.a) := kb.cell 1
  have k2 : w1.cell? ⟨w.heap.size, 2, none⟩ = some (.int .i64 i.b) := kb.cell 2
  have k3 : w1.cell? ⟨w.heap.size, 3, none⟩ = some (.int .i64 i.c) := kb.cell 3
  have k4 : w1.cell? ⟨w.heap.size, 4, none⟩ = some (.int .i64 i.x) := kb.cell 4
  have hlt := kb.lt
  have Hlt := Lib.hid hlt
  have KB := Lib.hid kb
  clear kb hlt
  refine (HBt.out _).mono ?_
  rintro e w' ⟨rfl, rfl⟩
  cases bb with
  | false =>
    go_wp2_with fail
    go_ret
    refine ⟨?_, HB.out⟩
    have h := Hbb.out
    unfold textV
    rw [if_neg (fun hh => by simp [hh.1, hh.2] at h)]
    rfl
  | true =>
    have hop : 1 ≤ i.op ∧ i.op ≤ 12 := by have h := Hbb.out; simpa using h.symm
    obtain ⟨p, hp⟩ : ∃ p : Nat, i.op = p := ⟨i.op.toNat, by omega⟩
    have hp13 : p < 13 := by omega
    have hp1 : (p : Int) < 13 := by omega
    have Hp := Lib.hid hp
    have Hop := Lib.hid hop
    have HV : Hid (textV i txt = ⟨(Lib.join (([nameL.getD p ⟨#[]⟩, txt i.a, txt i.b, txt i.c, txt i.x] : List ByteArray).map (·.data.toList)) [32]).toArray⟩) := by
      refine Lib.hid ?_
      unfold textV
      rw [if_pos hop, hp]
      rfl
    rw [hp] at k0
    clear hop hp
    go_upto_region 3 with fail
    have S0 : (fun W : World => W.cell? ⟨w.heap.size, 0, none⟩ = some (.int .i64 (p : Int))) w1.drew := k0
    have hp0 : (0 : Int) ≤ (p : Int) := by omega
    refine Ph.wp_region_U 7 (fun W : World => W.cell? ⟨w.heap.size, 0, none⟩ = some (.int .i64 (p : Int))) (by kernel_rfl) ?_
    change Ph.wpU _ _ _ _ _ _ 7 #[false, false, false, false, false, false, false] _ _
    refine Ph.U_take (i := 1) (oi := { dst := some 11, op := .fieldAddr 42 (.tmp 1) 0, type := 0, pos := "ir.go:166", after := #[], guard := none }) (v := .pointer (some ⟨w.heap.size, 0, none⟩)) rfl (by kernel_rfl) (by kernel_rfl) (by kernel_rfl) (by kernel_rfl) (fun _ _ _ h => h) (Or.inl ⟨by rfl, ?_⟩) (by assumption) ?_
    · intro W hSw; (try dsimp only at hSw); go_simp
    simp only [Act.put, List.setIfInBounds_toArray, List.set_cons_zero, List.set_cons_succ]
    refine Ph.U_take (i := 2) (oi := { dst := some 12, op := .load 3 (.tmp 11), type := 3, pos := "ir.go:166", after := #[{ on := 1, ground := .data }], guard := none }) (v := .int .i64 (p : Int)) rfl (by kernel_rfl) (by kernel_rfl) (by kernel_rfl) (by kernel_rfl) (fun _ _ _ h => h) (Or.inl ⟨by rfl, ?_⟩) (by assumption) ?_
    · intro W hSw; (try dsimp only at hSw); go_simp
    simp only [Act.put, List.setIfInBounds_toArray, List.set_cons_zero, List.set_cons_succ]
    refine Ph.U_ready (rs := [0]) (by kernel_rfl) (by simp) ?_
    refine Ph.AllReadyU.cons rfl (fun K hK => ?_) Ph.AllReadyU.nil
    go_simp
    refine (names_any w1.drew).mono ?_
    rintro e w2 ⟨rfl, hw2⟩
    have n0 : w2.cell? ⟨w1.heap.size, p, none⟩ = some (.string (nameL.getD p ⟨#[]⟩)) := by rw [hw2]; exact name_cell w1.drew p hp13
    have hb2 : Below w1.heap.size w1 w2 := by rw [hw2]; exact below_frame_drew' ((Below.refl w1.heap.size w1.drew).alloc (show w1.heap.size ≤ w1.drew.heap.size from Nat.le_refl _) _)
    have S2 : (fun W : World => W.cell? ⟨w.heap.size, 0, none⟩ = some (.int .i64 (p : Int))) w2 := (hb2.cell (p := ⟨w.heap.size, 0, none⟩) Hlt.out).trans k0
    have HB2 := Lib.hid hb2
    clear hw2 hb2 S0
    refine hK.out _ _ (fun _ => S2) ?_
    clear hK K
    simp only [Act.put, List.setIfInBounds_toArray, List.set_cons_zero, List.set_cons_succ]
    refine Ph.U_ready (rs := [3]) (by kernel_rfl) (by simp) ?_
    refine Ph.AllReadyU.cons rfl (fun K hK => ?_) Ph.AllReadyU.nil
    go_simp
    refine hK.out _ _ (fun _ => S2) ?_
    clear hK K
    simp only [Act.put, List.setIfInBounds_toArray, List.set_cons_zero, List.set_cons_succ]
    generalize hnm : nameL.getD p ⟨#[]⟩ = nm at *
    have Hnm := Lib.hid hnm
    clear hnm
    refine Ph.U_ready (rs := [4]) (by kernel_rfl) (by simp) ?_
    refine Ph.AllReadyU.cons rfl (fun K hK => ?_) Ph.AllReadyU.nil
    go_simp
    refine hK.out _ _ (fun _ => S2) ?_
    clear hK K
    simp only [Act.put, List.setIfInBounds_toArray, List.set_cons_zero, List.set_cons_succ]
    refine Ph.U_ready (rs := [5]) (by kernel_rfl) (by simp) ?_
    refine Ph.AllReadyU.cons rfl (fun K hK => ?_) Ph.AllReadyU.nil
    go_simp
    have hb3 : Below w2.heap.size w2 (w2.alloc (.cells #[.string nm] 9)) := (Below.refl _ _).alloc (Nat.le_refl _) _
    have ho3 := World.ownsRow_lit (base := w.heap.size) (e := 9) (size := 1) w2 #[Value.string nm] 1 (by have := HB2.out.size; have := Hlt.out; omega) (by decide) rfl
    have S3 : (fun W : World => W.cell? ⟨w.heap.size, 0, none⟩ = some (.int .i64 (p : Int))) (w2.alloc (.cells #[.string nm] 9)) := (hb3.cell (p := ⟨w.heap.size, 0, none⟩) (by have := HB2.out.size; have := Hlt.out; show w.heap.size < w2.heap.size; omega)).trans S2
    have HB3 := Lib.hid (HB2.out.trans (hb3.mono HB2.out.size))
    have HO3 := Lib.hid ho3
    clear hb3 ho3
    have h24 : w2.heap.size < (w2.alloc (.cells #[.string nm] 9)).heap.size := by simp
    have H24 := Lib.hid h24
    clear h24
    generalize w2.alloc (.cells #[.string nm] 9) = w3 at *
    generalize w2.heap.size = b2 at *
    refine hK.out _ _ (fun _ => S3) ?_
    clear hK K
    simp only [Act.put, List.setIfInBounds_toArray, List.set_cons_zero, List.set_cons_succ]
    refine Ph.U_ready (rs := [6]) (by kernel_rfl) (by simp) ?_
    refine Ph.AllReadyU.cons rfl (fun K hK => ?_) Ph.AllReadyU.nil
    go_simp
    refine hK.out _ _ (fun _ => S3) ?_
    clear hK K
    simp only [Act.put, List.setIfInBounds_toArray, List.set_cons_zero, List.set_cons_succ]
    refine Ph.U_done (by kernel_rfl) ?_ _
    clear S2 S3 n0 HB2
    have q1 : w3.cell? ⟨w.heap.size, 1, none⟩ = some (.int .i64 i.a) := (HB3.out.cell (p := ⟨w.heap.size, 1, none⟩) Hlt.out).trans k1
    have q2 : w3.cell? ⟨w.heap.size, 2, none⟩ = some (.int .i64 i.b) := (HB3.out.cell (p := ⟨w.heap.size, 2, none⟩) Hlt.out).trans k2
    have q3 : w3.cell? ⟨w.heap.size, 3, none⟩ = some (.int .i64 i.c) := (HB3.out.cell (p := ⟨w.heap.size, 3, none⟩) Hlt.out).trans k3
    have q4 : w3.cell? ⟨w.heap.size, 4, none⟩ = some (.int .i64 i.x) := (HB3.out.cell (p := ⟨w.heap.size, 4, none⟩) Hlt.out).trans k4
    go_wp2_with fail
    have kb4 : Blk (w3.alloc (.cells #[.int .i64 i.a, .int .i64 i.b, .int .i64 i.c, .int .i64 i.x] 3)) w3.heap.size 3 #[.int .i64 i.a, .int .i64 i.b, .int .i64 i.c, .int .i64 i.x] := Blk.new _ _ _
    have hb4 : Below w3.heap.size w3 (w3.alloc (.cells #[.int .i64 i.a, .int .i64 i.b, .int .i64 i.c, .int .i64 i.x] 3)) := (Below.refl _ _).alloc (Nat.le_refl _) _
    have HB4 : Hid (Below w.heap.size w (w3.alloc (.cells #[.int .i64 i.a, .int .i64 i.b, .int .i64 i.c, .int .i64 i.x] 3))) := HB.out.trans ((HB3.out.trans (hb4.mono HB3.out.size)).mono (Nat.le_of_lt Hlt.out))
    have HO4 : Hid ((w3.alloc (.cells #[.int .i64 i.a, .int .i64 i.b, .int .i64 i.c, .int .i64 i.x] 3)).ownsRow w.heap.size 9 1 (.slice (some ⟨b2, 0, none⟩) 1 1) 1 [.string nm]) := own_touch HO3.out (Touch.of_below hb4 (fun _ => False)) (fun _ _ h => h)
    have HL4 : Hid (w3.heap.size < (w3.alloc (.cells #[.int .i64 i.a, .int .i64 i.b, .int .i64 i.c, .int .i64 i.x] 3)).heap.size) := kb4.lt
    have ha : ∀ k, k < 4 → (w3.alloc (.cells #[.int .i64 i.a, .int .i64 i.b, .int .i64 i.c, .int .i64 i.x] 3)).cell? ⟨w3.heap.size, k, none⟩ = some (.int .i64 ((argL i).getD k 0)) := fun k hk => by
      obtain rfl | rfl | rfl | rfl : k = 0 ∨ k = 1 ∨ k = 2 ∨ k = 3 := by omega
      · exact kb4.cell 0
      · exact kb4.cell 1
      · exact kb4.cell 2
      · exact kb4.cell 3
    have HA4 := Lib.hid ha
    have HW3 : Hid (w.heap.size ≤ w3.heap.size) := Nat.le_trans (Nat.le_of_lt Hlt.out) HB3.out.size
    clear q1 q2 q3 q4 hb4 kb4 ha k0 k1 k2 k3 k4 HB3 HO3
    generalize w3.alloc (.cells #[.int .i64 i.a, .int .i64 i.b, .int .i64 i.c, .int .i64 i.x] 3) = w4 at *
    generalize w3.heap.size = b4 at *
    obtain ⟨xs, hxs⟩ : ∃ xs : List ByteArray, xs = nm :: (argL i).map txt := ⟨_, rfl⟩
    have Hxs := Lib.hid hxs
    clear hxs
    go_loopg [26, 3] 4 (fun gg vi vl wq => ∃ k : Nat, gg = 4 - k ∧ vi = .int .i64 k ∧ k ≤ 4 ∧ Hid (wq.ownsRow w.heap.size 9 1 vl (k + 1) ((xs.take (k + 1)).map .string)) ∧ Hid (Below w.heap.size w wq) ∧ Hid (b4 < wq.heap.size ∧ w.heap.size ≤ b4 ∧ vl.ownBlock ≠ some b4) ∧ Hid (∀ k, k < 4 → wq.cell? ⟨b4, k, none⟩ = some (.int .i64 ((argL i).getD k 0))))
    case atStart => exact ⟨0, rfl, rfl, Nat.zero_le _, by rw [Hxs.out]; exact HO4, HB4, ⟨HL4.out, HW3.out, fun h => by have := H24.out; simp [Value.ownBlock] at h; omega⟩, HA4⟩
    case round =>
      obtain ⟨k, hg, rfl, hk, HO, HBw, HL, HA⟩ := hrel
      have Hg := Lib.hid hg
      clear hg
      by_cases hkl : k < 4
      · have hkl' : (k : Int) < 4 := by omega
        have ca := HA.out k hkl
        have hmem : (argL i).getD k 0 ∈ argL i := by
          rw [List.getD_eq_getElem?_getD, List.getElem?_eq_getElem (show k < (argL i).length from hkl)]
          exact List.getElem_mem _
        have hxk : xs.take (k + 1 + 1) = xs.take (k + 1) ++ [txt ((argL i).getD k 0)] := by
          rw [List.take_add_one (i := k + 1), Hxs.out]
          congr 1
          simp [List.getD_eq_getElem?_getD, List.getElem?_eq_getElem (show k < (argL i).length from hkl)]
        have HIt := Lib.hid (HI.out _ hmem wr HBw.out)
        have HSk := Lib.hid (HS.out _ hmem)
        have Hxk := Lib.hid hxk
        clear hmem hxk
        generalize (argL i).getD k 0 = nk at *
        go_wp2_with fail
        refine HIt.out.mono ?_
        rintro e w5 ⟨rfl, hb5⟩
        generalize txt nk = tk at *
        have o5 := own_touch' HO.out hb5
        have HB5 := Lib.hid (HBw.out.trans (hb5.mono HBw.out.size))
        have HA5 : Hid (∀ k, k < 4 → w5.cell? ⟨b4, k, none⟩ = some (.int .i64 ((argL i).getD k 0))) := fun k hk => (hb5.cell (p := ⟨b4, k, none⟩) HL.out.1).trans (HA.out k hk)
        have hs5 := hb5.size
        have hw5 : w.heap.size ≤ w5.heap.size := HB5.out.size
        clear ca HA HIt hb5
        go_wp2_with (at_builtin; refine wpList_append_any _ rfl _ _ 31 rfl w.heap.size 9 i0 (.string ⟨#[]⟩) 1 16 Tryz.underlying31 hi0 hz0 hz1 hz2 rfl (by decide) _ (k + 1) ((xs.take (k + 1)).map Value.string) rfl (own_alloc o5 _) (w5.heap.size + 1) (some ⟨w5.heap.size, 0, none⟩) 1 1 [.string tk] rfl (reads_one w5 tk) (strs_one [tk]) (by unfold maxLen; omega) (by omega) (by simp; omega) ?_)
        intro v' w6 ho6 hg6 hbk
        have HB6 : Hid (Below w.heap.size w w6) := (HB5.out.alloc HB5.out.size _).grown hg6 (by simp; omega) (fun q hq => own_ge o5 hq)
        have HA6 : Hid (∀ k, k < 4 → w6.cell? ⟨b4, k, none⟩ = some (.int .i64 ((argL i).getD k 0))) := fun k hk => hg6.cell (((Below.refl w5.heap.size w5).alloc (Nat.le_refl _) (.cells #[.string tk] 9)).cell (p := ⟨b4, k, none⟩) (show b4 < w5.heap.size by have := HL.out.1; omega) |>.trans (HA5.out k hk)) (fun h => HL.out.2.2 h.symm)
        have hsz6 : w5.heap.size ≤ w6.heap.size := by have := hg6.size; simp at this; omega
        have HL6 : Hid (b4 < w6.heap.size ∧ w.heap.size ≤ b4 ∧ v'.ownBlock ≠ some b4) := ⟨by have := HL.out.1; omega, HL.out.2.1, fun h => by
          rcases hbk with h' | h'
          · exact HL.out.2.2 (h'.symm.trans h)
          · rw [h'] at h
            have := HL.out.1
            simp at h
            omega⟩
        have HO6 : Hid (w6.ownsRow w.heap.size 9 1 v' (k + 1 + 1) ((xs.take (k + 1 + 1)).map .string)) := by
          refine Lib.hid ?_
          rw [Hxk.out]
          simpa using ho6
        clear ho6 hg6 hbk o5 hs5 hw5 hsz6 HA5 HB5 HL HO
        go_wp2_with fail
        go_roundg (4 - (k + 1))
        case rel => exact ⟨k + 1, rfl, by go_num, by omega, HO6, HB6, HL6, HA6⟩
        case measure => have := Hg.out; omega
      · obtain rfl : k = 4 := by omega
        have hx5 : xs.take (4 + 1) = xs := by rw [Hxs.out]; rfl
        rw [hx5] at HO
        have hl5 : xs.length = 5 := by rw [Hxs.out]; rfl
        rcases HO.out.2 with ⟨_, h0⟩ | ⟨gb, cap, cur, rfl, hgb, hh, hcap, hmax, hszc, htk⟩
        · omega
        have hlen : (Lib.join (xs.map (·.data.toList)) [32]).length ≤ 140737488355328 := by
          rw [Hxs.out]
          show (Lib.join ((nm :: [txt i.a, txt i.b, txt i.c, txt i.x]).map (·.data.toList)) [32]).length ≤ _
          simp only [List.map_cons, List.map_nil, Lib.join_length]
          have s1 := HS.out i.a (by simp [argL])
          have s2 := HS.out i.b (by simp [argL])
          have s3 := HS.out i.c (by simp [argL])
          have s4 := HS.out i.x (by simp [argL])
          have s5 : nm.size ≤ 20 := by rw [← Hnm.out]; exact name_size p
          have e : ∀ b : ByteArray, b.data.toList.length = b.size := fun b => by rw [Array.length_toList]; rfl
          simp only [Lib.lens, List.map_cons, List.map_nil, List.sum_cons, List.sum_nil, List.length_cons, List.length_nil, e]
          omega
        have HJ := Lib.hid (Tryz.strings_Join gb 0 cap xs ⟨#[32]⟩ wr (fun j x hx => by
          have := HO.out.cells (g := gb) rfl j (.string x) (by simp [hx])
          rw [WideShapes.add_plain] at this
          exact this) (by have := HO.out.cells (g := gb) rfl 0 (.string (xs.getD 0 ⟨#[]⟩)) (by simp [List.getD_eq_getElem?_getD, List.getElem?_eq_getElem (show 0 < xs.length by omega)]); exact World.block_lt_of_cell? wr _ this) (by omega) (by omega) hlen)
        rw [hl5] at HJ
        clear hlen hgb hh hcap hmax hszc htk hx5
        go_wp2_with fail
        refine HJ.out.mono ?_
        rintro e w7 ⟨rfl, hb7⟩
        have HB7 := Lib.hid (HBw.out.trans (hb7.mono HBw.out.size))
        clear hb7
        go_wp2_with fail
        go_ret
        refine ⟨?_, HB7.out⟩
        rw [HV.out, Hxs.out]
        rfl
end Go.Proofs.YtoaidcjjjoafjaaGreatDoor.Ir
