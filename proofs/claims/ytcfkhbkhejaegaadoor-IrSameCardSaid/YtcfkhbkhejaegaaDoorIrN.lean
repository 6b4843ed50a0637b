/-
  Chapter 14 (ir): two traces that differ in one number. (Printed by geniro.py out of XIrK.head.)
-/
import Derived.Test.YtcfkhbkhejaegaaDoorIrK
import Derived.Test.YtcfkhbkhejaegaaDoorIrS
set_option linter.unusedVariables false
set_option linter.unusedSimpArgs false
set_option linter.unnecessarySimpa false
set_option linter.deprecated false
namespace Go.Proofs.YtcfkhbkhejaegaaDoor.Ir
open Go.RowKit

def intsV (f : Nat → Int) (n : Nat) : List Value := (List.range n).map fun i => .int .i64 (f i)
theorem intsV_len (f : Nat → Int) (n : Nat) : (intsV f n).length = n * 1 := by simp [intsV]
theorem intsV_one (f : Nat → Int) (n : Nat) : ∀ u ∈ intsV f n, u.oneCell' = true := by
  intro u hu
  obtain ⟨i, _, rfl⟩ := List.mem_map.1 hu
  rfl
theorem intsV_get (f : Nat → Int) (n j : Nat) (h : j < n) : (intsV f n)[j]? = some (.int .i64 (f j)) := by simp [intsV, h]
theorem intsV_reads {W : World} {B n : Nat} {A : Option Addr} {f : Nat → Int} (h : IntsAt W B A n f) : Reads W B 1 A n (intsV f n) := by
  refine ⟨intsV_len f n, fun hn => ?_⟩
  obtain ⟨b, off, rfl, hb, hc⟩ := h.resolve_left (by omega)
  refine ⟨_, rfl, hb, fun j u hu => ?_⟩
  have hj : j < n := by have := (List.getElem?_eq_some_iff.1 hu).1; rw [intsV_len] at this; omega
  rw [intsV_get f n j hj] at hu
  injection hu with hu
  subst hu
  rw [WideShapes.add_plain]
  exact hc j hj
theorem infoInt : (Tryd.prog.info? 3).map (fun i => (i.zero, i.size, i.bytes)) = some (some (.int .i64 0), 1, 8) := by kernel_rfl
theorem own_int {w w' : World} {B n : Nat} {v : Value} {xs : List Value} (H : w.ownsRow B 3 1 v n xs) (hb : Below w.heap.size w w') : w'.ownsRow B 3 1 v n xs := by
  rcases H.2 with ⟨rfl, rfl⟩ | ⟨g, cap, cur, rfl, _⟩
  · exact ⟨H.1, .inl ⟨rfl, rfl⟩⟩
  · exact own_touch H (Touch.of_below hb (fun _ => False)) (fun _ _ h => h)
theorem own_ge' {w : World} {B n k : Nat} {v : Value} {xs : List Value} (H : w.ownsRow B 3 1 v n xs) (h : v.ownBlock = some k) : B ≤ k := by
  rcases H.2 with ⟨rfl, _⟩ | ⟨g, cap, cur, rfl, hg, _⟩
  · simp [Value.ownBlock] at h
  · simp [Value.ownBlock] at h
    omega
theorem reads_int (w : World) (t : Int) : Reads (w.alloc (.cells #[.int .i64 t] 3)) (w.heap.size + 1) 1 (some ⟨w.heap.size, 0, none⟩) 1 [.int .i64 t] := by
  refine ⟨rfl, fun _ => ⟨_, rfl, Nat.lt_succ_self _, fun j u hu => ?_⟩⟩
  have hb : Blk (w.alloc (.cells #[.int .i64 t] 3)) w.heap.size 3 #[.int .i64 t] := Blk.new _ _ _
  match j, hu with
  | 0, hu =>
    simp at hu
    subst hu
    exact hb.cell 0
theorem ints_of {w : World} {B n : Nat} {v : Value} {f : Nat → Int} {x : Int} (H : w.ownsRow B 3 1 v (n + 1) (intsV f n ++ [.int .i64 x])) :
    ∃ g cap, v = .slice (some ⟨g, 0, none⟩) (n + 1) cap ∧ B ≤ g ∧ IntsAt w w.heap.size (some ⟨g, 0, none⟩) (n + 1) (fun i => if i < n then f i else x) := by
  rcases H.2 with ⟨_, h0⟩ | ⟨g, cap, cur, rfl, hg, hh, _⟩
  · omega
  · refine ⟨g, cap, rfl, hg, .inr ⟨g, 0, rfl, (Array.getElem?_eq_some_iff.1 hh).1, fun i hi => ?_⟩⟩
    have := H.cells (g := g) rfl i (.int .i64 (if i < n then f i else x)) (by
      by_cases h : i < n
      · rw [if_pos h, List.getElem?_append_left (by rw [intsV_len]; omega)]
        exact intsV_get f n i h
      · rw [if_neg h, List.getElem?_append_right (by rw [intsV_len]; omega), intsV_len]
        have : i - n * 1 = 0 := by omega
        rw [this]
        rfl)
    rw [WideShapes.add_plain] at this
    exact this
theorem ints_far {w : World} {g n b : Nat} {f : Nat → Int} (h : IntsAt w w.heap.size (some ⟨g, 0, none⟩) n f) (hne : b ≠ g) {i : Nat} (u : Value) : IntsAt (w.setCell ⟨b, i, none⟩ u) (w.setCell ⟨b, i, none⟩ u).heap.size (some ⟨g, 0, none⟩) n f := by
  have hsz : (w.setCell ⟨b, i, none⟩ u).heap.size = w.heap.size := by simp
  refine h.imp id fun ⟨b', off, h1, h2, h3⟩ => ?_
  injection h1 with h1
  injection h1 with h1 h1'
  subst h1 h1'
  refine ⟨g, 0, rfl, by rw [hsz]; exact h2, fun j hj => ?_⟩
  rw [World.cell?_setCell_far w ⟨b, i, none⟩ ⟨g, 0 + j, none⟩ u hne]
  exact h3 j hj
theorem same_ins {T : Tr} {k : Nat} {I : Ins} {v : Int} (hk : k < T.ni) (h : I = T.ins k ↔ v = 0) : SameT { T with ins := fun i => if i = k then I else T.ins i } T ↔ v = 0 := by
  constructor
  · intro hs
    have := hs.2.2.2.2.2.2.1.2 k hk
    dsimp only at this
    rw [if_pos rfl] at this
    exact h.1 this
  · intro hv
    refine ⟨rfl, rfl, rfl, rfl, rfl, rfl, ⟨rfl, fun i hi => ?_⟩, ⟨rfl, fun i _ => alike_refl _⟩, ⟨rfl, fun _ _ => rfl⟩⟩
    dsimp only
    split
    · rename_i hik
      rw [h.2 hv, hik]
    · rfl

set_option maxHeartbeats 8000000 in
set_option maxRecDepth 100000 in
theorem samespoilt_any (T : Tr) (Ai Ao Ac : Option Addr) (ci co cc : Nat) (at_ field v : Int) (w : World) (hv : In64 v) (hR : InR T) (hT : TrBig w w.heap.size T Ai Ao Ac) :
    Calls Tryd.prog 11 #[.agg (trCells T Ai ci Ao co Ac cc), .int .i64 at_, .int .i64 field, .int .i64 v] w fun e w' => e = .returned (.bool true) ∧ Below w.heap.size w w' := by
  have hbel := (Below.refl w.heap.size w).alloc (Nat.le_refl _) (.cells (trCells T Ai ci Ao co Ac cc) 59)
  have kb : Blk (w.alloc (.cells (trCells T Ai ci Ao co Ac cc) 59)) w.heap.size 59 (trCells T Ai ci Ao co Ac cc) := Blk.new _ _ _
  have HBel := Lib.hid hbel
  have HT := Lib.hid (hT.below hbel)
  have KB := Lib.hid kb
  have HL := fun W (hW : Below w.heap.size w W) => light_any T Ai Ao Ac ci co cc w.heap.size W (hT.below hW) hW.size
  have HLh := Lib.hid HL
  have HA := Lib.hid alive_any
  have HV := Lib.hid hv
  have HRg := Lib.hid hR
  clear hv hR hbel hT kb HL
  unfold trCells at *
  go_enter Tryd.func11, Tryd.ntmps11
  go_wp2_with fail
  generalize w.alloc (.cells #[.int .i64 T.start, .int .i64 T.slots, .int .i64 T.backs, .int .i64 T.grow, .int .i64 T.growBack, .slice Ai T.ni ci, .slice Ao T.no co, .int .i64 T.last, .slice Ac T.nc cc] 59) = w1 at *
  have k0 : w1.cell? ⟨w.heap.size, 0, none⟩ = some (.int .i64 T.start) := KB.out.cell 0
  have k1 : w1.cell? ⟨w.heap.size, 1, none⟩ = some (.int .i64 T.slots) := KB.out.cell 1
  have k2 : w1.cell? ⟨w.heap.size, 2, none⟩ = some (.int .i64 T.backs) := KB.out.cell 2
  have k3 : w1.cell? ⟨w.heap.size, 3, none⟩ = some (.int .i64 T.grow) := KB.out.cell 3
  have k4 : w1.cell? ⟨w.heap.size, 4, none⟩ = some (.int .i64 T.growBack) := KB.out.cell 4
  have k5 : w1.cell? ⟨w.heap.size, 5, none⟩ = some (.slice Ai T.ni ci) := KB.out.cell 5
  have k6 : w1.cell? ⟨w.heap.size, 6, none⟩ = some (.slice Ao T.no co) := KB.out.cell 6
  have k7 : w1.cell? ⟨w.heap.size, 7, none⟩ = some (.int .i64 T.last) := KB.out.cell 7
  have k8 : w1.cell? ⟨w.heap.size, 8, none⟩ = some (.slice Ac T.nc cc) := KB.out.cell 8
  go_wp2_with fail
  refine (HLh.out w1 HBel.out).mono ?_
  rintro e w2 ⟨bl, rfl, hl, hb2⟩
  have HB2 := Lib.hid (HBel.out.trans (hb2.mono HBel.out.size))
  have K2 := Lib.hid (KB.out.below hb2 KB.out.lt)
  have HT2 := Lib.hid (HT.out.below (hb2.mono HBel.out.size))
  clear hb2 k0 k1 k2 k3 k4 k5 k6 k7 k8 HT KB HBel HLh
  cases bl with
  | false =>
    clear hl
    go_wp2_with fail
    refine (HA.out w2).mono ?_
    rintro e w3 ⟨rfl, hb3⟩
    go_wp2_with fail
    go_ret
    exact ⟨rfl, HB2.out.trans (hb3.mono HB2.out.size)⟩
  | true =>
  have hl := hl rfl
  have HLt := Lib.hid hl
  have HTt := Lib.hid (HT2.out.light hl)
  clear hl HT2
  have k0 : w2.cell? ⟨w.heap.size, 0, none⟩ = some (.int .i64 T.start) := K2.out.cell 0
  have k1 : w2.cell? ⟨w.heap.size, 1, none⟩ = some (.int .i64 T.slots) := K2.out.cell 1
  have k2 : w2.cell? ⟨w.heap.size, 2, none⟩ = some (.int .i64 T.backs) := K2.out.cell 2
  have k3 : w2.cell? ⟨w.heap.size, 3, none⟩ = some (.int .i64 T.grow) := K2.out.cell 3
  have k4 : w2.cell? ⟨w.heap.size, 4, none⟩ = some (.int .i64 T.growBack) := K2.out.cell 4
  have k5 : w2.cell? ⟨w.heap.size, 5, none⟩ = some (.slice Ai T.ni ci) := K2.out.cell 5
  have k6 : w2.cell? ⟨w.heap.size, 6, none⟩ = some (.slice Ao T.no co) := K2.out.cell 6
  have k7 : w2.cell? ⟨w.heap.size, 7, none⟩ = some (.int .i64 T.last) := K2.out.cell 7
  have k8 : w2.cell? ⟨w.heap.size, 8, none⟩ = some (.slice Ac T.nc cc) := K2.out.cell 8
  by_cases hni : T.ni = 0
  · have hni' : ((T.ni : Int) == 0) = true := by simp [hni]
    have hni'' : (T.ni : Int) = 0 := by omega
    go_wp2_with fail
    refine (HA.out w2).mono ?_
    rintro e w3 ⟨rfl, hb3⟩
    go_wp2_with fail
    go_ret
    exact ⟨rfl, HB2.out.trans (hb3.mono HB2.out.size)⟩
  have hni' : ((T.ni : Int) == 0) = false := by simp [hni]
  have hni'' : ¬ (T.ni : Int) = 0 := by omega
  go_wp2_with fail
  refine (HA.out w2).mono ?_
  rintro e w4 ⟨rfl, hb4⟩
  have HB4 := Lib.hid (HB2.out.trans (hb4.mono HB2.out.size))
  have K4 := Lib.hid (K2.out.below hb4 K2.out.lt)
  have HT4 := Lib.hid (HTt.out.below (hb4.mono HB2.out.size))
  clear hb4 HTt K2 HB2 HA hni' hni'' k0 k1 k2 k3 k4 k5 k6 k7 k8
  have k0 : w4.cell? ⟨w.heap.size, 0, none⟩ = some (.int .i64 T.start) := K4.out.cell 0
  have k1 : w4.cell? ⟨w.heap.size, 1, none⟩ = some (.int .i64 T.slots) := K4.out.cell 1
  have k2 : w4.cell? ⟨w.heap.size, 2, none⟩ = some (.int .i64 T.backs) := K4.out.cell 2
  have k3 : w4.cell? ⟨w.heap.size, 3, none⟩ = some (.int .i64 T.grow) := K4.out.cell 3
  have k4 : w4.cell? ⟨w.heap.size, 4, none⟩ = some (.int .i64 T.growBack) := K4.out.cell 4
  have k5 : w4.cell? ⟨w.heap.size, 5, none⟩ = some (.slice Ai T.ni ci) := K4.out.cell 5
  have k6 : w4.cell? ⟨w.heap.size, 6, none⟩ = some (.slice Ao T.no co) := K4.out.cell 6
  have k7 : w4.cell? ⟨w.heap.size, 7, none⟩ = some (.int .i64 T.last) := K4.out.cell 7
  have k8 : w4.cell? ⟨w.heap.size, 8, none⟩ = some (.slice Ac T.nc cc) := K4.out.cell 8
  have hn0 : (T.ni : Int) ≠ 0 := by omega
  have hn1 : (0 : Int) < (T.ni : Int) := by omega
  have hn2 : (T.ni : Int) ≤ 120 := by have := HLt.out.1; omega
  go_wp2_with fail
  go_upto_region 3 with fail
  go_cut [9] (fun x wc => (∃ k : Nat, x = .int .i64 (k : Int) ∧ k < T.ni) ∧ ∃ m, wc = w4.drewN m)
  case first =>
    go_quiet (fail)
    go_wp2_with fail
    go_meet
    obtain ⟨k, hk1, hk2⟩ := rem_k at_ T.ni hn1 hn2
    exact ⟨⟨k, by rw [hk1], by omega⟩, _, rfl⟩
  case rest =>
    obtain ⟨⟨k, rfl, hk⟩, m, rfl⟩ := hcut
    have HB5 := Lib.hid (below_of_draw HB4.out m)
    have K5 := Lib.hid (K4.out.drewN m)
    have HT5 : Hid (TrAt (w4.drewN m) w.heap.size T Ai Ao Ac) := ⟨HT4.out.ins, HT4.out.outs, HT4.out.cells, HT4.out.fewI, HT4.out.fewO, HT4.out.fewC⟩
    clear HT4 K4 HB4 k0 k1 k2 k3 k4 k5 k6 k7 k8
    generalize w4.drewN m = w5 at *
    have k0 : w5.cell? ⟨w.heap.size, 0, none⟩ = some (.int .i64 T.start) := K5.out.cell 0
    have k1 : w5.cell? ⟨w.heap.size, 1, none⟩ = some (.int .i64 T.slots) := K5.out.cell 1
    have k2 : w5.cell? ⟨w.heap.size, 2, none⟩ = some (.int .i64 T.backs) := K5.out.cell 2
    have k3 : w5.cell? ⟨w.heap.size, 3, none⟩ = some (.int .i64 T.grow) := K5.out.cell 3
    have k4 : w5.cell? ⟨w.heap.size, 4, none⟩ = some (.int .i64 T.growBack) := K5.out.cell 4
    have k5 : w5.cell? ⟨w.heap.size, 5, none⟩ = some (.slice Ai T.ni ci) := K5.out.cell 5
    have k6 : w5.cell? ⟨w.heap.size, 6, none⟩ = some (.slice Ao T.no co) := K5.out.cell 6
    have k7 : w5.cell? ⟨w.heap.size, 7, none⟩ = some (.int .i64 T.last) := K5.out.cell 7
    have k8 : w5.cell? ⟨w.heap.size, 8, none⟩ = some (.slice Ac T.nc cc) := K5.out.cell 8
    obtain ⟨i0, hi0, hz0, hz1, hz2⟩ := info_parts infoIns
    go_upto_region 5 with fail
    have kx : Blk (w5.alloc (.cells #[.int .i64 T.start, .int .i64 T.slots, .int .i64 T.backs, .int .i64 T.grow, .int .i64 T.growBack, .slice Ai T.ni ci, .slice Ao T.no co, .int .i64 T.last, .slice Ac T.nc cc] 59)) w5.heap.size 59 #[.int .i64 T.start, .int .i64 T.slots, .int .i64 T.backs, .int .i64 T.grow, .int .i64 T.growBack, .slice Ai T.ni ci, .slice Ao T.no co, .int .i64 T.last, .slice Ac T.nc cc] := Blk.new _ _ _
    have hx : Below w5.heap.size w5 (w5.alloc (.cells #[.int .i64 T.start, .int .i64 T.slots, .int .i64 T.backs, .int .i64 T.grow, .int .i64 T.growBack, .slice Ai T.ni ci, .slice Ao T.no co, .int .i64 T.last, .slice Ac T.nc cc] 59)) := (Below.refl _ _).alloc (Nat.le_refl _) _
    have HB6 := Lib.hid (HB5.out.trans (hx.mono HB5.out.size))
    have K6 := Lib.hid (K5.out.below hx K5.out.lt)
    have KX6 := Lib.hid kx
    have HT6 := Lib.hid (HT5.out.below (hx.mono HB5.out.size))
    have Hbx := Lib.hid K5.out.lt
    clear kx hx HT5 K5 HB5 k0 k1 k2 k3 k4 k5 k6 k7 k8
    generalize w5.alloc (.cells #[.int .i64 T.start, .int .i64 T.slots, .int .i64 T.backs, .int .i64 T.grow, .int .i64 T.growBack, .slice Ai T.ni ci, .slice Ao T.no co, .int .i64 T.last, .slice Ac T.nc cc] 59) = w6 at *
    generalize w5.heap.size = bx at *
    have k0 : w6.cell? ⟨w.heap.size, 0, none⟩ = some (.int .i64 T.start) := K6.out.cell 0
    have k1 : w6.cell? ⟨w.heap.size, 1, none⟩ = some (.int .i64 T.slots) := K6.out.cell 1
    have k2 : w6.cell? ⟨w.heap.size, 2, none⟩ = some (.int .i64 T.backs) := K6.out.cell 2
    have k3 : w6.cell? ⟨w.heap.size, 3, none⟩ = some (.int .i64 T.grow) := K6.out.cell 3
    have k4 : w6.cell? ⟨w.heap.size, 4, none⟩ = some (.int .i64 T.growBack) := K6.out.cell 4
    have k5 : w6.cell? ⟨w.heap.size, 5, none⟩ = some (.slice Ai T.ni ci) := K6.out.cell 5
    have k6 : w6.cell? ⟨w.heap.size, 6, none⟩ = some (.slice Ao T.no co) := K6.out.cell 6
    have k7 : w6.cell? ⟨w.heap.size, 7, none⟩ = some (.int .i64 T.last) := K6.out.cell 7
    have k8 : w6.cell? ⟨w.heap.size, 8, none⟩ = some (.slice Ac T.nc cc) := K6.out.cell 8
    have hn9 : T.ni ≤ 120 := HLt.out.1
    go_wp2_with (at_builtin; refine wpList_append_any _ rfl _ _ 55 rfl w6.heap.size 62 i0 (.agg #[.int .i64 0, .int .i64 0, .int .i64 0, .int .i64 0, .int .i64 0]) 5 40 Tryd.underlying55 hi0 hz0 hz1 hz2 rfl (by decide) _ 0 [] rfl ⟨rfl, .inl ⟨rfl, rfl⟩⟩ w.heap.size Ai T.ni ci (insV T.ins T.ni) rfl (insV_reads HT6.out.ins) (insV_one _ _) (by unfold maxLen; omega) (by omega) (Nat.le_refl _) ?_)
    intro v' w7 ho7 hg7 _
    obtain ⟨g, cap, cur, rfl, hg, hrow, hcap⟩ := rowI_of hni ho7
    have HB7 : Hid (Below w.heap.size w w7) := HB6.out.grown hg7 HB6.out.size (fun q hq => by simp [Value.ownBlock] at hq)
    have K7 := Lib.hid (K6.out.grown hg7 (by simp [Value.ownBlock]))
    have KX7 := Lib.hid (KX6.out.grown hg7 (by simp [Value.ownBlock]))
    have HT7 : Hid (TrAt w7 w.heap.size T Ai Ao Ac) := HT6.out.below (HB6.out.size |> fun hs => (show Below w.heap.size w6 w7 from (Below.refl w.heap.size w6).grown hg7 hs (fun q hq => by simp [Value.ownBlock] at hq)))
    have HRow := Lib.hid hrow
    have Hg := Lib.hid (Nat.lt_of_lt_of_le KX6.out.lt hg)
    clear hrow hg hg7 ho7 hn9 HT6 KX6 K6 HB6 k0 k1 k2 k3 k4 k5 k6 k7 k8
    have q0 : w7.cell? ⟨bx, 0, none⟩ = some (.int .i64 T.start) := KX7.out.cell 0
    have q1 : w7.cell? ⟨bx, 1, none⟩ = some (.int .i64 T.slots) := KX7.out.cell 1
    have q2 : w7.cell? ⟨bx, 2, none⟩ = some (.int .i64 T.backs) := KX7.out.cell 2
    have q3 : w7.cell? ⟨bx, 3, none⟩ = some (.int .i64 T.grow) := KX7.out.cell 3
    have q4 : w7.cell? ⟨bx, 4, none⟩ = some (.int .i64 T.growBack) := KX7.out.cell 4
    have q5 : w7.cell? ⟨bx, 5, none⟩ = some (.slice Ai T.ni ci) := KX7.out.cell 5
    have q6 : w7.cell? ⟨bx, 6, none⟩ = some (.slice Ao T.no co) := KX7.out.cell 6
    have q7 : w7.cell? ⟨bx, 7, none⟩ = some (.int .i64 T.last) := KX7.out.cell 7
    have q8 : w7.cell? ⟨bx, 8, none⟩ = some (.slice Ac T.nc cc) := KX7.out.cell 8
    have fz7 : w7.frozen? ⟨bx, 5, none⟩ = false := KX7.out.frozen 5
    go_upto_block 0 with fail
    have HB8 := Lib.hid (HB7.out.setCell (p := ⟨bx, 5, none⟩) (Nat.le_of_lt Hbx.out) (.slice (some ⟨g, 0, none⟩) T.ni cap))
    have K8 := Lib.hid (K7.out.far (p := ⟨bx, 5, none⟩) (Nat.ne_of_lt Hbx.out) (.slice (some ⟨g, 0, none⟩) T.ni cap))
    have KX8 : Hid (Blk (w7.setCell ⟨bx, 5, none⟩ (.slice (some ⟨g, 0, none⟩) T.ni cap)) bx 59 #[.int .i64 T.start, .int .i64 T.slots, .int .i64 T.backs, .int .i64 T.grow, .int .i64 T.growBack, .slice (some ⟨g, 0, none⟩) T.ni cap, .slice Ao T.no co, .int .i64 T.last, .slice Ac T.nc cc]) := KX7.out.set_ 5 _
    have HT8 := Lib.hid (HT7.out.below ((Below.refl w.heap.size w7).setCell (p := ⟨bx, 5, none⟩) (Nat.le_of_lt Hbx.out) (.slice (some ⟨g, 0, none⟩) T.ni cap)))
    have Row8 : Hid (RowI (w7.setCell ⟨bx, 5, none⟩ (.slice (some ⟨g, 0, none⟩) T.ni cap)) g cur T.ni T.ins) := ⟨HRow.out.1.far (p := ⟨bx, 5, none⟩) (Nat.ne_of_gt Hg.out) _, HRow.out.2⟩
    clear HB7 K7 KX7 HT7 HRow fz7 q0 q1 q2 q3 q4 q5 q6 q7 q8
    generalize w7.setCell ⟨bx, 5, none⟩ (.slice (some ⟨g, 0, none⟩) T.ni cap) = w8 at *
    generalize bits BinOp.and IntKind.i64 field 3 = fm at *
    have hrange : (k : Int) < (T.ni : Int) := by omega
    have Hhk := Lib.hid hk
    go_cut [] (fun wc => ∃ T' : Tr, Hid (TrAt wc wc.heap.size T' (some ⟨g, 0, none⟩) Ao Ac) ∧ Hid (Blk wc bx 59 (trCells T' (some ⟨g, 0, none⟩) cap Ao co Ac cc)) ∧ Hid (Blk wc w.heap.size 59 (trCells T Ai ci Ao co Ac cc)) ∧ Hid (TrAt wc w.heap.size T Ai Ao Ac) ∧ Hid (Below w.heap.size w wc) ∧ Hid (SameT T' T ↔ v = 0))
    case first =>
      by_cases f0 : fm = 0
      · have g0 : (fm == 0) = true := by simp [f0]
        have r0 : w8.cell? ⟨g, k * 5 + 1, none⟩ = some (.int .i64 (T.ins k).a) := by rw [Row8.out.1.cell]; exact Row8.out.2 k hk 1 (by omega)
        have fz : w8.frozen? ⟨g, k * 5 + 1, none⟩ = false := Row8.out.1.frozen _
        have p5 : w8.cell? ⟨bx, 5, none⟩ = some (.slice (some ⟨g, 0, none⟩) T.ni cap) := KX8.out.cell 5
        go_wp2_with fail
        go_meet
        refine ⟨{ T with ins := fun i => if i = k then { T.ins k with a := wrap64 ((T.ins k).a + v) } else T.ins i }, ?_, KX8.out.far (p := ⟨g, k * 5 + 1, none⟩) (Nat.ne_of_lt Hg.out) _, K8.out.far (p := ⟨g, k * 5 + 1, none⟩) (Nat.ne_of_lt (Nat.lt_trans Hbx.out Hg.out)) _, ?_, HB8.out.setCell (p := ⟨g, k * 5 + 1, none⟩) (Nat.le_of_lt (Nat.lt_trans Hbx.out Hg.out)) _, same_ins hk (by rw [← wrap_same (HRg.out.2 k hk).1 HV.out]; exact ⟨fun h => (congrArg Ins.a h), fun h => ins_ext rfl h rfl rfl rfl⟩)⟩
        · have hB := (Below.refl w.heap.size w8).setCell (p := ⟨g, k * 5 + 1, none⟩) (Nat.le_of_lt (Nat.lt_trans Hbx.out Hg.out)) (.int .i64 (wrap64 ((T.ins k).a + v)))
          have hT := HT8.out.below hB
          have hz := Nat.le_trans HB8.out.size hB.size
          exact ⟨rowI_at (rowI_set (t := 1) Row8.out hk (by omega) (fun i hi => if_neg hi) (by simp [insCells])), hT.outs.up hz, hT.cells.up hz, hT.fewI, hT.fewO, hT.fewC⟩
        · exact HT8.out.below ((Below.refl w.heap.size w8).setCell (p := ⟨g, k * 5 + 1, none⟩) (Nat.le_of_lt (Nat.lt_trans Hbx.out Hg.out)) (.int .i64 (wrap64 ((T.ins k).a + v))))
      have g0 : (fm == 0) = false := by simpa using f0
      by_cases f1 : fm = 1
      · have g1 : (fm == 1) = true := by simp [f1]
        have r1 : w8.cell? ⟨g, k * 5 + 4, none⟩ = some (.int .i64 (T.ins k).x) := by rw [Row8.out.1.cell]; exact Row8.out.2 k hk 4 (by omega)
        have fz : w8.frozen? ⟨g, k * 5 + 4, none⟩ = false := Row8.out.1.frozen _
        have p5 : w8.cell? ⟨bx, 5, none⟩ = some (.slice (some ⟨g, 0, none⟩) T.ni cap) := KX8.out.cell 5
        go_wp2_with fail
        go_meet
        refine ⟨{ T with ins := fun i => if i = k then { T.ins k with x := wrap64 ((T.ins k).x + v) } else T.ins i }, ?_, KX8.out.far (p := ⟨g, k * 5 + 4, none⟩) (Nat.ne_of_lt Hg.out) _, K8.out.far (p := ⟨g, k * 5 + 4, none⟩) (Nat.ne_of_lt (Nat.lt_trans Hbx.out Hg.out)) _, ?_, HB8.out.setCell (p := ⟨g, k * 5 + 4, none⟩) (Nat.le_of_lt (Nat.lt_trans Hbx.out Hg.out)) _, same_ins hk (by rw [← wrap_same (HRg.out.2 k hk).2 HV.out]; exact ⟨fun h => (congrArg Ins.x h), fun h => ins_ext rfl rfl rfl rfl h⟩)⟩
        · have hB := (Below.refl w.heap.size w8).setCell (p := ⟨g, k * 5 + 4, none⟩) (Nat.le_of_lt (Nat.lt_trans Hbx.out Hg.out)) (.int .i64 (wrap64 ((T.ins k).x + v)))
          have hT := HT8.out.below hB
          have hz := Nat.le_trans HB8.out.size hB.size
          exact ⟨rowI_at (rowI_set (t := 4) Row8.out hk (by omega) (fun i hi => if_neg hi) (by simp [insCells])), hT.outs.up hz, hT.cells.up hz, hT.fewI, hT.fewO, hT.fewC⟩
        · exact HT8.out.below ((Below.refl w.heap.size w8).setCell (p := ⟨g, k * 5 + 4, none⟩) (Nat.le_of_lt (Nat.lt_trans Hbx.out Hg.out)) (.int .i64 (wrap64 ((T.ins k).x + v))))
      have g1 : (fm == 1) = false := by simpa using f1
      by_cases f2 : fm = 2
      · have g2 : (fm == 2) = true := by simp [f2]
        have r2 : w8.cell? ⟨bx, 0, none⟩ = some (.int .i64 T.start) := KX8.out.cell 0
        have fz : w8.frozen? ⟨bx, 0, none⟩ = false := KX8.out.frozen _
        go_wp2_with fail
        go_meet
        refine ⟨{ T with start := wrap64 (T.start + v) }, ?_, KX8.out.set_ 0 _, K8.out.far (p := ⟨bx, 0, none⟩) (Nat.ne_of_lt Hbx.out) _, ?_, HB8.out.setCell (p := ⟨bx, 0, none⟩) (Nat.le_of_lt Hbx.out) _, ⟨fun h => (wrap_same HRg.out.1 HV.out).1 h.1, fun h => ⟨(wrap_same HRg.out.1 HV.out).2 h, (same_refl T).2⟩⟩⟩
        · have hB := (Below.refl w.heap.size w8).setCell (p := ⟨bx, 0, none⟩) (Nat.le_of_lt Hbx.out) (.int .i64 (wrap64 (T.start + v)))
          have hT := HT8.out.below hB
          have hz := Nat.le_trans HB8.out.size hB.size
          exact ⟨rowI_at ⟨Row8.out.1.far (p := ⟨bx, 0, none⟩) (Nat.ne_of_gt Hg.out) _, Row8.out.2⟩, hT.outs.up hz, hT.cells.up hz, hT.fewI, hT.fewO, hT.fewC⟩
        · exact HT8.out.below ((Below.refl w.heap.size w8).setCell (p := ⟨bx, 0, none⟩) (Nat.le_of_lt Hbx.out) (.int .i64 (wrap64 (T.start + v))))
      have g2 : (fm == 2) = false := by simpa using f2
      obtain ⟨j0, hj0, hy0, hy1, hy2⟩ := info_parts infoInt
      have p8 : w8.cell? ⟨w.heap.size, 8, none⟩ = some (.slice Ac T.nc cc) := K8.out.cell 8
      have hnc : T.nc ≤ 100 := HLt.out.2.2.1
      go_wp2_with (at_builtin; refine wpList_append_any _ rfl _ _ 57 rfl w8.heap.size 3 j0 (.int .i64 0) 1 8 Tryd.underlying57 hj0 hy0 hy1 hy2 rfl (by decide) _ 0 [] rfl ⟨rfl, .inl ⟨rfl, rfl⟩⟩ w.heap.size Ac T.nc cc (intsV T.cells T.nc) rfl (intsV_reads HT8.out.cells) (intsV_one _ _) (by unfold maxLen; omega) (by omega) (Nat.le_refl _) ?_)
      intro v1 w9 ho9 hg9 _
      have hb9 : Below w8.heap.size w8 w9 := (Below.refl _ _).grown hg9 (Nat.le_refl _) (fun q hq => by simp [Value.ownBlock] at hq)
      have hs9 := hb9.size
      have o9 := own_int ho9 ((Below.refl _ _).alloc (Nat.le_refl _) (.cells #[.int .i64 5] 3))
      go_wp2_with (at_builtin; refine wpList_append_any _ rfl _ _ 57 rfl w8.heap.size 3 j0 (.int .i64 0) 1 8 Tryd.underlying57 hj0 hy0 hy1 hy2 rfl (by decide) _ T.nc (intsV T.cells T.nc) rfl o9 (w9.heap.size + 1) (some ⟨w9.heap.size, 0, none⟩) 1 1 [.int .i64 5] rfl (reads_int w9 5) (by intro u hu; simp at hu; subst hu; rfl) (by unfold maxLen; omega) (by omega) (by simp; omega) ?_)
      intro v2 w10 ho10 hg10 _
      have hb10 : Below w8.heap.size w8 w10 := (hb9.alloc hs9 (.cells #[.int .i64 5] 3)).grown hg10 (by simp; omega) (fun q hq => own_ge' o9 hq)
      obtain ⟨g2, cap2, rfl, hg2, hi2⟩ := ints_of ho10
      have hsz := hb10.size
      have hbx8 : bx < w8.heap.size := KX8.out.lt
      have hne2 : bx ≠ g2 := by omega
      have KX10 := Lib.hid (KX8.out.below hb10 KX8.out.lt)
      have K10 := Lib.hid (K8.out.below hb10 K8.out.lt)
      have HB10 := Lib.hid (HB8.out.trans (hb10.mono HB8.out.size))
      have HT10 := Lib.hid (HT8.out.below (hb10.mono HB8.out.size))
      have Row10 : Hid (RowI w10 g cur T.ni T.ins) := ⟨Row8.out.1.below hb10 Row8.out.1.lt, Row8.out.2⟩
      have HI2 := Lib.hid hi2
      have Hne2 := Lib.hid hne2
      have z8 : w10.frozen? ⟨bx, 8, none⟩ = false := KX10.out.frozen 8
      have q8 : w10.cell? ⟨bx, 8, none⟩ = some (.slice Ac T.nc cc) := by have := KX10.out.cell 8; exact this
      clear ho9 hg9 hb9 hs9 o9 ho10 hg10 hb10 hi2 hne2 hsz hg2 p8 hbx8
      go_upto_region 8 with fail
      have HB11 := Lib.hid (HB10.out.setCell (p := ⟨bx, 8, none⟩) (Nat.le_of_lt Hbx.out) (.slice (some ⟨g2, 0, none⟩) (T.nc + 1) cap2))
      have hbs := (Below.refl w.heap.size w10).setCell (p := ⟨bx, 8, none⟩) (Nat.le_of_lt Hbx.out) (.slice (some ⟨g2, 0, none⟩) (T.nc + 1) cap2)
      have K11 := Lib.hid (K10.out.far (p := ⟨bx, 8, none⟩) (Nat.ne_of_lt Hbx.out) (.slice (some ⟨g2, 0, none⟩) (T.nc + 1) cap2))
      have KX11 : Hid (Blk (w10.setCell ⟨bx, 8, none⟩ (.slice (some ⟨g2, 0, none⟩) (T.nc + 1) cap2)) bx 59 #[.int .i64 T.start, .int .i64 T.slots, .int .i64 T.backs, .int .i64 T.grow, .int .i64 T.growBack, .slice (some ⟨g, 0, none⟩) T.ni cap, .slice Ao T.no co, .int .i64 T.last, .slice (some ⟨g2, 0, none⟩) (T.nc + 1) cap2]) := KX10.out.set_ 8 _
      have HT11 := Lib.hid (HT10.out.below hbs)
      have Row11 : Hid (RowI (w10.setCell ⟨bx, 8, none⟩ (.slice (some ⟨g2, 0, none⟩) (T.nc + 1) cap2)) g cur T.ni T.ins) := ⟨Row10.out.1.far (p := ⟨bx, 8, none⟩) (Nat.ne_of_gt Hg.out) _, Row10.out.2⟩
      have HI11 : Hid (IntsAt (w10.setCell ⟨bx, 8, none⟩ (.slice (some ⟨g2, 0, none⟩) (T.nc + 1) cap2)) (w10.setCell ⟨bx, 8, none⟩ (.slice (some ⟨g2, 0, none⟩) (T.nc + 1) cap2)).heap.size (some ⟨g2, 0, none⟩) (T.nc + 1) (fun i => if i < T.nc then T.cells i else 5)) := ints_far HI2.out Hne2.out _
      clear HB10 K10 KX10 HT10 Row10 HI2 z8 q8 hbs
      generalize w10.setCell ⟨bx, 8, none⟩ (.slice (some ⟨g2, 0, none⟩) (T.nc + 1) cap2) = w11 at *
      obtain ⟨T', hT'⟩ : ∃ T' : Tr, T' = { T with nc := T.nc + 1, cells := fun i => if i < T.nc then T.cells i else 5 } := ⟨_, rfl⟩
      have HX11 : Hid (TrAt w11 w11.heap.size T' (some ⟨g, 0, none⟩) Ao (some ⟨g2, 0, none⟩)) := by
        refine Lib.hid ?_
        rw [hT']
        exact ⟨rowI_at Row11.out, HT11.out.outs.up HB11.out.size, HI11.out, HT11.out.fewI, HT11.out.fewO, by show T.nc + 1 ≤ 300000; omega⟩
      have hns : ¬ SameT T' T := by
        intro h
        have h1 := h.2.2.2.2.2.2.2.2.1
        rw [hT'] at h1
        have h2 : T.nc + 1 = T.nc := h1
        omega
      have hcx : trCells T' (some ⟨g, 0, none⟩) cap Ao co (some ⟨g2, 0, none⟩) cap2 = #[.int .i64 T.start, .int .i64 T.slots, .int .i64 T.backs, .int .i64 T.grow, .int .i64 T.growBack, .slice (some ⟨g, 0, none⟩) T.ni cap, .slice Ao T.no co, .int .i64 T.last, .slice (some ⟨g2, 0, none⟩) (T.nc + 1) cap2] := by rw [hT']; rfl
      have hS1 := same_any T' T (some ⟨g, 0, none⟩) Ao (some ⟨g2, 0, none⟩) Ai Ao Ac cap co cap2 ci co cc w11.heap.size w.heap.size false w11 (Nat.le_refl _) HB11.out.size HX11.out HT11.out (by simp [hns])
      rw [hcx] at hS1
      have HS1 := Lib.hid hS1
      clear hS1 hns hT' hcx
      have q0 : w11.cell? ⟨bx, 0, none⟩ = some (.int .i64 T.start) := KX11.out.cell 0
      have q1 : w11.cell? ⟨bx, 1, none⟩ = some (.int .i64 T.slots) := KX11.out.cell 1
      have q2 : w11.cell? ⟨bx, 2, none⟩ = some (.int .i64 T.backs) := KX11.out.cell 2
      have q3 : w11.cell? ⟨bx, 3, none⟩ = some (.int .i64 T.grow) := KX11.out.cell 3
      have q4 : w11.cell? ⟨bx, 4, none⟩ = some (.int .i64 T.growBack) := KX11.out.cell 4
      have q5 : w11.cell? ⟨bx, 5, none⟩ = some (.slice (some ⟨g, 0, none⟩) T.ni cap) := KX11.out.cell 5
      have q6 : w11.cell? ⟨bx, 6, none⟩ = some (.slice Ao T.no co) := KX11.out.cell 6
      have q7 : w11.cell? ⟨bx, 7, none⟩ = some (.int .i64 T.last) := KX11.out.cell 7
      have q8 : w11.cell? ⟨bx, 8, none⟩ = some (.slice (some ⟨g2, 0, none⟩) (T.nc + 1) cap2) := KX11.out.cell 8
      have k0 : w11.cell? ⟨w.heap.size, 0, none⟩ = some (.int .i64 T.start) := K11.out.cell 0
      have k1 : w11.cell? ⟨w.heap.size, 1, none⟩ = some (.int .i64 T.slots) := K11.out.cell 1
      have k2 : w11.cell? ⟨w.heap.size, 2, none⟩ = some (.int .i64 T.backs) := K11.out.cell 2
      have k3 : w11.cell? ⟨w.heap.size, 3, none⟩ = some (.int .i64 T.grow) := K11.out.cell 3
      have k4 : w11.cell? ⟨w.heap.size, 4, none⟩ = some (.int .i64 T.growBack) := K11.out.cell 4
      have k5 : w11.cell? ⟨w.heap.size, 5, none⟩ = some (.slice Ai T.ni ci) := K11.out.cell 5
      have k6 : w11.cell? ⟨w.heap.size, 6, none⟩ = some (.slice Ao T.no co) := K11.out.cell 6
      have k7 : w11.cell? ⟨w.heap.size, 7, none⟩ = some (.int .i64 T.last) := K11.out.cell 7
      have k8 : w11.cell? ⟨w.heap.size, 8, none⟩ = some (.slice Ac T.nc cc) := K11.out.cell 8
      go_wp2_with fail
      refine HS1.out.mono ?_
      rintro e w12 ⟨rfl, hb12⟩
      have HB12 := Lib.hid (HB11.out.trans (hb12.mono HB11.out.size))
      have K12 := Lib.hid (K11.out.below hb12 K11.out.lt)
      have HT12 := Lib.hid (HT11.out.below (hb12.mono HB11.out.size))
      clear hb12 HS1 HB11 K11 KX11 HT11 HX11 HI11 Row11 q0 q1 q2 q3 q4 q5 q6 q7 q8 k0 k1 k2 k3 k4 k5 k6 k7 k8
      have k0 : w12.cell? ⟨w.heap.size, 0, none⟩ = some (.int .i64 T.start) := K12.out.cell 0
      have k1 : w12.cell? ⟨w.heap.size, 1, none⟩ = some (.int .i64 T.slots) := K12.out.cell 1
      have k2 : w12.cell? ⟨w.heap.size, 2, none⟩ = some (.int .i64 T.backs) := K12.out.cell 2
      have k3 : w12.cell? ⟨w.heap.size, 3, none⟩ = some (.int .i64 T.grow) := K12.out.cell 3
      have k4 : w12.cell? ⟨w.heap.size, 4, none⟩ = some (.int .i64 T.growBack) := K12.out.cell 4
      have k5 : w12.cell? ⟨w.heap.size, 5, none⟩ = some (.slice Ai T.ni ci) := K12.out.cell 5
      have k6 : w12.cell? ⟨w.heap.size, 6, none⟩ = some (.slice Ao T.no co) := K12.out.cell 6
      have k7 : w12.cell? ⟨w.heap.size, 7, none⟩ = some (.int .i64 T.last) := K12.out.cell 7
      have k8 : w12.cell? ⟨w.heap.size, 8, none⟩ = some (.slice Ac T.nc cc) := K12.out.cell 8
      have HS2 := Lib.hid (same_any T T Ai Ao Ac Ai Ao Ac ci co cc ci co cc w.heap.size w.heap.size true w12 HB12.out.size HB12.out.size HT12.out HT12.out (by simp [same_refl]))
      go_wp2_with fail
      refine HS2.out.mono ?_
      rintro e w13 ⟨rfl, hb13⟩
      have HB13 := Lib.hid (HB12.out.trans (hb13.mono HB12.out.size))
      clear hb13
      go_wp2_with fail
      go_ret
      exact ⟨rfl, HB13.out⟩
    case rest =>
      obtain ⟨T', HX, KX, KT, HTz, HBz, HSame⟩ := hcut
      clear HB8 K8 KX8 HT8 Row8
      have k0 : wc.cell? ⟨w.heap.size, 0, none⟩ = some (.int .i64 T.start) := KT.out.cell 0
      have k1 : wc.cell? ⟨w.heap.size, 1, none⟩ = some (.int .i64 T.slots) := KT.out.cell 1
      have k2 : wc.cell? ⟨w.heap.size, 2, none⟩ = some (.int .i64 T.backs) := KT.out.cell 2
      have k3 : wc.cell? ⟨w.heap.size, 3, none⟩ = some (.int .i64 T.grow) := KT.out.cell 3
      have k4 : wc.cell? ⟨w.heap.size, 4, none⟩ = some (.int .i64 T.growBack) := KT.out.cell 4
      have k5 : wc.cell? ⟨w.heap.size, 5, none⟩ = some (.slice Ai T.ni ci) := KT.out.cell 5
      have k6 : wc.cell? ⟨w.heap.size, 6, none⟩ = some (.slice Ao T.no co) := KT.out.cell 6
      have k7 : wc.cell? ⟨w.heap.size, 7, none⟩ = some (.int .i64 T.last) := KT.out.cell 7
      have k8 : wc.cell? ⟨w.heap.size, 8, none⟩ = some (.slice Ac T.nc cc) := KT.out.cell 8
      have q0 : wc.cell? ⟨bx, 0, none⟩ = some (.int .i64 T'.start) := KX.out.cell 0
      have q1 : wc.cell? ⟨bx, 1, none⟩ = some (.int .i64 T'.slots) := KX.out.cell 1
      have q2 : wc.cell? ⟨bx, 2, none⟩ = some (.int .i64 T'.backs) := KX.out.cell 2
      have q3 : wc.cell? ⟨bx, 3, none⟩ = some (.int .i64 T'.grow) := KX.out.cell 3
      have q4 : wc.cell? ⟨bx, 4, none⟩ = some (.int .i64 T'.growBack) := KX.out.cell 4
      have q5 : wc.cell? ⟨bx, 5, none⟩ = some (.slice (some ⟨g, 0, none⟩) T'.ni cap) := KX.out.cell 5
      have q6 : wc.cell? ⟨bx, 6, none⟩ = some (.slice Ao T'.no co) := KX.out.cell 6
      have q7 : wc.cell? ⟨bx, 7, none⟩ = some (.int .i64 T'.last) := KX.out.cell 7
      have q8 : wc.cell? ⟨bx, 8, none⟩ = some (.slice Ac T'.nc cc) := KX.out.cell 8
      obtain ⟨b1, hb1⟩ := bool_of2 (P := SameT T' T)
      have Hb1 := Lib.hid hb1
      have hvb : (v == 0) = b1 := by
        have h1 : (v == 0) = true ↔ v = 0 := by simp
        exact bool_is2 (h1.trans HSame.out.symm) hb1
      have HS1 := Lib.hid (same_any T' T (some ⟨g, 0, none⟩) Ao Ac Ai Ao Ac cap co cc ci co cc wc.heap.size w.heap.size b1 wc (Nat.le_refl _) HBz.out.size HX.out HTz.out hb1)
      clear hb1 hn0 hn1 hn2 hrange
      go_wp2_with fail
      refine HS1.out.mono ?_
      rintro e w10 ⟨rfl, hb10⟩
      have HB10 := Lib.hid (HBz.out.trans (hb10.mono HBz.out.size))
      have KX10 := Lib.hid (KX.out.below hb10 KX.out.lt)
      have HX10 := Lib.hid (HX.out.below hb10)
      have hz10 := hb10.size
      clear hb10 HS1 HTz KT KX HX HBz k0 k1 k2 k3 k4 k5 k6 k7 k8 q0 q1 q2 q3 q4 q5 q6 q7 q8
      have HS2 := Lib.hid (same_any T' T' (some ⟨g, 0, none⟩) Ao Ac (some ⟨g, 0, none⟩) Ao Ac cap co cc cap co cc wc.heap.size wc.heap.size true w10 hz10 hz10 HX10.out HX10.out (by simp [same_refl]))
      clear hz10 HX10
      cases b1 with
      | false =>
        have q0 : w10.cell? ⟨bx, 0, none⟩ = some (.int .i64 T'.start) := KX10.out.cell 0
        have q1 : w10.cell? ⟨bx, 1, none⟩ = some (.int .i64 T'.slots) := KX10.out.cell 1
        have q2 : w10.cell? ⟨bx, 2, none⟩ = some (.int .i64 T'.backs) := KX10.out.cell 2
        have q3 : w10.cell? ⟨bx, 3, none⟩ = some (.int .i64 T'.grow) := KX10.out.cell 3
        have q4 : w10.cell? ⟨bx, 4, none⟩ = some (.int .i64 T'.growBack) := KX10.out.cell 4
        have q5 : w10.cell? ⟨bx, 5, none⟩ = some (.slice (some ⟨g, 0, none⟩) T'.ni cap) := KX10.out.cell 5
        have q6 : w10.cell? ⟨bx, 6, none⟩ = some (.slice Ao T'.no co) := KX10.out.cell 6
        have q7 : w10.cell? ⟨bx, 7, none⟩ = some (.int .i64 T'.last) := KX10.out.cell 7
        have q8 : w10.cell? ⟨bx, 8, none⟩ = some (.slice Ac T'.nc cc) := KX10.out.cell 8
        go_wp2_with fail
        refine HS2.out.mono ?_
        rintro e w11 ⟨rfl, hb11⟩
        have HB11 := Lib.hid (HB10.out.trans (hb11.mono HB10.out.size))
        clear hb11
        go_wp2_with fail
        go_ret
        exact ⟨rfl, HB11.out⟩
      | true =>
        have q0 : w10.cell? ⟨bx, 0, none⟩ = some (.int .i64 T'.start) := KX10.out.cell 0
        have q1 : w10.cell? ⟨bx, 1, none⟩ = some (.int .i64 T'.slots) := KX10.out.cell 1
        have q2 : w10.cell? ⟨bx, 2, none⟩ = some (.int .i64 T'.backs) := KX10.out.cell 2
        have q3 : w10.cell? ⟨bx, 3, none⟩ = some (.int .i64 T'.grow) := KX10.out.cell 3
        have q4 : w10.cell? ⟨bx, 4, none⟩ = some (.int .i64 T'.growBack) := KX10.out.cell 4
        have q5 : w10.cell? ⟨bx, 5, none⟩ = some (.slice (some ⟨g, 0, none⟩) T'.ni cap) := KX10.out.cell 5
        have q6 : w10.cell? ⟨bx, 6, none⟩ = some (.slice Ao T'.no co) := KX10.out.cell 6
        have q7 : w10.cell? ⟨bx, 7, none⟩ = some (.int .i64 T'.last) := KX10.out.cell 7
        have q8 : w10.cell? ⟨bx, 8, none⟩ = some (.slice Ac T'.nc cc) := KX10.out.cell 8
        go_wp2_with fail
        refine HS2.out.mono ?_
        rintro e w11 ⟨rfl, hb11⟩
        have HB11 := Lib.hid (HB10.out.trans (hb11.mono HB10.out.size))
        clear hb11
        go_wp2_with fail
        go_ret
        exact ⟨rfl, HB11.out⟩
end Go.Proofs.YtcfkhbkhejaegaaDoor.Ir
