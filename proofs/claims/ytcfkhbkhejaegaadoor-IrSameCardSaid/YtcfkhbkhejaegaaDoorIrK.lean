/-
  Chapter 14 (ir): a trace of which one number is another one.
-/
import Derived.Test.YtcfkhbkhejaegaaDoorIrH
import Derived.Test.YtcfkhbkhejaegaaDoorIrI
import Derived.Test.YtcfkhbkhejaegaaDoorIrJ
set_option linter.unusedVariables false
set_option linter.unusedSimpArgs false
set_option linter.unnecessarySimpa false
set_option linter.deprecated false
namespace Go.Proofs.YtcfkhbkhejaegaaDoor.Ir
open Go.RowKit

theorem rem_k (a n : Int) (h0 : 0 < n) (h : n ≤ 120) : ∃ k : Nat, (wrap64 (a.tmod n + n)).tmod n = (k : Int) ∧ (k : Int) < n := by
  have h1 := Int.tmod_lt_of_pos a h0
  have h2 := Int.lt_tmod_of_pos a h0
  have h3 : wrap64 (a.tmod n + n) = a.tmod n + n := by
    generalize a.tmod n = r at *
    unfold wrap64
    omega
  rw [h3]
  have h4 := Int.tmod_nonneg n (show 0 ≤ a.tmod n + n by omega)
  have h5 := Int.tmod_lt_of_pos (a.tmod n + n) h0
  exact ⟨((a.tmod n + n).tmod n).toNat, by omega, by omega⟩
def insV (f : Nat → Ins) : Nat → List Value
  | 0 => []
  | n + 1 => insV f n ++ (insCells (f n)).toList
theorem insV_len (f : Nat → Ins) : ∀ n, (insV f n).length = n * 5
  | 0 => rfl
  | n + 1 => by
    unfold insV
    rw [List.length_append, insV_len f n]
    show n * 5 + 5 = _
    omega
theorem insV_get (f : Nat → Ins) : ∀ n i t, i < n → t < 5 → (insV f n)[i * 5 + t]? = (insCells (f i)).toList[t]?
  | 0, i, t, h, _ => by omega
  | n + 1, i, t, h, ht => by
    unfold insV
    by_cases hi : i = n
    · subst hi
      rw [List.getElem?_append_right (by rw [insV_len]; omega), insV_len]
      congr 1
      omega
    · rw [List.getElem?_append_left (by rw [insV_len]; omega)]
      exact insV_get f n i t (by omega) ht
theorem insV_one (f : Nat → Ins) : ∀ n, ∀ u ∈ insV f n, u.oneCell' = true
  | 0 => fun u hu => by cases hu
  | n + 1 => fun u hu => by
    unfold insV at hu
    rcases List.mem_append.1 hu with hu | hu
    · exact insV_one f n u hu
    · simp [insCells] at hu
      rcases hu with rfl | rfl | rfl | rfl | rfl <;> rfl
theorem insV_reads {W : World} {B n : Nat} {A : Option Addr} {f : Nat → Ins} (h : InsAt W B A n f) : Reads W B 5 A n (insV f n) := by
  refine ⟨insV_len f n, fun hn => ?_⟩
  obtain ⟨b, off, rfl, hb, hc⟩ := h.resolve_left (by omega)
  refine ⟨_, rfl, hb, fun j u hu => ?_⟩
  have hj : j < n * 5 := by rw [← insV_len f n]; exact (List.getElem?_eq_some_iff.1 hu).1
  obtain ⟨x0, x1, x2, x3, x4⟩ := hc (j / 5) (by omega)
  rw [WideShapes.add_plain]
  have hd : j = j / 5 * 5 + j % 5 := by omega
  have ht : j % 5 < 5 := by omega
  rw [hd, insV_get f n (j / 5) (j % 5) (by omega) ht] at hu
  rw [hd]
  generalize j / 5 = q at *
  generalize j % 5 = t at *
  obtain rfl | rfl | rfl | rfl | rfl : t = 0 ∨ t = 1 ∨ t = 2 ∨ t = 3 ∨ t = 4 := by omega
  · simp [insCells] at hu; subst hu; exact x0
  · simp [insCells] at hu; subst hu; rw [← Nat.add_assoc]; exact x1
  · simp [insCells] at hu; subst hu; rw [← Nat.add_assoc]; exact x2
  · simp [insCells] at hu; subst hu; rw [← Nat.add_assoc]; exact x3
  · simp [insCells] at hu; subst hu; rw [← Nat.add_assoc]; exact x4
theorem infoIns : (Tryd.prog.info? 62).map (fun i => (i.zero, i.size, i.bytes)) = some (some (.agg #[.int .i64 0, .int .i64 0, .int .i64 0, .int .i64 0, .int .i64 0]), 5, 40) := by kernel_rfl
/-- Instructions in a row of its own. -/
def RowI (W : World) (g : Nat) (cur : Array Value) (n : Nat) (f : Nat → Ins) : Prop := Blk W g 62 cur ∧ ∀ i, i < n → ∀ t, t < 5 → cur[i * 5 + t]? = (insCells (f i)).toList[t]?
theorem rowI_at {W : World} {g n : Nat} {cur : Array Value} {f : Nat → Ins} (h : RowI W g cur n f) : InsAt W W.heap.size (some ⟨g, 0, none⟩) n f := by
  refine .inr ⟨g, 0, rfl, h.1.lt, fun i hi => ?_⟩
  have hc : ∀ t, t < 5 → W.cell? ⟨g, 0 + (i * 5 + t), none⟩ = (insCells (f i)).toList[t]? := fun t ht => by rw [Nat.zero_add, h.1.cell]; exact h.2 i hi t ht
  exact ⟨hc 0 (by omega), hc 1 (by omega), hc 2 (by omega), hc 3 (by omega), hc 4 (by omega)⟩
theorem rowI_of {W : World} {base n : Nat} {v : Value} {f : Nat → Ins} (hn : n ≠ 0) (h : W.ownsRow base 62 5 v n (insV f n)) : ∃ g cap cur, v = .slice (some ⟨g, 0, none⟩) n cap ∧ base ≤ g ∧ RowI W g cur n f ∧ n ≤ cap := by
  rcases h.2 with ⟨_, h0⟩ | ⟨g, cap, cur, rfl, hg, hh, hcap, _, hsz, htk⟩
  · omega
  · refine ⟨g, cap, cur, rfl, hg, ⟨hh, fun i hi t ht => ?_⟩, hcap⟩
    rw [← insV_get f n i t hi ht, ← htk, List.getElem?_take]
    rw [if_pos (by omega)]
    simp

def upI (f : Nat → Ins) (k : Nat) (I : Ins) : Nat → Ins := fun i => if i = k then I else f i
theorem insAt_mono {W : World} {B B' n : Nat} {A : Option Addr} {f : Nat → Ins} (h : InsAt W B A n f) (hB : B ≤ B') : InsAt W B' A n f := h.imp id fun ⟨b, off, h3, h4, h5⟩ => ⟨b, off, h3, Nat.lt_of_lt_of_le h4 hB, h5⟩
theorem rowI_set {W : World} {g n k t : Nat} {cur : Array Value} {f f' : Nat → Ins} {v : Value} (h : RowI W g cur n f) (hk : k < n) (ht : t < 5) (hf : ∀ i, i ≠ k → f' i = f i) (hv : (insCells (f' k)).toList = (insCells (f k)).toList.set t v) :
    RowI (W.setCell ⟨g, k * 5 + t, none⟩ v) g (cur.setIfInBounds (k * 5 + t) v) n f' := by
  refine ⟨h.1.set_ _ _, fun i hi s hs => ?_⟩
  have h0 := h.2 k hk t ht
  have h1 : (insCells (f k)).toList.length = 5 := rfl
  rw [List.getElem?_eq_getElem (by omega)] at h0
  have hlt : k * 5 + t < cur.size := (Array.getElem?_eq_some_iff.1 h0).1
  rw [Array.getElem?_setIfInBounds]
  by_cases hik : i = k
  · subst hik
    rw [hv, List.getElem?_set]
    by_cases hst : t = s
    · subst hst
      rw [if_pos rfl, if_pos rfl, if_pos hlt, if_pos (by omega)]
    · rw [if_neg (by omega), if_neg hst]
      exact h.2 i hi s hs
  · rw [if_neg (by omega), hf i hik]
    exact h.2 i hi s hs
theorem OutsAt.up {W : World} {B B' n : Nat} {A : Option Addr} {f : Nat → Ou} (h : OutsAt W B A n f) (hB : B ≤ B') : OutsAt W B' A n f := by
  refine h.imp id fun ⟨b, off, h3, h4, h5⟩ => ⟨b, off, h3, Nat.lt_of_lt_of_le h4 hB, fun i hi => ?_⟩
  obtain ⟨v0, v1, v2, v3, x, r⟩ := h5 i hi
  exact ⟨v0, v1, v2, v3, x.up hB, r⟩
theorem and7 (v : Int) : ∃ q : Nat, bits BinOp.and IntKind.i64 v 7 = (q : Int) ∧ q ≤ 7 := by
  have h1 : (BitVec.ofInt 64 v &&& BitVec.ofInt 64 7).toNat ≤ 7 := by
    rw [BitVec.toNat_and]
    exact Nat.and_le_right
  refine ⟨(BitVec.ofInt 64 v &&& BitVec.ofInt 64 7).toNat, ?_, h1⟩
  show IntKind.i64.wrap ((BitVec.ofInt 64 v &&& BitVec.ofInt 64 7).toNat : Int) = _
  generalize (BitVec.ofInt 64 v &&& BitVec.ofInt 64 7).toNat = q at *
  rw [IntKind.wrap_i64]
  omega

set_option maxHeartbeats 8000000 in
set_option maxRecDepth 100000 in
theorem spoilt_any (T : Tr) (Ai Ao Ac : Option Addr) (ci co cc : Nat) (at_ field v : Int) (w : World) (hT : TrBig w w.heap.size T Ai Ao Ac) :
    Calls Tryd.prog 10 #[.agg (trCells T Ai ci Ao co Ac cc), .int .i64 at_, .int .i64 field, .int .i64 v] w fun e w' => e = .returned (.bool true) ∧ Below w.heap.size w w' := by
  have hbel := (Below.refl w.heap.size w).alloc (Nat.le_refl _) (.cells (trCells T Ai ci Ao co Ac cc) 59)
  have kb : Blk (w.alloc (.cells (trCells T Ai ci Ao co Ac cc) 59)) w.heap.size 59 (trCells T Ai ci Ao co Ac cc) := Blk.new _ _ _
  have HBel := Lib.hid hbel
  have HT := Lib.hid (hT.below hbel)
  have KB := Lib.hid kb
  have HL := fun W (hW : Below w.heap.size w W) => light_any T Ai Ao Ac ci co cc w.heap.size W (hT.below hW) hW.size
  have HLh := Lib.hid HL
  have HA := Lib.hid alive_any
  clear hbel hT kb HL
  unfold trCells at *
  go_enter Tryd.func10, Tryd.ntmps10
  go_wp2_with fail
  generalize w.alloc (.cells #[.int .i64 T.start, .int .i64 T.slots, .int .i64 T.backs, .int .i64 T.grow, .int .i64 T.growBack, .slice Ai T.ni ci, .slice Ao T.no co, .int .i64 T.last, .slice Ac T.nc cc] 59) = w1 at *
  have k0 : w1.cell? ⟨w.heap.size, 0, none⟩ = some (.int .i64 T.start) := KB.out.cell 0
  have k1 : w1.cell? ⟨w.heap.size, 1, none⟩ = some (.int .i64 T.slots) := KB.out.cell 1
  have k2 : w1.cell? ⟨w.heap.size, 2, none⟩ = some (.int .i64 T.backs) := KB.out.cell 2
  have k3 : w1.cell? ⟨w.heap.size, 3, none⟩ = some (.int .i64 T.grow) := KB.out.cell 3
  have k4 : w1.cell? ⟨w.heap.size, 4, none⟩ = some (.int .i64 T.growBack) := KB.out.cell 4
  have k5 : w1.cell? ⟨w.heap.size, 5, none⟩ = some (.slice Ai T.ni ci) := KB.out.cell 5
  have k6 : w1.cell? ⟨w.heap.size, 6, none⟩ = some (.slice Ao T.no co) := KB.out.cell 6
  have k7 : w1.cell? ⟨w.heap.size, 7, none⟩ = some (.int .i64 T.last) := KB.out.cell 7
  have k8 : w1.cell? ⟨w.heap.size, 8, none⟩ = some (.slice Ac T.nc cc) := KB.out.cell 8
  go_wp2_with fail
  refine (HLh.out w1 HBel.out).mono ?_
  rintro e w2 ⟨bl, rfl, hl, hb2⟩
  have HB2 := Lib.hid (HBel.out.trans (hb2.mono HBel.out.size))
  have K2 := Lib.hid (KB.out.below hb2 KB.out.lt)
  have HT2 := Lib.hid (HT.out.below (hb2.mono HBel.out.size))
  clear hb2 k0 k1 k2 k3 k4 k5 k6 k7 k8 HT KB HBel HLh
  cases bl with
  | false =>
    clear hl
    go_wp2_with fail
    refine (HA.out w2).mono ?_
    rintro e w3 ⟨rfl, hb3⟩
    go_wp2_with fail
    go_ret
    exact ⟨rfl, HB2.out.trans (hb3.mono HB2.out.size)⟩
  | true =>
  have hl := hl rfl
  have HLt := Lib.hid hl
  have HTt := Lib.hid (HT2.out.light hl)
  clear hl HT2
  have k0 : w2.cell? ⟨w.heap.size, 0, none⟩ = some (.int .i64 T.start) := K2.out.cell 0
  have k1 : w2.cell? ⟨w.heap.size, 1, none⟩ = some (.int .i64 T.slots) := K2.out.cell 1
  have k2 : w2.cell? ⟨w.heap.size, 2, none⟩ = some (.int .i64 T.backs) := K2.out.cell 2
  have k3 : w2.cell? ⟨w.heap.size, 3, none⟩ = some (.int .i64 T.grow) := K2.out.cell 3
  have k4 : w2.cell? ⟨w.heap.size, 4, none⟩ = some (.int .i64 T.growBack) := K2.out.cell 4
  have k5 : w2.cell? ⟨w.heap.size, 5, none⟩ = some (.slice Ai T.ni ci) := K2.out.cell 5
  have k6 : w2.cell? ⟨w.heap.size, 6, none⟩ = some (.slice Ao T.no co) := K2.out.cell 6
  have k7 : w2.cell? ⟨w.heap.size, 7, none⟩ = some (.int .i64 T.last) := K2.out.cell 7
  have k8 : w2.cell? ⟨w.heap.size, 8, none⟩ = some (.slice Ac T.nc cc) := K2.out.cell 8
  by_cases hni : T.ni = 0
  · have hni' : ((T.ni : Int) == 0) = true := by simp [hni]
    have hni'' : (T.ni : Int) = 0 := by omega
    go_wp2_with fail
    refine (HA.out w2).mono ?_
    rintro e w3 ⟨rfl, hb3⟩
    go_wp2_with fail
    go_ret
    exact ⟨rfl, HB2.out.trans (hb3.mono HB2.out.size)⟩
  have hni' : ((T.ni : Int) == 0) = false := by simp [hni]
  have hni'' : ¬ (T.ni : Int) = 0 := by omega
  obtain ⟨br, hbr⟩ := bool_of (P := Right T)
  have HBr := Lib.hid hbr
  have HRR := Lib.hid (rright_any T Ai Ao Ac ci co cc w.heap.size br w2 HTt.out HB2.out.size hbr)
  clear hbr
  go_wp2_with fail
  refine HRR.out.mono ?_
  rintro e w3 ⟨rfl, hb3⟩
  have HB3 := Lib.hid (HB2.out.trans (hb3.mono HB2.out.size))
  have K3 := Lib.hid (K2.out.below hb3 K2.out.lt)
  have HT3 := Lib.hid (HTt.out.below (hb3.mono HB2.out.size))
  clear hb3 k0 k1 k2 k3 k4 k5 k6 k7 k8 HTt K2 HRR HB2
  cases br with
  | false =>
    go_wp2_with fail
    refine (HA.out w3).mono ?_
    rintro e w4 ⟨rfl, hb4⟩
    go_wp2_with fail
    go_ret
    exact ⟨rfl, HB3.out.trans (hb4.mono HB3.out.size)⟩
  | true =>
  have HRT : Hid (Right T) := HBr.out.1 (by trivial)
  clear HBr
  go_wp2_with fail
  refine (HA.out w3).mono ?_
  rintro e w4 ⟨rfl, hb4⟩
  have HB4 := Lib.hid (HB3.out.trans (hb4.mono HB3.out.size))
  have K4 := Lib.hid (K3.out.below hb4 K3.out.lt)
  have HT4 := Lib.hid (HT3.out.below (hb4.mono HB3.out.size))
  clear hb4 HT3 K3 HB3 HA hni' hni''
  have k0 : w4.cell? ⟨w.heap.size, 0, none⟩ = some (.int .i64 T.start) := K4.out.cell 0
  have k1 : w4.cell? ⟨w.heap.size, 1, none⟩ = some (.int .i64 T.slots) := K4.out.cell 1
  have k2 : w4.cell? ⟨w.heap.size, 2, none⟩ = some (.int .i64 T.backs) := K4.out.cell 2
  have k3 : w4.cell? ⟨w.heap.size, 3, none⟩ = some (.int .i64 T.grow) := K4.out.cell 3
  have k4 : w4.cell? ⟨w.heap.size, 4, none⟩ = some (.int .i64 T.growBack) := K4.out.cell 4
  have k5 : w4.cell? ⟨w.heap.size, 5, none⟩ = some (.slice Ai T.ni ci) := K4.out.cell 5
  have k6 : w4.cell? ⟨w.heap.size, 6, none⟩ = some (.slice Ao T.no co) := K4.out.cell 6
  have k7 : w4.cell? ⟨w.heap.size, 7, none⟩ = some (.int .i64 T.last) := K4.out.cell 7
  have k8 : w4.cell? ⟨w.heap.size, 8, none⟩ = some (.slice Ac T.nc cc) := K4.out.cell 8
  have hn0 : (T.ni : Int) ≠ 0 := by omega
  have hn1 : (0 : Int) < (T.ni : Int) := by omega
  have hn2 : (T.ni : Int) ≤ 120 := by have := HLt.out.1; omega
  go_wp2_with fail
  go_upto_region 3 with fail
  go_cut [9] (fun x wc => (∃ k : Nat, x = .int .i64 (k : Int) ∧ k < T.ni) ∧ ∃ m, wc = w4.drewN m)
  case first =>
    go_quiet (fail)
    go_wp2_with fail
    go_meet
    obtain ⟨k, hk1, hk2⟩ := rem_k at_ T.ni hn1 hn2
    exact ⟨⟨k, by rw [hk1], by omega⟩, _, rfl⟩
  case rest =>
    obtain ⟨⟨k, rfl, hk⟩, m, rfl⟩ := hcut
    have HB5 := Lib.hid (below_of_draw HB4.out m)
    have K5 := Lib.hid (K4.out.drewN m)
    have HT5 : Hid (TrAt (w4.drewN m) w.heap.size T Ai Ao Ac) := ⟨HT4.out.ins, HT4.out.outs, HT4.out.cells, HT4.out.fewI, HT4.out.fewO, HT4.out.fewC⟩
    clear HT4 K4 HB4 k0 k1 k2 k3 k4 k5 k6 k7 k8
    generalize w4.drewN m = w5 at *
    have k0 : w5.cell? ⟨w.heap.size, 0, none⟩ = some (.int .i64 T.start) := K5.out.cell 0
    have k1 : w5.cell? ⟨w.heap.size, 1, none⟩ = some (.int .i64 T.slots) := K5.out.cell 1
    have k2 : w5.cell? ⟨w.heap.size, 2, none⟩ = some (.int .i64 T.backs) := K5.out.cell 2
    have k3 : w5.cell? ⟨w.heap.size, 3, none⟩ = some (.int .i64 T.grow) := K5.out.cell 3
    have k4 : w5.cell? ⟨w.heap.size, 4, none⟩ = some (.int .i64 T.growBack) := K5.out.cell 4
    have k5 : w5.cell? ⟨w.heap.size, 5, none⟩ = some (.slice Ai T.ni ci) := K5.out.cell 5
    have k6 : w5.cell? ⟨w.heap.size, 6, none⟩ = some (.slice Ao T.no co) := K5.out.cell 6
    have k7 : w5.cell? ⟨w.heap.size, 7, none⟩ = some (.int .i64 T.last) := K5.out.cell 7
    have k8 : w5.cell? ⟨w.heap.size, 8, none⟩ = some (.slice Ac T.nc cc) := K5.out.cell 8
    obtain ⟨i0, hi0, hz0, hz1, hz2⟩ := info_parts infoIns
    go_upto_region 5 with fail
    have kx : Blk (w5.alloc (.cells #[.int .i64 T.start, .int .i64 T.slots, .int .i64 T.backs, .int .i64 T.grow, .int .i64 T.growBack, .slice Ai T.ni ci, .slice Ao T.no co, .int .i64 T.last, .slice Ac T.nc cc] 59)) w5.heap.size 59 #[.int .i64 T.start, .int .i64 T.slots, .int .i64 T.backs, .int .i64 T.grow, .int .i64 T.growBack, .slice Ai T.ni ci, .slice Ao T.no co, .int .i64 T.last, .slice Ac T.nc cc] := Blk.new _ _ _
    have hx : Below w5.heap.size w5 (w5.alloc (.cells #[.int .i64 T.start, .int .i64 T.slots, .int .i64 T.backs, .int .i64 T.grow, .int .i64 T.growBack, .slice Ai T.ni ci, .slice Ao T.no co, .int .i64 T.last, .slice Ac T.nc cc] 59)) := (Below.refl _ _).alloc (Nat.le_refl _) _
    have HB6 := Lib.hid (HB5.out.trans (hx.mono HB5.out.size))
    have K6 := Lib.hid (K5.out.below hx K5.out.lt)
    have KX6 := Lib.hid kx
    have HT6 := Lib.hid (HT5.out.below (hx.mono HB5.out.size))
    have Hbx := Lib.hid K5.out.lt
    clear kx hx HT5 K5 HB5 k0 k1 k2 k3 k4 k5 k6 k7 k8
    generalize w5.alloc (.cells #[.int .i64 T.start, .int .i64 T.slots, .int .i64 T.backs, .int .i64 T.grow, .int .i64 T.growBack, .slice Ai T.ni ci, .slice Ao T.no co, .int .i64 T.last, .slice Ac T.nc cc] 59) = w6 at *
    generalize w5.heap.size = bx at *
    have k0 : w6.cell? ⟨w.heap.size, 0, none⟩ = some (.int .i64 T.start) := K6.out.cell 0
    have k1 : w6.cell? ⟨w.heap.size, 1, none⟩ = some (.int .i64 T.slots) := K6.out.cell 1
    have k2 : w6.cell? ⟨w.heap.size, 2, none⟩ = some (.int .i64 T.backs) := K6.out.cell 2
    have k3 : w6.cell? ⟨w.heap.size, 3, none⟩ = some (.int .i64 T.grow) := K6.out.cell 3
    have k4 : w6.cell? ⟨w.heap.size, 4, none⟩ = some (.int .i64 T.growBack) := K6.out.cell 4
    have k5 : w6.cell? ⟨w.heap.size, 5, none⟩ = some (.slice Ai T.ni ci) := K6.out.cell 5
    have k6 : w6.cell? ⟨w.heap.size, 6, none⟩ = some (.slice Ao T.no co) := K6.out.cell 6
    have k7 : w6.cell? ⟨w.heap.size, 7, none⟩ = some (.int .i64 T.last) := K6.out.cell 7
    have k8 : w6.cell? ⟨w.heap.size, 8, none⟩ = some (.slice Ac T.nc cc) := K6.out.cell 8
    have hn9 : T.ni ≤ 120 := HLt.out.1
    go_wp2_with (at_builtin; refine wpList_append_any _ rfl _ _ 55 rfl w6.heap.size 62 i0 (.agg #[.int .i64 0, .int .i64 0, .int .i64 0, .int .i64 0, .int .i64 0]) 5 40 Tryd.underlying55 hi0 hz0 hz1 hz2 rfl (by decide) _ 0 [] rfl ⟨rfl, .inl ⟨rfl, rfl⟩⟩ w.heap.size Ai T.ni ci (insV T.ins T.ni) rfl (insV_reads HT6.out.ins) (insV_one _ _) (by unfold maxLen; omega) (by omega) (Nat.le_refl _) ?_)
    intro v' w7 ho7 hg7 _
    obtain ⟨g, cap, cur, rfl, hg, hrow, hcap⟩ := rowI_of hni ho7
    have HB7 : Hid (Below w.heap.size w w7) := HB6.out.grown hg7 HB6.out.size (fun q hq => by simp [Value.ownBlock] at hq)
    have K7 := Lib.hid (K6.out.grown hg7 (by simp [Value.ownBlock]))
    have KX7 := Lib.hid (KX6.out.grown hg7 (by simp [Value.ownBlock]))
    have HT7 : Hid (TrAt w7 w.heap.size T Ai Ao Ac) := HT6.out.below (HB6.out.size |> fun hs => (show Below w.heap.size w6 w7 from (Below.refl w.heap.size w6).grown hg7 hs (fun q hq => by simp [Value.ownBlock] at hq)))
    have HRow := Lib.hid hrow
    have Hg := Lib.hid (Nat.lt_of_lt_of_le KX6.out.lt hg)
    clear hrow hg hg7 ho7 hn9 HT6 KX6 K6 HB6 k0 k1 k2 k3 k4 k5 k6 k7 k8
    have q0 : w7.cell? ⟨bx, 0, none⟩ = some (.int .i64 T.start) := KX7.out.cell 0
    have q1 : w7.cell? ⟨bx, 1, none⟩ = some (.int .i64 T.slots) := KX7.out.cell 1
    have q2 : w7.cell? ⟨bx, 2, none⟩ = some (.int .i64 T.backs) := KX7.out.cell 2
    have q3 : w7.cell? ⟨bx, 3, none⟩ = some (.int .i64 T.grow) := KX7.out.cell 3
    have q4 : w7.cell? ⟨bx, 4, none⟩ = some (.int .i64 T.growBack) := KX7.out.cell 4
    have q5 : w7.cell? ⟨bx, 5, none⟩ = some (.slice Ai T.ni ci) := KX7.out.cell 5
    have q6 : w7.cell? ⟨bx, 6, none⟩ = some (.slice Ao T.no co) := KX7.out.cell 6
    have q7 : w7.cell? ⟨bx, 7, none⟩ = some (.int .i64 T.last) := KX7.out.cell 7
    have q8 : w7.cell? ⟨bx, 8, none⟩ = some (.slice Ac T.nc cc) := KX7.out.cell 8
    have fz7 : w7.frozen? ⟨bx, 5, none⟩ = false := KX7.out.frozen 5
    go_upto_block 0 with fail
    have HB8 := Lib.hid (HB7.out.setCell (p := ⟨bx, 5, none⟩) (Nat.le_of_lt Hbx.out) (.slice (some ⟨g, 0, none⟩) T.ni cap))
    have K8 := Lib.hid (K7.out.far (p := ⟨bx, 5, none⟩) (Nat.ne_of_lt Hbx.out) (.slice (some ⟨g, 0, none⟩) T.ni cap))
    have KX8 : Hid (Blk (w7.setCell ⟨bx, 5, none⟩ (.slice (some ⟨g, 0, none⟩) T.ni cap)) bx 59 #[.int .i64 T.start, .int .i64 T.slots, .int .i64 T.backs, .int .i64 T.grow, .int .i64 T.growBack, .slice (some ⟨g, 0, none⟩) T.ni cap, .slice Ao T.no co, .int .i64 T.last, .slice Ac T.nc cc]) := KX7.out.set_ 5 _
    have HT8 := Lib.hid (HT7.out.below ((Below.refl w.heap.size w7).setCell (p := ⟨bx, 5, none⟩) (Nat.le_of_lt Hbx.out) (.slice (some ⟨g, 0, none⟩) T.ni cap)))
    have Row8 : Hid (RowI (w7.setCell ⟨bx, 5, none⟩ (.slice (some ⟨g, 0, none⟩) T.ni cap)) g cur T.ni T.ins) := ⟨HRow.out.1.far (p := ⟨bx, 5, none⟩) (Nat.ne_of_gt Hg.out) _, HRow.out.2⟩
    clear HB7 K7 KX7 HT7 HRow fz7 q0 q1 q2 q3 q4 q5 q6 q7 q8
    generalize w7.setCell ⟨bx, 5, none⟩ (.slice (some ⟨g, 0, none⟩) T.ni cap) = w8 at *
    generalize bits BinOp.and IntKind.i64 field 7 = fm at *
    have hbt : ∃ q : Nat, bits BinOp.and IntKind.i64 v 7 = (q : Int) ∧ q ≤ 7 := and7 v
    have Hbt := Lib.hid hbt
    have hrange : (k : Int) < (T.ni : Int) := by omega
    clear hbt
    go_cut [] (fun wc => ∃ T' : Tr, Hid (TrAt wc wc.heap.size T' (some ⟨g, 0, none⟩) Ao Ac) ∧ Hid (Blk wc bx 59 (trCells T' (some ⟨g, 0, none⟩) cap Ao co Ac cc)) ∧ Hid (Blk wc w.heap.size 59 (trCells T Ai ci Ao co Ac cc)) ∧ Hid (TrAt wc w.heap.size T Ai Ao Ac) ∧ Hid (Below w.heap.size w wc))
    case first =>
      by_cases f0 : fm = 0
      · have g0 : (fm == 0) = true := by simp [f0]
        have r0 : w8.cell? ⟨g, k * 5, none⟩ = some (.int .i64 (T.ins k).op) := by rw [Row8.out.1.cell]; exact Row8.out.2 k hk 0 (by omega)
        have fz : w8.frozen? ⟨g, k * 5, none⟩ = false := Row8.out.1.frozen _
        have p5 : w8.cell? ⟨bx, 5, none⟩ = some (.slice (some ⟨g, 0, none⟩) T.ni cap) := KX8.out.cell 5
        go_wp2_with fail
        go_meet
        refine ⟨{ T with ins := fun i => if i = k then { T.ins k with op := v } else T.ins i }, ?_, KX8.out.far (p := ⟨g, k * 5, none⟩) (Nat.ne_of_lt Hg.out) _, K8.out.far (p := ⟨g, k * 5, none⟩) (Nat.ne_of_lt (Nat.lt_trans Hbx.out Hg.out)) _, ?_, HB8.out.setCell (p := ⟨g, k * 5, none⟩) (Nat.le_of_lt (Nat.lt_trans Hbx.out Hg.out)) _⟩
        · have hB := (Below.refl w.heap.size w8).setCell (p := ⟨g, k * 5, none⟩) (Nat.le_of_lt (Nat.lt_trans Hbx.out Hg.out)) (.int .i64 v)
          have hT := HT8.out.below hB
          have hz := Nat.le_trans HB8.out.size hB.size
          exact ⟨rowI_at (rowI_set (t := 0) Row8.out hk (by omega) (fun i hi => if_neg hi) (by simp [insCells])), hT.outs.up hz, hT.cells.up hz, hT.fewI, hT.fewO, hT.fewC⟩
        · exact HT8.out.below ((Below.refl w.heap.size w8).setCell (p := ⟨g, k * 5, none⟩) (Nat.le_of_lt (Nat.lt_trans Hbx.out Hg.out)) (.int .i64 v))
      have g0 : (fm == 0) = false := by simpa using f0
      by_cases f1 : fm = 1
      · have g1 : (fm == 1) = true := by simp [f1]
        have r1 : w8.cell? ⟨g, k * 5 + 1, none⟩ = some (.int .i64 (T.ins k).a) := by rw [Row8.out.1.cell]; exact Row8.out.2 k hk 1 (by omega)
        have fz : w8.frozen? ⟨g, k * 5 + 1, none⟩ = false := Row8.out.1.frozen _
        have p5 : w8.cell? ⟨bx, 5, none⟩ = some (.slice (some ⟨g, 0, none⟩) T.ni cap) := KX8.out.cell 5
        go_wp2_with fail
        go_meet
        refine ⟨{ T with ins := fun i => if i = k then { T.ins k with a := v } else T.ins i }, ?_, KX8.out.far (p := ⟨g, k * 5 + 1, none⟩) (Nat.ne_of_lt Hg.out) _, K8.out.far (p := ⟨g, k * 5 + 1, none⟩) (Nat.ne_of_lt (Nat.lt_trans Hbx.out Hg.out)) _, ?_, HB8.out.setCell (p := ⟨g, k * 5 + 1, none⟩) (Nat.le_of_lt (Nat.lt_trans Hbx.out Hg.out)) _⟩
        · have hB := (Below.refl w.heap.size w8).setCell (p := ⟨g, k * 5 + 1, none⟩) (Nat.le_of_lt (Nat.lt_trans Hbx.out Hg.out)) (.int .i64 v)
          have hT := HT8.out.below hB
          have hz := Nat.le_trans HB8.out.size hB.size
          exact ⟨rowI_at (rowI_set (t := 1) Row8.out hk (by omega) (fun i hi => if_neg hi) (by simp [insCells])), hT.outs.up hz, hT.cells.up hz, hT.fewI, hT.fewO, hT.fewC⟩
        · exact HT8.out.below ((Below.refl w.heap.size w8).setCell (p := ⟨g, k * 5 + 1, none⟩) (Nat.le_of_lt (Nat.lt_trans Hbx.out Hg.out)) (.int .i64 v))
      have g1 : (fm == 1) = false := by simpa using f1
      by_cases f2 : fm = 2
      · have g2 : (fm == 2) = true := by simp [f2]
        have r2 : w8.cell? ⟨g, k * 5 + 2, none⟩ = some (.int .i64 (T.ins k).b) := by rw [Row8.out.1.cell]; exact Row8.out.2 k hk 2 (by omega)
        have fz : w8.frozen? ⟨g, k * 5 + 2, none⟩ = false := Row8.out.1.frozen _
        have p5 : w8.cell? ⟨bx, 5, none⟩ = some (.slice (some ⟨g, 0, none⟩) T.ni cap) := KX8.out.cell 5
        go_wp2_with fail
        go_meet
        refine ⟨{ T with ins := fun i => if i = k then { T.ins k with b := v } else T.ins i }, ?_, KX8.out.far (p := ⟨g, k * 5 + 2, none⟩) (Nat.ne_of_lt Hg.out) _, K8.out.far (p := ⟨g, k * 5 + 2, none⟩) (Nat.ne_of_lt (Nat.lt_trans Hbx.out Hg.out)) _, ?_, HB8.out.setCell (p := ⟨g, k * 5 + 2, none⟩) (Nat.le_of_lt (Nat.lt_trans Hbx.out Hg.out)) _⟩
        · have hB := (Below.refl w.heap.size w8).setCell (p := ⟨g, k * 5 + 2, none⟩) (Nat.le_of_lt (Nat.lt_trans Hbx.out Hg.out)) (.int .i64 v)
          have hT := HT8.out.below hB
          have hz := Nat.le_trans HB8.out.size hB.size
          exact ⟨rowI_at (rowI_set (t := 2) Row8.out hk (by omega) (fun i hi => if_neg hi) (by simp [insCells])), hT.outs.up hz, hT.cells.up hz, hT.fewI, hT.fewO, hT.fewC⟩
        · exact HT8.out.below ((Below.refl w.heap.size w8).setCell (p := ⟨g, k * 5 + 2, none⟩) (Nat.le_of_lt (Nat.lt_trans Hbx.out Hg.out)) (.int .i64 v))
      have g2 : (fm == 2) = false := by simpa using f2
      by_cases f3 : fm = 3
      · have g3 : (fm == 3) = true := by simp [f3]
        have r3 : w8.cell? ⟨g, k * 5 + 3, none⟩ = some (.int .i64 (T.ins k).c) := by rw [Row8.out.1.cell]; exact Row8.out.2 k hk 3 (by omega)
        have fz : w8.frozen? ⟨g, k * 5 + 3, none⟩ = false := Row8.out.1.frozen _
        have p5 : w8.cell? ⟨bx, 5, none⟩ = some (.slice (some ⟨g, 0, none⟩) T.ni cap) := KX8.out.cell 5
        go_wp2_with fail
        go_meet
        refine ⟨{ T with ins := fun i => if i = k then { T.ins k with c := v } else T.ins i }, ?_, KX8.out.far (p := ⟨g, k * 5 + 3, none⟩) (Nat.ne_of_lt Hg.out) _, K8.out.far (p := ⟨g, k * 5 + 3, none⟩) (Nat.ne_of_lt (Nat.lt_trans Hbx.out Hg.out)) _, ?_, HB8.out.setCell (p := ⟨g, k * 5 + 3, none⟩) (Nat.le_of_lt (Nat.lt_trans Hbx.out Hg.out)) _⟩
        · have hB := (Below.refl w.heap.size w8).setCell (p := ⟨g, k * 5 + 3, none⟩) (Nat.le_of_lt (Nat.lt_trans Hbx.out Hg.out)) (.int .i64 v)
          have hT := HT8.out.below hB
          have hz := Nat.le_trans HB8.out.size hB.size
          exact ⟨rowI_at (rowI_set (t := 3) Row8.out hk (by omega) (fun i hi => if_neg hi) (by simp [insCells])), hT.outs.up hz, hT.cells.up hz, hT.fewI, hT.fewO, hT.fewC⟩
        · exact HT8.out.below ((Below.refl w.heap.size w8).setCell (p := ⟨g, k * 5 + 3, none⟩) (Nat.le_of_lt (Nat.lt_trans Hbx.out Hg.out)) (.int .i64 v))
      have g3 : (fm == 3) = false := by simpa using f3
      by_cases f4 : fm = 4
      · have g4 : (fm == 4) = true := by simp [f4]
        have r4 : w8.cell? ⟨g, k * 5 + 4, none⟩ = some (.int .i64 (T.ins k).x) := by rw [Row8.out.1.cell]; exact Row8.out.2 k hk 4 (by omega)
        have fz : w8.frozen? ⟨g, k * 5 + 4, none⟩ = false := Row8.out.1.frozen _
        have p5 : w8.cell? ⟨bx, 5, none⟩ = some (.slice (some ⟨g, 0, none⟩) T.ni cap) := KX8.out.cell 5
        go_wp2_with fail
        go_meet
        refine ⟨{ T with ins := fun i => if i = k then { T.ins k with x := v } else T.ins i }, ?_, KX8.out.far (p := ⟨g, k * 5 + 4, none⟩) (Nat.ne_of_lt Hg.out) _, K8.out.far (p := ⟨g, k * 5 + 4, none⟩) (Nat.ne_of_lt (Nat.lt_trans Hbx.out Hg.out)) _, ?_, HB8.out.setCell (p := ⟨g, k * 5 + 4, none⟩) (Nat.le_of_lt (Nat.lt_trans Hbx.out Hg.out)) _⟩
        · have hB := (Below.refl w.heap.size w8).setCell (p := ⟨g, k * 5 + 4, none⟩) (Nat.le_of_lt (Nat.lt_trans Hbx.out Hg.out)) (.int .i64 v)
          have hT := HT8.out.below hB
          have hz := Nat.le_trans HB8.out.size hB.size
          exact ⟨rowI_at (rowI_set (t := 4) Row8.out hk (by omega) (fun i hi => if_neg hi) (by simp [insCells])), hT.outs.up hz, hT.cells.up hz, hT.fewI, hT.fewO, hT.fewC⟩
        · exact HT8.out.below ((Below.refl w.heap.size w8).setCell (p := ⟨g, k * 5 + 4, none⟩) (Nat.le_of_lt (Nat.lt_trans Hbx.out Hg.out)) (.int .i64 v))
      have g4 : (fm == 4) = false := by simpa using f4
      by_cases f5 : fm = 5
      · have g5 : (fm == 5) = true := by simp [f5]
        have r5 : w8.cell? ⟨bx, 7, none⟩ = some (.int .i64 T.last) := KX8.out.cell 7
        have fz : w8.frozen? ⟨bx, 7, none⟩ = false := KX8.out.frozen _
        go_wp2_with fail
        go_meet
        refine ⟨{ T with last := v }, ?_, KX8.out.set_ 7 _, K8.out.far (p := ⟨bx, 7, none⟩) (Nat.ne_of_lt Hbx.out) _, ?_, HB8.out.setCell (p := ⟨bx, 7, none⟩) (Nat.le_of_lt Hbx.out) _⟩
        · have hB := (Below.refl w.heap.size w8).setCell (p := ⟨bx, 7, none⟩) (Nat.le_of_lt Hbx.out) (.int .i64 v)
          have hT := HT8.out.below hB
          have hz := Nat.le_trans HB8.out.size hB.size
          exact ⟨rowI_at ⟨Row8.out.1.far (p := ⟨bx, 7, none⟩) (Nat.ne_of_gt Hg.out) _, Row8.out.2⟩, hT.outs.up hz, hT.cells.up hz, hT.fewI, hT.fewO, hT.fewC⟩
        · exact HT8.out.below ((Below.refl w.heap.size w8).setCell (p := ⟨bx, 7, none⟩) (Nat.le_of_lt Hbx.out) (.int .i64 v))
      have g5 : (fm == 5) = false := by simpa using f5
      by_cases f6 : fm = 6
      · have g6 : (fm == 6) = true := by simp [f6]
        have r6 : w8.cell? ⟨bx, 1, none⟩ = some (.int .i64 T.slots) := KX8.out.cell 1
        have fz : w8.frozen? ⟨bx, 1, none⟩ = false := KX8.out.frozen _
        go_wp2_with fail
        go_meet
        refine ⟨{ T with slots := v }, ?_, KX8.out.set_ 1 _, K8.out.far (p := ⟨bx, 1, none⟩) (Nat.ne_of_lt Hbx.out) _, ?_, HB8.out.setCell (p := ⟨bx, 1, none⟩) (Nat.le_of_lt Hbx.out) _⟩
        · have hB := (Below.refl w.heap.size w8).setCell (p := ⟨bx, 1, none⟩) (Nat.le_of_lt Hbx.out) (.int .i64 v)
          have hT := HT8.out.below hB
          have hz := Nat.le_trans HB8.out.size hB.size
          exact ⟨rowI_at ⟨Row8.out.1.far (p := ⟨bx, 1, none⟩) (Nat.ne_of_gt Hg.out) _, Row8.out.2⟩, hT.outs.up hz, hT.cells.up hz, hT.fewI, hT.fewO, hT.fewC⟩
        · exact HT8.out.below ((Below.refl w.heap.size w8).setCell (p := ⟨bx, 1, none⟩) (Nat.le_of_lt Hbx.out) (.int .i64 v))
      have g6 : (fm == 6) = false := by simpa using f6
      obtain ⟨q, hq, hq7⟩ := Hbt.out
      have hq8 : (q : Int) ≤ 7 := by omega
      have p5 : w8.cell? ⟨bx, 5, none⟩ = some (.slice (some ⟨g, 0, none⟩) T.ni cap) := KX8.out.cell 5
      have r0 : w8.cell? ⟨g, k * 5, none⟩ = some (.int .i64 (T.ins k).op) := by rw [Row8.out.1.cell]; exact Row8.out.2 k hk 0 (by omega)
      have r1 : w8.cell? ⟨g, k * 5 + 1, none⟩ = some (.int .i64 (T.ins k).a) := by rw [Row8.out.1.cell]; exact Row8.out.2 k hk 1 (by omega)
      have r2 : w8.cell? ⟨g, k * 5 + 2, none⟩ = some (.int .i64 (T.ins k).b) := by rw [Row8.out.1.cell]; exact Row8.out.2 k hk 2 (by omega)
      have r3 : w8.cell? ⟨g, k * 5 + 3, none⟩ = some (.int .i64 (T.ins k).c) := by rw [Row8.out.1.cell]; exact Row8.out.2 k hk 3 (by omega)
      have r4 : w8.cell? ⟨g, k * 5 + 4, none⟩ = some (.int .i64 (T.ins k).x) := by rw [Row8.out.1.cell]; exact Row8.out.2 k hk 4 (by omega)
      have z0 : w8.frozen? ⟨g, k * 5, none⟩ = false := Row8.out.1.frozen _
      have z1 : w8.frozen? ⟨g, k * 5 + 1, none⟩ = false := Row8.out.1.frozen _
      have z2 : w8.frozen? ⟨g, k * 5 + 2, none⟩ = false := Row8.out.1.frozen _
      have z3 : w8.frozen? ⟨g, k * 5 + 3, none⟩ = false := Row8.out.1.frozen _
      have z4 : w8.frozen? ⟨g, k * 5 + 4, none⟩ = false := Row8.out.1.frozen _
      have hkq : wrap64 ((k : Int) + (q : Int)) = (k : Int) + (q : Int) := by unfold wrap64; omega
      go_upto_region 8 with fail
      have o0 := rowI_set (t := 0) (f := T.ins) (f' := upI T.ins k { T.ins k with op := 7 }) (v := .int .i64 7) Row8.out hk (by omega) (fun i hi => by simp [upI, hi]) (by simp [insCells, upI])
      have o1 := rowI_set (t := 1) (f := (upI T.ins k { T.ins k with op := 7 })) (f' := upI T.ins k { T.ins k with op := 7, a := 0 }) (v := .int .i64 0) o0 hk (by omega) (fun i hi => by simp [upI, hi]) (by simp [insCells, upI])
      have o2 := rowI_set (t := 2) (f := (upI T.ins k { T.ins k with op := 7, a := 0 })) (f' := upI T.ins k { T.ins k with op := 7, a := 0, b := (k : Int) + (q : Int) }) (v := .int .i64 ((k : Int) + (q : Int))) o1 hk (by omega) (fun i hi => by simp [upI, hi]) (by simp [insCells, upI])
      have o3 := rowI_set (t := 3) (f := (upI T.ins k { T.ins k with op := 7, a := 0, b := (k : Int) + (q : Int) })) (f' := upI T.ins k { T.ins k with op := 7, a := 0, b := (k : Int) + (q : Int), c := 0 }) (v := .int .i64 0) o2 hk (by omega) (fun i hi => by simp [upI, hi]) (by simp [insCells, upI])
      have o4 := rowI_set (t := 4) (f := (upI T.ins k { T.ins k with op := 7, a := 0, b := (k : Int) + (q : Int), c := 0 })) (f' := upI T.ins k ⟨7, 0, (k : Int) + (q : Int), 0, 0⟩) (v := .int .i64 0) o3 hk (by omega) (fun i hi => by simp [upI, hi]) (by simp [insCells, upI])
      have hB := ((((((Below.refl w.heap.size w8).setCell (p := ⟨g, k * 5, none⟩) (Nat.le_of_lt (Nat.lt_trans Hbx.out Hg.out)) (.int .i64 7)).setCell (p := ⟨g, k * 5 + 1, none⟩) (Nat.le_of_lt (Nat.lt_trans Hbx.out Hg.out)) (.int .i64 0)).setCell (p := ⟨g, k * 5 + 2, none⟩) (Nat.le_of_lt (Nat.lt_trans Hbx.out Hg.out)) (.int .i64 ((k : Int) + (q : Int)))).setCell (p := ⟨g, k * 5 + 3, none⟩) (Nat.le_of_lt (Nat.lt_trans Hbx.out Hg.out)) (.int .i64 0)).setCell (p := ⟨g, k * 5 + 4, none⟩) (Nat.le_of_lt (Nat.lt_trans Hbx.out Hg.out)) (.int .i64 0))
      have KX9 := Lib.hid (((((KX8.out.far (p := ⟨g, k * 5, none⟩) (Nat.ne_of_lt Hg.out) (.int .i64 7)).far (p := ⟨g, k * 5 + 1, none⟩) (Nat.ne_of_lt Hg.out) (.int .i64 0)).far (p := ⟨g, k * 5 + 2, none⟩) (Nat.ne_of_lt Hg.out) (.int .i64 ((k : Int) + (q : Int)))).far (p := ⟨g, k * 5 + 3, none⟩) (Nat.ne_of_lt Hg.out) (.int .i64 0)).far (p := ⟨g, k * 5 + 4, none⟩) (Nat.ne_of_lt Hg.out) (.int .i64 0))
      have K9 := Lib.hid (((((K8.out.far (p := ⟨g, k * 5, none⟩) (Nat.ne_of_lt (Nat.lt_trans Hbx.out Hg.out)) (.int .i64 7)).far (p := ⟨g, k * 5 + 1, none⟩) (Nat.ne_of_lt (Nat.lt_trans Hbx.out Hg.out)) (.int .i64 0)).far (p := ⟨g, k * 5 + 2, none⟩) (Nat.ne_of_lt (Nat.lt_trans Hbx.out Hg.out)) (.int .i64 ((k : Int) + (q : Int)))).far (p := ⟨g, k * 5 + 3, none⟩) (Nat.ne_of_lt (Nat.lt_trans Hbx.out Hg.out)) (.int .i64 0)).far (p := ⟨g, k * 5 + 4, none⟩) (Nat.ne_of_lt (Nat.lt_trans Hbx.out Hg.out)) (.int .i64 0))
      have Row9 := Lib.hid o4
      have HB9 := Lib.hid (HB8.out.trans hB)
      have HT9 := Lib.hid (HT8.out.below hB)
      clear hB o0 o1 o2 o3 o4 p5 r0 r1 r2 r3 r4 z0 z1 z2 z3 z4 hq hkq hq8
      generalize (((((w8.setCell ⟨g, k * 5, none⟩ (.int .i64 7)).setCell ⟨g, k * 5 + 1, none⟩ (.int .i64 0)).setCell ⟨g, k * 5 + 2, none⟩ (.int .i64 ((k : Int) + (q : Int)))).setCell ⟨g, k * 5 + 3, none⟩ (.int .i64 0)).setCell ⟨g, k * 5 + 4, none⟩ (.int .i64 0)) = w9 at *
      obtain ⟨T', hT'⟩ : ∃ T', T' = { T with ins := upI T.ins k ⟨7, 0, (k : Int) + (q : Int), 0, 0⟩ } := ⟨_, rfl⟩
      have HX9 : Hid (TrAt w9 w9.heap.size T' (some ⟨g, 0, none⟩) Ao Ac) := by
        refine Lib.hid ?_
        have hz := HB9.out.size
        rw [hT']
        exact ⟨rowI_at Row9.out, HT9.out.outs.up hz, HT9.out.cells.up hz, HT9.out.fewI, HT9.out.fewO, HT9.out.fewC⟩
      have hnR : ¬ Right T' := by
        intro h
        rw [hT'] at h
        have h1 := (h.2.2.2.2.2 k hk).2.1 ((k : Int) + (q : Int)) (by show _ ∈ usesL (upI T.ins k ⟨7, 0, (k : Int) + (q : Int), 0, 0⟩ k); simp [upI, usesL])
        have := h1.2.1
        omega
      have HRn := Lib.hid (right_any T' (some ⟨g, 0, none⟩) Ao Ac cap co cc w9.heap.size false w9 HX9.out (Nat.le_refl _) (by simp [hnR]))
      have KXt : Hid (Blk w9 bx 59 (trCells T' (some ⟨g, 0, none⟩) cap Ao co Ac cc)) := by rw [hT']; exact KX9.out
      have Hht : Hid (trCells T' (some ⟨g, 0, none⟩) cap Ao co Ac cc = #[.int .i64 T.start, .int .i64 T.slots, .int .i64 T.backs, .int .i64 T.grow, .int .i64 T.growBack, .slice (some ⟨g, 0, none⟩) T.ni cap, .slice Ao T.no co, .int .i64 T.last, .slice Ac T.nc cc]) := by rw [hT']; rfl
      rw [Hht.out] at HRn
      clear hnR hT'
      have q0 : w9.cell? ⟨bx, 0, none⟩ = some (.int .i64 T.start) := KX9.out.cell 0
      have q1 : w9.cell? ⟨bx, 1, none⟩ = some (.int .i64 T.slots) := KX9.out.cell 1
      have q2 : w9.cell? ⟨bx, 2, none⟩ = some (.int .i64 T.backs) := KX9.out.cell 2
      have q3 : w9.cell? ⟨bx, 3, none⟩ = some (.int .i64 T.grow) := KX9.out.cell 3
      have q4 : w9.cell? ⟨bx, 4, none⟩ = some (.int .i64 T.growBack) := KX9.out.cell 4
      have q5 : w9.cell? ⟨bx, 5, none⟩ = some (.slice (some ⟨g, 0, none⟩) T.ni cap) := KX9.out.cell 5
      have q6 : w9.cell? ⟨bx, 6, none⟩ = some (.slice Ao T.no co) := KX9.out.cell 6
      have q7 : w9.cell? ⟨bx, 7, none⟩ = some (.int .i64 T.last) := KX9.out.cell 7
      have q8 : w9.cell? ⟨bx, 8, none⟩ = some (.slice Ac T.nc cc) := KX9.out.cell 8
      go_wp2_with fail
      refine HRn.out.mono ?_
      rintro e w10 ⟨rfl, hb10⟩
      have hb11 := hb10.mono HB9.out.size
      have HX10 : Hid (TrAt w10 w10.heap.size T' (some ⟨g, 0, none⟩) Ao Ac) := by
        have h := HX9.out.below hb10
        have hz := hb10.size
        exact ⟨insAt_mono h.ins hz, h.outs.up hz, h.cells.up hz, h.fewI, h.fewO, h.fewC⟩
      have KX10 := Lib.hid (KXt.out.below hb10 KXt.out.lt)
      have K10 := Lib.hid (K9.out.below hb10 K9.out.lt)
      have HT10 := Lib.hid (HT9.out.below hb11)
      have HB10 := Lib.hid (HB9.out.trans hb11)
      clear hb10 hb11 q0 q1 q2 q3 q4 q5 q6 q7 q8 HRn HX9 KX9 K9 HT9 HB9 KXt
      go_wp2_with fail
      go_meet
      exact ⟨T', HX10, KX10, K10, HT10, HB10⟩
    case rest =>
      obtain ⟨T', HX, KX, KT, HTz, HBz⟩ := hcut
      clear HB8 K8 KX8 HT8 Row8
      obtain ⟨br, hbr⟩ := bool_of (P := Right T')
      have HBr := Lib.hid hbr
      clear hbr Hbt hrange hn0 hn1 hn2
      go_upto_region 24 with fail
      have HX0 : Hid (TrAt wc.drew wc.drew.heap.size T' (some ⟨g, 0, none⟩) Ao Ac) := ⟨HX.out.ins, HX.out.outs, HX.out.cells, HX.out.fewI, HX.out.fewO, HX.out.fewC⟩
      have KX0 := Lib.hid KX.out.drew
      have KT0 := Lib.hid KT.out.drew
      have HT0 : Hid (TrAt wc.drew w.heap.size T Ai Ao Ac) := ⟨HTz.out.ins, HTz.out.outs, HTz.out.cells, HTz.out.fewI, HTz.out.fewO, HTz.out.fewC⟩
      have HB0 := Lib.hid (Below.drew HBz.out)
      have S0 : (fun W : World => W.cell? ⟨w.heap.size, 0, none⟩ = some (.int .i64 T.start) ∧ W.cell? ⟨w.heap.size, 1, none⟩ = some (.int .i64 T.slots) ∧ W.cell? ⟨w.heap.size, 2, none⟩ = some (.int .i64 T.backs) ∧ W.cell? ⟨w.heap.size, 3, none⟩ = some (.int .i64 T.grow) ∧ W.cell? ⟨w.heap.size, 4, none⟩ = some (.int .i64 T.growBack) ∧ W.cell? ⟨w.heap.size, 5, none⟩ = some (.slice Ai T.ni ci) ∧ W.cell? ⟨w.heap.size, 6, none⟩ = some (.slice Ao T.no co) ∧ W.cell? ⟨w.heap.size, 7, none⟩ = some (.int .i64 T.last) ∧ W.cell? ⟨w.heap.size, 8, none⟩ = some (.slice Ac T.nc cc) ∧ W.cell? ⟨bx, 0, none⟩ = some (.int .i64 T'.start) ∧ W.cell? ⟨bx, 1, none⟩ = some (.int .i64 T'.slots) ∧ W.cell? ⟨bx, 2, none⟩ = some (.int .i64 T'.backs) ∧ W.cell? ⟨bx, 3, none⟩ = some (.int .i64 T'.grow) ∧ W.cell? ⟨bx, 4, none⟩ = some (.int .i64 T'.growBack) ∧ W.cell? ⟨bx, 5, none⟩ = some (.slice (some ⟨g, 0, none⟩) T'.ni cap) ∧ W.cell? ⟨bx, 6, none⟩ = some (.slice Ao T'.no co) ∧ W.cell? ⟨bx, 7, none⟩ = some (.int .i64 T'.last) ∧ W.cell? ⟨bx, 8, none⟩ = some (.slice Ac T'.nc cc)) wc.drew := ⟨KT0.out.cell 0, KT0.out.cell 1, KT0.out.cell 2, KT0.out.cell 3, KT0.out.cell 4, KT0.out.cell 5, KT0.out.cell 6, KT0.out.cell 7, KT0.out.cell 8, KX0.out.cell 0, KX0.out.cell 1, KX0.out.cell 2, KX0.out.cell 3, KX0.out.cell 4, KX0.out.cell 5, KX0.out.cell 6, KX0.out.cell 7, KX0.out.cell 8⟩
      clear HX KX KT HTz HBz
      refine Ph.wp_region_U 10 (fun W : World => W.cell? ⟨w.heap.size, 0, none⟩ = some (.int .i64 T.start) ∧ W.cell? ⟨w.heap.size, 1, none⟩ = some (.int .i64 T.slots) ∧ W.cell? ⟨w.heap.size, 2, none⟩ = some (.int .i64 T.backs) ∧ W.cell? ⟨w.heap.size, 3, none⟩ = some (.int .i64 T.grow) ∧ W.cell? ⟨w.heap.size, 4, none⟩ = some (.int .i64 T.growBack) ∧ W.cell? ⟨w.heap.size, 5, none⟩ = some (.slice Ai T.ni ci) ∧ W.cell? ⟨w.heap.size, 6, none⟩ = some (.slice Ao T.no co) ∧ W.cell? ⟨w.heap.size, 7, none⟩ = some (.int .i64 T.last) ∧ W.cell? ⟨w.heap.size, 8, none⟩ = some (.slice Ac T.nc cc) ∧ W.cell? ⟨bx, 0, none⟩ = some (.int .i64 T'.start) ∧ W.cell? ⟨bx, 1, none⟩ = some (.int .i64 T'.slots) ∧ W.cell? ⟨bx, 2, none⟩ = some (.int .i64 T'.backs) ∧ W.cell? ⟨bx, 3, none⟩ = some (.int .i64 T'.grow) ∧ W.cell? ⟨bx, 4, none⟩ = some (.int .i64 T'.growBack) ∧ W.cell? ⟨bx, 5, none⟩ = some (.slice (some ⟨g, 0, none⟩) T'.ni cap) ∧ W.cell? ⟨bx, 6, none⟩ = some (.slice Ao T'.no co) ∧ W.cell? ⟨bx, 7, none⟩ = some (.int .i64 T'.last) ∧ W.cell? ⟨bx, 8, none⟩ = some (.slice Ac T'.nc cc)) (by kernel_rfl) ?_
      change Ph.wpU _ _ _ _ _ _ 10 #[false, false, false, false, false, false, false, false, false, false] _ _
      refine Ph.U_take (i := 0) (oi := { dst := some 109, op := .load 59 (.tmp 10), type := 59, pos := "more.go:40", after := #[], guard := none }) (v := .agg #[.int .i64 T'.start, .int .i64 T'.slots, .int .i64 T'.backs, .int .i64 T'.grow, .int .i64 T'.growBack, .slice (some ⟨g, 0, none⟩) T'.ni cap, .slice Ao T'.no co, .int .i64 T'.last, .slice Ac T'.nc cc]) rfl (by kernel_rfl) (by kernel_rfl) (by kernel_rfl) (by kernel_rfl) (fun _ _ _ h => h) (Or.inl ⟨by rfl, ?_⟩) (by assumption) ?_
      · intro W hSw; (try dsimp only at hSw); go_simp
      simp only [Act.put, List.setIfInBounds_toArray, List.set_cons_zero, List.set_cons_succ]
      refine Ph.U_take (i := 2) (oi := { dst := some 111, op := .load 59 (.tmp 10), type := 59, pos := "more.go:40", after := #[], guard := none }) (v := .agg #[.int .i64 T'.start, .int .i64 T'.slots, .int .i64 T'.backs, .int .i64 T'.grow, .int .i64 T'.growBack, .slice (some ⟨g, 0, none⟩) T'.ni cap, .slice Ao T'.no co, .int .i64 T'.last, .slice Ac T'.nc cc]) rfl (by kernel_rfl) (by kernel_rfl) (by kernel_rfl) (by kernel_rfl) (fun _ _ _ h => h) (Or.inl ⟨by rfl, ?_⟩) (by assumption) ?_
      · intro W hSw; (try dsimp only at hSw); go_simp
      simp only [Act.put, List.setIfInBounds_toArray, List.set_cons_zero, List.set_cons_succ]
      refine Ph.U_ready (rs := [1]) (by kernel_rfl) (by simp) ?_
      refine Ph.AllReadyU.cons rfl (fun K hK => ?_) Ph.AllReadyU.nil
      go_simp
      refine (right_any T' (some ⟨g, 0, none⟩) Ao Ac cap co cc wc.drew.heap.size br wc.drew HX0.out (Nat.le_refl _) HBr.out).mono ?_
      rintro e w10 ⟨rfl, hb⟩
      have HX1 : Hid (TrAt w10 w10.heap.size T' (some ⟨g, 0, none⟩) Ao Ac) := by
        have h := HX0.out.below hb
        have hz := hb.size
        exact ⟨insAt_mono h.ins hz, h.outs.up hz, h.cells.up hz, h.fewI, h.fewO, h.fewC⟩
      have KX1 := Lib.hid (KX0.out.below hb KX0.out.lt)
      have KT1 := Lib.hid (KT0.out.below hb KT0.out.lt)
      have HT1 := Lib.hid (HT0.out.below (hb.mono HB0.out.size))
      have HB1 := Lib.hid (HB0.out.trans (hb.mono HB0.out.size))
      have S1 : (fun W : World => W.cell? ⟨w.heap.size, 0, none⟩ = some (.int .i64 T.start) ∧ W.cell? ⟨w.heap.size, 1, none⟩ = some (.int .i64 T.slots) ∧ W.cell? ⟨w.heap.size, 2, none⟩ = some (.int .i64 T.backs) ∧ W.cell? ⟨w.heap.size, 3, none⟩ = some (.int .i64 T.grow) ∧ W.cell? ⟨w.heap.size, 4, none⟩ = some (.int .i64 T.growBack) ∧ W.cell? ⟨w.heap.size, 5, none⟩ = some (.slice Ai T.ni ci) ∧ W.cell? ⟨w.heap.size, 6, none⟩ = some (.slice Ao T.no co) ∧ W.cell? ⟨w.heap.size, 7, none⟩ = some (.int .i64 T.last) ∧ W.cell? ⟨w.heap.size, 8, none⟩ = some (.slice Ac T.nc cc) ∧ W.cell? ⟨bx, 0, none⟩ = some (.int .i64 T'.start) ∧ W.cell? ⟨bx, 1, none⟩ = some (.int .i64 T'.slots) ∧ W.cell? ⟨bx, 2, none⟩ = some (.int .i64 T'.backs) ∧ W.cell? ⟨bx, 3, none⟩ = some (.int .i64 T'.grow) ∧ W.cell? ⟨bx, 4, none⟩ = some (.int .i64 T'.growBack) ∧ W.cell? ⟨bx, 5, none⟩ = some (.slice (some ⟨g, 0, none⟩) T'.ni cap) ∧ W.cell? ⟨bx, 6, none⟩ = some (.slice Ao T'.no co) ∧ W.cell? ⟨bx, 7, none⟩ = some (.int .i64 T'.last) ∧ W.cell? ⟨bx, 8, none⟩ = some (.slice Ac T'.nc cc)) w10 := ⟨KT1.out.cell 0, KT1.out.cell 1, KT1.out.cell 2, KT1.out.cell 3, KT1.out.cell 4, KT1.out.cell 5, KT1.out.cell 6, KT1.out.cell 7, KT1.out.cell 8, KX1.out.cell 0, KX1.out.cell 1, KX1.out.cell 2, KX1.out.cell 3, KX1.out.cell 4, KX1.out.cell 5, KX1.out.cell 6, KX1.out.cell 7, KX1.out.cell 8⟩
      clear hb S0 HX0 KX0 KT0 HT0 HB0
      refine hK.out _ _ (fun _ => S1) ?_
      clear hK K
      simp only [Act.put, List.setIfInBounds_toArray, List.set_cons_zero, List.set_cons_succ]
      refine Ph.U_ready (rs := [3]) (by kernel_rfl) (by simp) ?_
      refine Ph.AllReadyU.cons rfl (fun K hK => ?_) Ph.AllReadyU.nil
      go_simp
      refine (rright_any T' (some ⟨g, 0, none⟩) Ao Ac cap co cc w10.heap.size br w10 HX1.out (Nat.le_refl _) HBr.out).mono ?_
      rintro e w11 ⟨rfl, hb⟩
      have HX2 : Hid (TrAt w11 w11.heap.size T' (some ⟨g, 0, none⟩) Ao Ac) := by
        have h := HX1.out.below hb
        have hz := hb.size
        exact ⟨insAt_mono h.ins hz, h.outs.up hz, h.cells.up hz, h.fewI, h.fewO, h.fewC⟩
      have KX2 := Lib.hid (KX1.out.below hb KX1.out.lt)
      have KT2 := Lib.hid (KT1.out.below hb KT1.out.lt)
      have HT2 := Lib.hid (HT1.out.below (hb.mono HB1.out.size))
      have HB2 := Lib.hid (HB1.out.trans (hb.mono HB1.out.size))
      have S2 : (fun W : World => W.cell? ⟨w.heap.size, 0, none⟩ = some (.int .i64 T.start) ∧ W.cell? ⟨w.heap.size, 1, none⟩ = some (.int .i64 T.slots) ∧ W.cell? ⟨w.heap.size, 2, none⟩ = some (.int .i64 T.backs) ∧ W.cell? ⟨w.heap.size, 3, none⟩ = some (.int .i64 T.grow) ∧ W.cell? ⟨w.heap.size, 4, none⟩ = some (.int .i64 T.growBack) ∧ W.cell? ⟨w.heap.size, 5, none⟩ = some (.slice Ai T.ni ci) ∧ W.cell? ⟨w.heap.size, 6, none⟩ = some (.slice Ao T.no co) ∧ W.cell? ⟨w.heap.size, 7, none⟩ = some (.int .i64 T.last) ∧ W.cell? ⟨w.heap.size, 8, none⟩ = some (.slice Ac T.nc cc) ∧ W.cell? ⟨bx, 0, none⟩ = some (.int .i64 T'.start) ∧ W.cell? ⟨bx, 1, none⟩ = some (.int .i64 T'.slots) ∧ W.cell? ⟨bx, 2, none⟩ = some (.int .i64 T'.backs) ∧ W.cell? ⟨bx, 3, none⟩ = some (.int .i64 T'.grow) ∧ W.cell? ⟨bx, 4, none⟩ = some (.int .i64 T'.growBack) ∧ W.cell? ⟨bx, 5, none⟩ = some (.slice (some ⟨g, 0, none⟩) T'.ni cap) ∧ W.cell? ⟨bx, 6, none⟩ = some (.slice Ao T'.no co) ∧ W.cell? ⟨bx, 7, none⟩ = some (.int .i64 T'.last) ∧ W.cell? ⟨bx, 8, none⟩ = some (.slice Ac T'.nc cc)) w11 := ⟨KT2.out.cell 0, KT2.out.cell 1, KT2.out.cell 2, KT2.out.cell 3, KT2.out.cell 4, KT2.out.cell 5, KT2.out.cell 6, KT2.out.cell 7, KT2.out.cell 8, KX2.out.cell 0, KX2.out.cell 1, KX2.out.cell 2, KX2.out.cell 3, KX2.out.cell 4, KX2.out.cell 5, KX2.out.cell 6, KX2.out.cell 7, KX2.out.cell 8⟩
      clear hb S1 HX1 KX1 KT1 HT1 HB1
      refine hK.out _ _ (fun _ => S2) ?_
      clear hK K
      simp only [Act.put, List.setIfInBounds_toArray, List.set_cons_zero, List.set_cons_succ]
      refine Ph.U_take (i := 4) (oi := { dst := some 113, op := .binOp BinOp.eql 4 (.tmp 110) (.tmp 112) 4, type := 4, pos := "more.go:40", after := #[{ on := 1, ground := .data }, { on := 3, ground := .data }], guard := none }) (v := .bool true) rfl (by kernel_rfl) (by kernel_rfl) (by kernel_rfl) (by kernel_rfl) (fun _ _ _ h => h) (Or.inl ⟨by rfl, ?_⟩) (by assumption) ?_
      · intro W hSw; (try dsimp only at hSw); go_simp
      simp only [Act.put, List.setIfInBounds_toArray, List.set_cons_zero, List.set_cons_succ]
      refine Ph.U_take (i := 5) (oi := { dst := some 114, op := .move (.tmp 113), type := 4, pos := "more.go:40", after := #[{ on := 4, ground := .data }, { on := 3, ground := .chain }], guard := none }) (v := .bool true) rfl (by kernel_rfl) (by kernel_rfl) (by kernel_rfl) (by kernel_rfl) (fun _ _ _ h => h) (Or.inl ⟨by rfl, ?_⟩) (by assumption) ?_
      · intro W hSw; (try dsimp only at hSw); go_simp
      simp only [Act.put, List.setIfInBounds_toArray, List.set_cons_zero, List.set_cons_succ]
      refine Ph.U_take (i := 6) (oi := { dst := some 115, op := .load 59 (.tmp 4), type := 59, pos := "more.go:40", after := #[{ on := 5, ground := .guard }], guard := some (5, true) }) (v := .agg #[.int .i64 T.start, .int .i64 T.slots, .int .i64 T.backs, .int .i64 T.grow, .int .i64 T.growBack, .slice Ai T.ni ci, .slice Ao T.no co, .int .i64 T.last, .slice Ac T.nc cc]) rfl (by kernel_rfl) (by kernel_rfl) (by kernel_rfl) (by kernel_rfl) (fun _ _ _ h => h) (Or.inl ⟨by rfl, ?_⟩) (by assumption) ?_
      · intro W hSw; (try dsimp only at hSw); go_simp
      simp only [Act.put, List.setIfInBounds_toArray, List.set_cons_zero, List.set_cons_succ]
      refine Ph.U_ready (rs := [7]) (by kernel_rfl) (by simp) ?_
      refine Ph.AllReadyU.cons rfl (fun K hK => ?_) Ph.AllReadyU.nil
      go_simp
      refine (right_any T Ai Ao Ac ci co cc w.heap.size true w11 HT2.out HB2.out.size (by simp [HRT.out])).mono ?_
      rintro e w12 ⟨rfl, hb⟩
      have HX3 : Hid (TrAt w12 w12.heap.size T' (some ⟨g, 0, none⟩) Ao Ac) := by
        have h := HX2.out.below hb
        have hz := hb.size
        exact ⟨insAt_mono h.ins hz, h.outs.up hz, h.cells.up hz, h.fewI, h.fewO, h.fewC⟩
      have KX3 := Lib.hid (KX2.out.below hb KX2.out.lt)
      have KT3 := Lib.hid (KT2.out.below hb KT2.out.lt)
      have HT3 := Lib.hid (HT2.out.below (hb.mono HB2.out.size))
      have HB3 := Lib.hid (HB2.out.trans (hb.mono HB2.out.size))
      have S3 : (fun W : World => W.cell? ⟨w.heap.size, 0, none⟩ = some (.int .i64 T.start) ∧ W.cell? ⟨w.heap.size, 1, none⟩ = some (.int .i64 T.slots) ∧ W.cell? ⟨w.heap.size, 2, none⟩ = some (.int .i64 T.backs) ∧ W.cell? ⟨w.heap.size, 3, none⟩ = some (.int .i64 T.grow) ∧ W.cell? ⟨w.heap.size, 4, none⟩ = some (.int .i64 T.growBack) ∧ W.cell? ⟨w.heap.size, 5, none⟩ = some (.slice Ai T.ni ci) ∧ W.cell? ⟨w.heap.size, 6, none⟩ = some (.slice Ao T.no co) ∧ W.cell? ⟨w.heap.size, 7, none⟩ = some (.int .i64 T.last) ∧ W.cell? ⟨w.heap.size, 8, none⟩ = some (.slice Ac T.nc cc) ∧ W.cell? ⟨bx, 0, none⟩ = some (.int .i64 T'.start) ∧ W.cell? ⟨bx, 1, none⟩ = some (.int .i64 T'.slots) ∧ W.cell? ⟨bx, 2, none⟩ = some (.int .i64 T'.backs) ∧ W.cell? ⟨bx, 3, none⟩ = some (.int .i64 T'.grow) ∧ W.cell? ⟨bx, 4, none⟩ = some (.int .i64 T'.growBack) ∧ W.cell? ⟨bx, 5, none⟩ = some (.slice (some ⟨g, 0, none⟩) T'.ni cap) ∧ W.cell? ⟨bx, 6, none⟩ = some (.slice Ao T'.no co) ∧ W.cell? ⟨bx, 7, none⟩ = some (.int .i64 T'.last) ∧ W.cell? ⟨bx, 8, none⟩ = some (.slice Ac T'.nc cc)) w12 := ⟨KT3.out.cell 0, KT3.out.cell 1, KT3.out.cell 2, KT3.out.cell 3, KT3.out.cell 4, KT3.out.cell 5, KT3.out.cell 6, KT3.out.cell 7, KT3.out.cell 8, KX3.out.cell 0, KX3.out.cell 1, KX3.out.cell 2, KX3.out.cell 3, KX3.out.cell 4, KX3.out.cell 5, KX3.out.cell 6, KX3.out.cell 7, KX3.out.cell 8⟩
      clear hb S2 HX2 KX2 KT2 HT2 HB2
      refine hK.out _ _ (fun _ => S3) ?_
      clear hK K
      simp only [Act.put, List.setIfInBounds_toArray, List.set_cons_zero, List.set_cons_succ]
      refine Ph.U_take (i := 8) (oi := { dst := some 117, op := .pick (.tmp 114) (.tmp 116) (.const (Value.bool false)), type := 4, pos := "more.go:40", after := #[{ on := 5, ground := .data }, { on := 7, ground := .data }], guard := none }) (v := .bool true) rfl (by kernel_rfl) (by kernel_rfl) (by kernel_rfl) (by kernel_rfl) (fun _ _ _ h => h) (Or.inl ⟨by rfl, ?_⟩) (by assumption) ?_
      · intro W hSw; (try dsimp only at hSw); go_simp
      simp only [Act.put, List.setIfInBounds_toArray, List.set_cons_zero, List.set_cons_succ]
      refine Ph.U_take (i := 9) (oi := { dst := some 8, op := .assign (.tmp 117), type := 4, pos := "more.go:40", after := #[{ on := 8, ground := .data }, { on := 7, ground := .chain }, { on := 0, ground := .phase }, { on := 1, ground := .phase }, { on := 2, ground := .phase }, { on := 3, ground := .phase }, { on := 4, ground := .phase }, { on := 5, ground := .phase }, { on := 6, ground := .phase }, { on := 7, ground := .phase }, { on := 8, ground := .phase }], guard := none }) (v := .bool true) rfl (by kernel_rfl) (by kernel_rfl) (by kernel_rfl) (by kernel_rfl) (fun _ _ _ h => h) (Or.inl ⟨by rfl, ?_⟩) (by assumption) ?_
      · intro W hSw; (try dsimp only at hSw); go_simp
      simp only [Act.put, List.setIfInBounds_toArray, List.set_cons_zero, List.set_cons_succ]
      refine Ph.U_done (by kernel_rfl) ?_ _
      clear S3
      go_wp2_with fail
      go_ret
      exact ⟨rfl, HB3.out⟩
end Go.Proofs.YtcfkhbkhejaegaaDoor.Ir
