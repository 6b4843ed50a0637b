/-
  Chapter 14 (ir): numbers as digits, by the document and by the library; an instruction's text, as the law joins it. (Printed by genirw.py.)
-/
import Derived.Test.YtoaidcjjjoafjaaGreatDoorRows
import Derived.Test.YtoaidcjjjoafjaaGreatDoorBase
import Derived.Test.YtoaidcjjjoafjaaGreatDoorDgA
import Derived.Test.YtoaidcjjjoafjaaGreatDoorIrT
import Derived.Test.YtoaidcjjjoafjaaGreatDoorIrS
import Derived.WalkKit
import Derived.WalkSmall
import Derived.Deep.LoopGhost
import Derived.Deep.DeepCutAuto
import Derived.Deep.CutBlock
import Derived.BigQuiet
import Derived.Laws.BytesArg
import Derived.Lib.ItoaNum
import Derived.Lib.ItoaLen
import Derived.Lib.AppendIntMem
import Derived.LaidLaws
import Derived.Lib.LaidU8
import Derived.LaidMore
import Derived.Lay
set_option linter.unusedVariables false
set_option linter.unusedSimpArgs false
set_option linter.unnecessarySimpa false
set_option linter.deprecated false
namespace Go.Proofs.YtoaidcjjjoafjaaGreatDoor.Dg
open Go.RowKit Go.Lib

/-- What the loop comes to. -/
def fin (b m : Nat) (acc : List UInt8) : List UInt8 := if m = 0 ∧ acc ≠ [] then acc else putL b m ++ acc
theorem fin_step (b m : Nat) (acc : List UInt8) (hb : 2 ≤ b) (h : 0 < m ∨ acc = []) : fin b (m / b) (dig (m % b) :: acc) = fin b m acc := by
  unfold fin
  rw [if_neg (show ¬ (m = 0 ∧ acc ≠ []) by rintro ⟨h1, h2⟩; rcases h with h | h; omega; exact h2 h)]
  by_cases hm : m < b
  · rw [Nat.div_eq_of_lt hm, if_pos ⟨rfl, by simp⟩, putL_small b m hm, Nat.mod_eq_of_lt hm]
    rfl
  · have hd : m / b ≠ 0 := by
      intro e
      have := (Nat.div_eq_zero_iff).1 e
      omega
    rw [if_neg (by rintro ⟨h1, _⟩; exact hd h1), putL_step b m hb (by omega)]
    simp
theorem fin_len (b m : Nat) (acc : List UInt8) : acc.length ≤ (fin b m acc).length := by
  unfold fin
  split <;> simp


theorem put_len {b m m0 : Nat} {acc : List UInt8} (h : fin b m acc = putL b m0) (hb : 2 ≤ b) (hm : m0 < 18446744073709551616) : acc.length ≤ 64 := by
  have h1 := fin_len b m acc
  have h2 := putL_len b hb 64 m0 (by omega)
  rw [h] at h1
  omega

def allB : ByteArray := ⟨#[48, 49, 50, 51, 52, 53, 54, 55, 56, 57, 65, 66, 67, 68, 69, 70, 71, 72, 73, 74, 75, 76, 77, 78, 79, 80, 81, 82, 83, 84, 85, 86, 87, 88, 89, 90]⟩
theorem all_at (r : Nat) (h : r < 36) : (allB[r]'(by show r < 36; exact h)).toNat = (dig r).toNat := by
  have : ∀ k : Fin 36, (allB[k.1]'(by show k.1 < 36; exact k.2)).toNat = (dig k.1).toNat := by decide
  exact this ⟨r, h⟩

theorem putV_bad (v b : Int) (h : b < 2 ∨ 36 < b) : putV v b = [] := by unfold putV; rw [if_pos h]

theorem all_ext (r : Nat) (h : r < 36) : allB.extract r (r + 1) = ⟨[dig r].toArray⟩ := by
  have : ∀ k : Fin 36, allB.extract k.1 (k.1 + 1) = ⟨[dig k.1].toArray⟩ := by decide +kernel
  exact this ⟨r, h⟩
theorem all_slice (r : Nat) (h : r < 36) (W : World) : (Instr.slice 9 (.string allB) (some (.int .i64 (r : Int))) (some (.int .i64 ((r : Int) + 1))) none).run Tryz.prog W = .ok (.string ⟨[dig r].toArray⟩) W := by
  rw [run_slice_string W 9 allB .i64 .i64 (r : Int) ((r : Int) + 1) Tryz.underlying9 (by omega) (by omega) (by show (r : Int) + 1 ≤ 36; omega)]
  rw [← all_ext r h]
  rfl

set_option maxRecDepth 100000 in
theorem rput_walk (v b : Int) (h : 2 ≤ b) (h' : b ≤ 36) (h1 : -9223372036854775808 ≤ v) (h2 : v ≤ 9223372036854775807) (w : World) :
    Calls Tryz.prog 11 #[.int .i64 v, .int .i64 b] w fun e w' => e = .returned (.string ⟨(putV v b).toArray⟩) ∧ w = w' := by
  go_enter Tryz.func11, Tryz.ntmps11
  have HV : Hid (putV v b = (if v < 0 then [45] else []) ++ putL b.toNat v.natAbs) := by
    show _ = _
    unfold putV
    rw [if_neg (by omega)]
  have hb1 : decide (b < 2) = false := by simpa using h
  have hb2 : decide (36 < b) = false := by simpa using h'
  by_cases hv : v < 0
  · have e1 : IntKind.u64.wrap (-IntKind.u64.wrap v) = (v.natAbs : Int) := by rw [IntKind.wrap_u64, IntKind.wrap_u64]; omega
    have E1 := Lib.hid e1
    clear e1
    go_wp2_with fail
    rw [E1.out]
    obtain ⟨m0, hm0⟩ : ∃ m0, v.natAbs = m0 := ⟨_, rfl⟩
    rw [hm0]
    have HV2 := HV.out
    rw [if_pos hv, hm0] at HV2
    have HV2 := Lib.hid HV2
    have Hn0 : Hid (m0 < 18446744073709551616) := by show _ < _; omega
    clear hm0 E1 HV
    generalize IntKind.u64.wrap v = u
    obtain ⟨B, rfl⟩ : ∃ B : Nat, b = B := ⟨b.toNat, by omega⟩
    rw [Int.toNat_natCast] at HV2
    go_loopg [5, 6] (m0 + 1) (fun g vm va wr => ∃ (m : Nat) (acc : List UInt8), g = m + (if acc = [] then 1 else 0) ∧ vm = .int .u64 m ∧ va = .string ⟨acc.toArray⟩ ∧ Hid (fin B m acc = putL B m0) ∧ Hid ((m : Int) < 18446744073709551616) ∧ wr = w)
    case atStart => exact ⟨m0, [], rfl, rfl, rfl, by show fin _ _ _ = _; simp [fin], by have := Hn0.out; show _ < _; omega, rfl⟩
    case round =>
      obtain ⟨m, acc, hg, rfl, rfl, HF, HM, rfl⟩ := hrel
      have Hg := Lib.hid hg
      clear hg
      by_cases hgo : 0 < m ∨ acc = []
      · have hlt36 : m % B < 36 := by have := Nat.mod_lt m (show 0 < B by omega); omega
        have hdm : m / B ≤ m := Nat.div_le_self m B
        have hr0 : m = 0 → m % B = 0 := fun h => by rw [h]; exact Nat.zero_mod _
        have hd0 : m = 0 → m / B = 0 := fun h => by rw [h]; exact Nat.zero_div _
        have hdl : 0 < m → m / B < m := fun hm => Nat.div_lt_self hm (by omega)
        have eB : IntKind.u64.wrap (B : Int) = (B : Int) := IntWalk.u64_in _ (by omega)
        have eM : ((m : Int).tmod (B : Int)) = ((m % B : Nat) : Int) := by rw [Int.tmod_eq_emod_of_nonneg (by omega)]; rfl
        have eD : ((m : Int).tdiv (B : Int)) = ((m / B : Nat) : Int) := by rw [Int.tdiv_eq_ediv_of_nonneg (by omega)]; rfl
        have HS := Lib.hid (fin_step B m acc (by omega) hgo)
        generalize m / B = d at *
        generalize m % B = r at *
        have eW1 : IntKind.u64.wrap (r : Int) = (r : Int) := IntWalk.u64_in _ (by omega)
        have eW2 : IntKind.u64.wrap (d : Int) = (d : Int) := IntWalk.u64_in _ (by have := HM.out; omega)
        have hdl := Lib.hid hdl
        have hr0 := Lib.hid hr0
        have hd0 := Lib.hid hd0
        by_cases hm : 0 < m
        · have hm' : 0 < (m : Int) := by omega
          clear hgo
          go_upto_region 9 with fail
          have hl64 : acc.length ≤ 64 := put_len HF.out (by omega) Hn0.out
          have hsl := fun W => all_slice r hlt36 W
          unfold allB at hsl
          go_wp2_with fail
          generalize dig r = x at *
          rw [HF.out] at HS
          go_roundg d
          case rel => exact ⟨d, x :: acc, by simp, rfl, rfl, HS, by have := HM.out; show _ < _; omega, rfl⟩
          case measure => have := Hg.out; have := hdl.out; split at * <;> omega
        · have hm0 : m = 0 := by omega
          obtain rfl : acc = [] := by rcases hgo with h | h; exact absurd h hm; exact h
          subst hm0
          obtain rfl : r = 0 := hr0.out rfl
          obtain rfl : d = 0 := hd0.out rfl
          clear hgo hm eM
          go_upto_region 9 with fail
          have hsl := fun W => all_slice 0 hlt36 W
          unfold allB at hsl
          go_wp2_with fail
          rw [HF.out] at HS
          go_roundg 0
          case rel => exact ⟨0, [dig 0], by simp, rfl, rfl, HS, by have := HM.out; show _ < _; omega, rfl⟩
          case measure => have := Hg.out; simp at this; omega
      · have hm0 : m = 0 := by omega
        have hne : acc ≠ [] := fun h => hgo (Or.inr h)
        subst hm0
        have q1 : (acc == []) = false := by simpa using hne
        have q2 : acc.isEmpty = false := by simpa using hne
        have hl64 : acc.length ≤ 64 := put_len HF.out (by omega) Hn0.out
        have hF := HF.out
        unfold fin at hF
        rw [if_pos ⟨rfl, hne⟩] at hF
        have HW : Hid (putV v B = [45] ++ acc) := by
          show _ = _
          rw [hF]
          exact HV2.out
        clear hgo HV2 HF hF
        go_wp2_with fail
        go_ret
        exact ⟨by rw [HW.out]; rfl, rfl⟩
  · obtain ⟨m0, rfl⟩ : ∃ m0 : Nat, v = m0 := ⟨v.toNat, by omega⟩
    have HV2 := HV.out
    rw [if_neg hv, Int.natAbs_natCast] at HV2
    have hd0 : decide ((m0 : Int) < 0) = false := by simp
    go_wp2_with fail
    have HV2 := Lib.hid HV2
    have Hn0 : Hid (m0 < 18446744073709551616) := by show _ < _; omega
    clear HV
    obtain ⟨B, rfl⟩ : ∃ B : Nat, b = B := ⟨b.toNat, by omega⟩
    rw [Int.toNat_natCast] at HV2
    go_loopg [5, 6] (m0 + 1) (fun g vm va wr => ∃ (m : Nat) (acc : List UInt8), g = m + (if acc = [] then 1 else 0) ∧ vm = .int .u64 m ∧ va = .string ⟨acc.toArray⟩ ∧ Hid (fin B m acc = putL B m0) ∧ Hid ((m : Int) < 18446744073709551616) ∧ wr = w)
    case atStart => exact ⟨m0, [], rfl, rfl, rfl, by show fin _ _ _ = _; simp [fin], by have := Hn0.out; show _ < _; omega, rfl⟩
    case round =>
      obtain ⟨m, acc, hg, rfl, rfl, HF, HM, rfl⟩ := hrel
      have Hg := Lib.hid hg
      clear hg
      by_cases hgo : 0 < m ∨ acc = []
      · have hlt36 : m % B < 36 := by have := Nat.mod_lt m (show 0 < B by omega); omega
        have hdm : m / B ≤ m := Nat.div_le_self m B
        have hr0 : m = 0 → m % B = 0 := fun h => by rw [h]; exact Nat.zero_mod _
        have hd0 : m = 0 → m / B = 0 := fun h => by rw [h]; exact Nat.zero_div _
        have hdl : 0 < m → m / B < m := fun hm => Nat.div_lt_self hm (by omega)
        have eB : IntKind.u64.wrap (B : Int) = (B : Int) := IntWalk.u64_in _ (by omega)
        have eM : ((m : Int).tmod (B : Int)) = ((m % B : Nat) : Int) := by rw [Int.tmod_eq_emod_of_nonneg (by omega)]; rfl
        have eD : ((m : Int).tdiv (B : Int)) = ((m / B : Nat) : Int) := by rw [Int.tdiv_eq_ediv_of_nonneg (by omega)]; rfl
        have HS := Lib.hid (fin_step B m acc (by omega) hgo)
        generalize m / B = d at *
        generalize m % B = r at *
        have eW1 : IntKind.u64.wrap (r : Int) = (r : Int) := IntWalk.u64_in _ (by omega)
        have eW2 : IntKind.u64.wrap (d : Int) = (d : Int) := IntWalk.u64_in _ (by have := HM.out; omega)
        have hdl := Lib.hid hdl
        have hr0 := Lib.hid hr0
        have hd0 := Lib.hid hd0
        by_cases hm : 0 < m
        · have hm' : 0 < (m : Int) := by omega
          clear hgo
          go_upto_region 9 with fail
          have hl64 : acc.length ≤ 64 := put_len HF.out (by omega) Hn0.out
          have hsl := fun W => all_slice r hlt36 W
          unfold allB at hsl
          go_wp2_with fail
          generalize dig r = x at *
          rw [HF.out] at HS
          go_roundg d
          case rel => exact ⟨d, x :: acc, by simp, rfl, rfl, HS, by have := HM.out; show _ < _; omega, rfl⟩
          case measure => have := Hg.out; have := hdl.out; split at * <;> omega
        · have hm0 : m = 0 := by omega
          obtain rfl : acc = [] := by rcases hgo with h | h; exact absurd h hm; exact h
          subst hm0
          obtain rfl : r = 0 := hr0.out rfl
          obtain rfl : d = 0 := hd0.out rfl
          clear hgo hm eM
          go_upto_region 9 with fail
          have hsl := fun W => all_slice 0 hlt36 W
          unfold allB at hsl
          go_wp2_with fail
          rw [HF.out] at HS
          go_roundg 0
          case rel => exact ⟨0, [dig 0], by simp, rfl, rfl, HS, by have := HM.out; show _ < _; omega, rfl⟩
          case measure => have := Hg.out; simp at this; omega
      · have hm0 : m = 0 := by omega
        have hne : acc ≠ [] := fun h => hgo (Or.inr h)
        subst hm0
        have q1 : (acc == []) = false := by simpa using hne
        have q2 : acc.isEmpty = false := by simpa using hne
        have hl64 : acc.length ≤ 64 := put_len HF.out (by omega) Hn0.out
        have hF := HF.out
        unfold fin at hF
        rw [if_pos ⟨rfl, hne⟩] at hF
        have HW : Hid (putV m0 B = [] ++ acc) := by
          show _ = _
          rw [hF]
          exact HV2.out
        clear hgo HV2 HF hF
        go_wp2_with fail
        go_ret
        exact ⟨by rw [HW.out]; rfl, rfl⟩

theorem rput_any (v b : Int) (h1 : -9223372036854775808 ≤ v) (h2 : v ≤ 9223372036854775807) (w : World) :
    Calls Tryz.prog 11 #[.int .i64 v, .int .i64 b] w fun e w' => e = .returned (.string ⟨(putV v b).toArray⟩) ∧ w = w' := by
  by_cases h : b < 2 ∨ 36 < b
  · have HV : Hid (putV v b = []) := putV_bad v b h
    by_cases hb : b < 2
    · go_enter Tryz.func11, Tryz.ntmps11
      go_wp2_with fail
      go_ret
      exact ⟨by rw [HV.out]; rfl, rfl⟩
    · have hb' : 36 < b := by omega
      clear h
      go_enter Tryz.func11, Tryz.ntmps11
      go_wp2_with fail
      go_ret
      exact ⟨by rw [HV.out]; rfl, rfl⟩
  · exact rput_walk v b (by omega) (by omega) h1 h2 w

theorem dec_put (n : Nat) : Lib.decDigits n = putL 10 n := by
  induction n using Nat.strongRecOn with
  | _ n ih =>
    rw [Lib.decDigits]
    by_cases h : n < 10
    · rw [dif_pos h, putL_small _ _ h]
      simp [dig, h]
    · rw [dif_neg h, putL_step _ _ (by omega) (by omega), ih (n / 10) (by omega)]
      have h2 : n % 10 < 10 := Nat.mod_lt _ (by omega)
      simp [dig, h2]
theorem itoa_put (n : Int) : Lib.itoa n = putV n 10 := by
  unfold Lib.itoa putV
  rw [if_neg (show ¬ ((10 : Int) < 2 ∨ 36 < (10 : Int)) by omega)]
  by_cases h : n < 0
  · rw [if_pos h, if_pos h, dec_put]; rfl
  · rw [if_neg h, if_neg h, dec_put, show n.toNat = n.natAbs by omega]; rfl
theorem below_grow {B : Nat} {a w : World} (h : Below B a w) (hB : B ≤ a.heap.size) (k : Nat) (os : Array Obj) : Below B a (Go.Sort.grow (w.drewN k) os) := by
  refine ⟨h.os, h.tape, h.output, Nat.le_trans h.size (by simp [Go.Sort.grow]), fun i hi => ?_⟩
  have := h.size
  have e : i < w.heap.size := by omega
  show (w.heap ++ os)[i]? = _
  rw [Array.getElem?_append_left e]
  exact h.block i hi

theorem few_digits : ∀ (k u : Nat), 1 ≤ k → u < 10 ^ k → nDigits u ≤ k := by
  intro k
  induction k with
  | zero => intro u h; omega
  | succ k ih =>
    intro u _ hu
    by_cases h : u < 10
    · rw [nDigits_small h]; omega
    · rw [nDigits_big h]
      rcases Nat.eq_zero_or_pos k with rfl | hk
      · simp at hu; omega
      · have := ih (u / 10) hk (by rw [Nat.pow_succ] at hu; omega)
        omega
theorem itoa_len20 (n : Int) (h0 : -9223372036854775808 ≤ n) (h1 : n ≤ 9223372036854775807) : (itoa n).length ≤ 20 := by
  by_cases hneg : n < 0
  · obtain ⟨u, rfl⟩ : ∃ u : Nat, n = -(u : Int) := ⟨n.natAbs, by omega⟩
    rw [itoa_neg u (by omega), List.length_cons, decDigits_length]
    have := few_digits 19 u (by omega) (by omega)
    omega
  · obtain ⟨u, rfl⟩ : ∃ u : Nat, n = u := ⟨n.toNat, by omega⟩
    rw [itoa_nonneg, decDigits_length]
    exact Nat.le_trans (few_digits 19 u (by omega) (by omega)) (by omega)
def Tab (w : World) : Prop := Lib.TabIs Tryz.prog w "internal/strconv.uint64pow10" .u64 Lib.pow10Tab
theorem Tab.below {w w' : World} (h : Tab w) (hb : Below w.heap.size w w') : Tab w' := Lib.tabBelow_of_tabIs h w' hb
def numB (n : Int) : ByteArray := ⟨(putV n 10).toArray⟩
theorem itoa_any (n : Int) (hn : Ir.In64 n) (w : World) (hs : Tab w) :
    Calls Tryz.prog 47 #[.int .i64 n] w fun e w' => e = .returned (.string (numB n)) ∧ Below w.heap.size w w' :=
  (Tryz.strconv_Itoa n hn.1 hn.2 w hs).mono fun _ _ ⟨he, k, os, hw⟩ => ⟨by rw [he, itoa_put]; rfl, by rw [hw]; exact below_grow (Below.refl _ _) (Nat.le_refl _) k os⟩
theorem numB_size (n : Int) (hn : Ir.In64 n) : (numB n).size ≤ 20 := by
  have := itoa_len20 n hn.1 hn.2
  rw [itoa_put] at this
  show (putV n 10).toArray.size ≤ 20
  simpa using this
theorem rput_num (n : Int) (hn : Ir.In64 n) (w : World) : Calls Tryz.prog 11 #[.int .i64 n, .int .i64 10] w fun e w' => e = .returned (.string (numB n)) ∧ w = w' := rput_any n 10 hn.1 hn.2 w
theorem gPow : Tryz.prog.globalNamed "internal/strconv.uint64pow10" = some 0 := by kernel_rfl
theorem pow_eq : (Rows.laid_internal_strconv_uint64pow10 : DataW Unit) = Lib.tabData .u64 Lib.pow10Tab := by kernel_rfl
theorem tab_of {W : World} (h : laidMetH Tryz.prog Rows.irTellsRow.laid W) : Tab W := by
  rw [MakeChecks.laidMetH_plain _ _ _ (by kernel_rfl)] at h
  have r := Lib.laidMet.reads h (.tail _ (.tail _ (.head _)))
  rw [pow_eq] at r
  obtain ⟨g', t', cs, fuel, p, hg', ht', hvar, hd⟩ := r
  obtain rfl := Option.some.inj (gPow.symm.trans hg')
  have hty : (Tryz.prog.globals[0]?).map (·.type) = some 125 := by kernel_rfl
  obtain rfl := Option.some.inj (hty.symm.trans ht')
  show Lib.TabIs _ _ _ _ _
  unfold Lib.TabIs
  rw [hvar, ← Lib.cells_of_tab Tryz.underlying125 Tryz.underlying64 (by kernel_rfl) (by kernel_rfl) hd]
/-- The law's own way to a text: joined by strings of one blank. -/
def sp : ByteArray := ⟨#[32]⟩
def joined (p : ByteArray) (i : Ir.Ins) : ByteArray := p ++ sp ++ numB i.a ++ sp ++ numB i.b ++ sp ++ numB i.c ++ sp ++ numB i.x
theorem data_ext {a b : ByteArray} (h : a.data.toList = b.data.toList) : a = b := by
  cases a; cases b
  simp only [ByteArray.mk.injEq]
  exact Array.ext' h
theorem joined_text (i : Ir.Ins) (h : 1 ≤ i.op ∧ i.op ≤ 12) : Ir.textV i numB = joined (Ir.nameL.getD i.op.toNat ⟨#[]⟩) i := by
  unfold Ir.textV joined
  rw [if_pos h]
  apply data_ext
  simp [Lib.join, sp, ByteArray.data_append]
end Go.Proofs.YtoaidcjjjoafjaaGreatDoor.Dg
