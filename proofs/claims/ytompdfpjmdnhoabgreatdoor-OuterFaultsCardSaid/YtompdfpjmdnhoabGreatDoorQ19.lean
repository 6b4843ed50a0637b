/-
  Lemmas on the way, for every input that they name: DgB, DgC, DgD.
-/
import Derived.Test.YtompdfpjmdnhoabGreatDoorRows
import Derived.WalkKit
import Derived.WalkSmall
import Derived.Deep.LoopGhost
import Derived.Deep.DeepCutAuto
import Derived.Deep.CutBlock
import Derived.BigQuiet
import Derived.Laws.BytesArg
import Derived.Test.YtompdfpjmdnhoabGreatDoorQ00
import Derived.Test.YtompdfpjmdnhoabGreatDoorQ04
set_option linter.unusedVariables false
set_option linter.unusedSimpArgs false
set_option linter.deprecated false
namespace Go.Proofs.YtompdfpjmdnhoabGreatDoor.Dg
open Go.RowKit
theorem right_yes (b : Int) (h : 2 ≤ b) (h' : b ≤ 36) (w : World) : Calls Tryz.prog 59 #[.int .i64 b] w fun e w' => e = .returned (.bool true) ∧ w = w' := by
  go_enter Tryz.func59, Tryz.ntmps59
  go_wp2
  go_ret
  exact ⟨by simp_all, rfl⟩
theorem right_no (b : Int) (h : b < 2 ∨ 36 < b) (w : World) : Calls Tryz.prog 59 #[.int .i64 b] w fun e w' => e = .returned (.bool false) ∧ w = w' := by
  by_cases h1 : b < 2
  all_goals
    go_enter Tryz.func59, Tryz.ntmps59
    go_wp2
    go_ret
    exact ⟨by simp_all; try omega, rfl⟩
theorem infoB : (Tryz.prog.info? 5).map (fun i => (i.zero, i.size, i.bytes)) = some (some (.int .u8 0), 1, 1) := by kernel_rfl
def bcells (l : List UInt8) : List Value := l.map fun c => .int .u8 (c.toNat : Int)
theorem bc_all (l : List UInt8) : ∀ u ∈ bcells l, u.oneCell' = true := by
  intro u hu
  simp [bcells] at hu
  obtain ⟨x, _, rfl⟩ := hu
  rfl
theorem nums_bytes (l : List UInt8) : strOfNums (l.map fun c => (c.toNat : Int)) = ⟨l.toArray⟩ := by
  unfold strOfNums
  simp [Function.comp_def]
theorem conv_bytes {w : World} {B : Nat} {v : Value} {l : List UInt8} (H : w.ownsRow B 5 1 v l.length (bcells l)) : (convert 115 9 v).run Tryz.prog w = .ok (.string ⟨l.toArray⟩) w := by
  rcases H.2 with ⟨rfl, h0⟩ | ⟨g, cap, cur, rfl, _⟩
  · have : l = [] := List.eq_nil_of_length_eq_zero h0
    subst this
    exact run_convert_bytes_nil w _ _ Tryz.underlying115 Tryz.underlying5 _ _ _ Tryz.underlying9
  · rw [← nums_bytes]
    refine run_convert_bytes_arg w _ _ Tryz.underlying115 Tryz.underlying5 g 0 l.length cap _ (by simp) (fun i hi => ?_) _ Tryz.underlying9
    rw [Nat.zero_add, H.cellAt i (by omega)]
    simp [bcells, hi]
def fin (b m : Nat) (acc : List UInt8) : List UInt8 := if m = 0 ∧ acc ≠ [] then acc else putL b m ++ acc
theorem fin_step (b m : Nat) (acc : List UInt8) (hb : 2 ≤ b) (h : 0 < m ∨ acc = []) : fin b (m / b) (dig (m % b) :: acc) = fin b m acc := by
  unfold fin
  rw [if_neg (show ¬ (m = 0 ∧ acc ≠ []) by rintro ⟨h1, h2⟩; rcases h with h | h; omega; exact h2 h)]
  by_cases hm : m < b
  · rw [Nat.div_eq_of_lt hm, if_pos ⟨rfl, by simp⟩, putL_small b m hm, Nat.mod_eq_of_lt hm]
    rfl
  · have hd : m / b ≠ 0 := by
      intro e
      have := (Nat.div_eq_zero_iff).1 e
      omega
    rw [if_neg (by rintro ⟨h1, _⟩; exact hd h1), putL_step b m hb (by omega)]
    simp
theorem fin_len (b m : Nat) (acc : List UInt8) : acc.length ≤ (fin b m acc).length := by
  unfold fin
  split <;> simp
theorem put_len {b m m0 : Nat} {acc : List UInt8} (h : fin b m acc = putL b m0) (hb : 2 ≤ b) (hm : m0 < 18446744073709551616) : acc.length ≤ 64 := by
  have h1 := fin_len b m acc
  have h2 := putL_len b hb 64 m0 (by omega)
  rw [h] at h1
  omega
def allB : ByteArray := ⟨#[48, 49, 50, 51, 52, 53, 54, 55, 56, 57, 65, 66, 67, 68, 69, 70, 71, 72, 73, 74, 75, 76, 77, 78, 79, 80, 81, 82, 83, 84, 85, 86, 87, 88, 89, 90]⟩
theorem all_at (r : Nat) (h : r < 36) : (allB[r]'(by show r < 36; exact h)).toNat = (dig r).toNat := by
  have : ∀ k : Fin 36, (allB[k.1]'(by show k.1 < 36; exact k.2)).toNat = (dig k.1).toNat := by decide
  exact this ⟨r, h⟩
set_option maxRecDepth 100000 in
theorem put_walk (v b : Int) (h : 2 ≤ b) (h' : b ≤ 36) (h1 : -9223372036854775808 ≤ v) (h2 : v ≤ 9223372036854775807) (w : World) :
    Calls Tryz.prog 135 #[.int .i64 v, .int .i64 b] w fun e w' => e = .returned (.string ⟨(putV v b).toArray⟩) ∧ Below w.heap.size w w' := by
  go_enter Tryz.func135, Tryz.ntmps135
  go_wp2_with fail
  refine (right_yes b h h' _).mono ?_
  rintro e w' ⟨rfl, rfl⟩
  obtain ⟨i0, hi0, hz0, hz1, hz2⟩ := info_parts infoB
  have HV : Hid (putV v b = (if v < 0 then [45] else []) ++ putL b.toNat v.natAbs) := by
    show _ = _
    unfold putV
    rw [if_neg (by omega)]
  by_cases hv : v < 0
  · have e1 : IntKind.u64.wrap (-IntKind.u64.wrap v) = (v.natAbs : Int) := by rw [IntKind.wrap_u64, IntKind.wrap_u64]; omega
    have E1 := Lib.hid e1
    clear e1
    go_wp2_with fail
    rw [E1.out]
    obtain ⟨m0, hm0⟩ : ∃ m0, v.natAbs = m0 := ⟨_, rfl⟩
    rw [hm0]
    have HV2 := HV.out
    rw [if_pos hv, hm0] at HV2
    have HV2 := Lib.hid HV2
    have Hn0 : Hid (m0 < 18446744073709551616) := by show _ < _; omega
    clear hm0 E1 HV
    generalize IntKind.u64.wrap v = u
    obtain ⟨B, rfl⟩ : ∃ B : Nat, b = B := ⟨b.toNat, by omega⟩
    rw [Int.toNat_natCast] at HV2
    go_loopg [5, 6] (m0 + 1) (fun g vm va wr => ∃ (m : Nat) (acc : List UInt8), g = m + (if acc = [] then 1 else 0) ∧ vm = .int .u64 m ∧ Hid (fin B m acc = putL B m0) ∧ Hid ((m : Int) < 18446744073709551616) ∧
      Hid (wr.ownsRow w.heap.size 5 1 va acc.length (bcells acc)) ∧ Hid (Below w.heap.size w wr))
    case atStart => exact ⟨m0, [], rfl, rfl, by show fin _ _ _ = _; simp [fin], by have := Hn0.out; show _ < _; omega, World.ownsRow_nil _ _ _ _, Below.refl _ _⟩
    case round =>
      obtain ⟨m, acc, hg, rfl, HF, HM, HO, HB⟩ := hrel
      have Hg := Lib.hid hg
      clear hg
      obtain ⟨A, c, rfl⟩ := own_slice HO.out
      by_cases hgo : 0 < m ∨ acc = []
      · have hlt36 : m % B < 36 := by have := Nat.mod_lt m (show 0 < B by omega); omega
        have hdm : m / B ≤ m := Nat.div_le_self m B
        have hr0 : m = 0 → m % B = 0 := fun h => by rw [h]; exact Nat.zero_mod _
        have hd0 : m = 0 → m / B = 0 := fun h => by rw [h]; exact Nat.zero_div _
        have hdl : 0 < m → m / B < m := fun hm => Nat.div_lt_self hm (by omega)
        have eB : IntKind.u64.wrap (B : Int) = (B : Int) := IntWalk.u64_in _ (by omega)
        have eM : ((m : Int).tmod (B : Int)) = ((m % B : Nat) : Int) := by rw [Int.tmod_eq_emod_of_nonneg (by omega)]; rfl
        have eD : ((m : Int).tdiv (B : Int)) = ((m / B : Nat) : Int) := by rw [Int.tdiv_eq_ediv_of_nonneg (by omega)]; rfl
        have HS := Lib.hid (fin_step B m acc (by omega) hgo)
        generalize m / B = d at *
        generalize m % B = r at *
        have eW1 : IntKind.u64.wrap (r : Int) = (r : Int) := IntWalk.u64_in _ (by omega)
        have eW2 : IntKind.u64.wrap (d : Int) = (d : Int) := IntWalk.u64_in _ (by have := HM.out; omega)
        have hdl := Lib.hid hdl
        have hr0 := Lib.hid hr0
        have hd0 := Lib.hid hd0
        by_cases hm : 0 < m
        · have hm' : 0 < (m : Int) := by omega
          clear hgo
          go_upto_region 8 with fail
          iterate 15 go_step
          rw [dif_pos (show (r : Int) < 36 by omega)]
          have hat := all_at r hlt36
          unfold allB at hat
          rw [hat]
          clear hat eM eW1
          simp only [Result.andThen]
          rw [Oper.upon_value]
          have HR := Reads.of_own HO.out
          have HL : Hid (acc.length ≤ 64) := put_len HF.out (by omega) (by have := Hn0.out; omega)
          generalize dig r = x at *
          have hl64 := HL.out
          go_wp2_with (at_builtin; refine wpList_append_any _ rfl _ _ 115 rfl w.heap.size 5 i0 (.int .u8 0) 1 1 Tryz.underlying115 hi0 hz0 hz1 hz2 rfl (by decide) _ 1 [.int .u8 (x.toNat : Int)] rfl (World.ownsRow_lit _ _ 1 HB.out.size (by decide) rfl) wr.heap.size A acc.length c (bcells acc) rfl (HR.alloc (Nat.le_refl _) _) (bc_all acc) (by unfold maxLen; omega) (by omega) (by have := HB.out.size; simp; omega) ?_)
          intro v' w2 ho2 hg2 _
          have HO2 : Hid (w2.ownsRow w.heap.size 5 1 v' (x :: acc).length (bcells (x :: acc))) := by
            have e : (x :: acc).length = 1 + acc.length := by simp; try omega
            rw [e]
            exact ho2
          have HB2 : Hid (Below w.heap.size w w2) := (HB.out.alloc HB.out.size _).grown hg2 (by have := HB.out.size; simp; omega) (fun k hk => by
            simp [Value.ownBlock] at hk
            have := HB.out.size
            omega)
          rw [HF.out] at HS
          clear ho2 hg2 HR HO HB HF
          go_wp2_with fail
          go_roundg d
          case rel => exact ⟨d, x :: acc, by simp, rfl, HS, by have := HM.out; show _ < _; omega, HO2, HB2⟩
          case measure => have := Hg.out; have := hdl.out; split at * <;> omega
        · have hm0 : m = 0 := by omega
          obtain rfl : acc = [] := by rcases hgo with h | h; exact absurd h hm; exact h
          subst hm0
          obtain rfl : r = 0 := hr0.out rfl
          obtain rfl : d = 0 := hd0.out rfl
          clear hgo hm eM
          go_upto_region 8 with fail
          iterate 15 go_step
          have hat := all_at 0 hlt36
          unfold allB at hat
          rw [hat]
          clear hat
          have HR := Reads.of_own HO.out
          have HL : Hid (([] : List UInt8).length ≤ 64) := put_len HF.out (by omega) (by have := Hn0.out; omega)
          generalize dig 0 = x at *
          have hl64 := HL.out
          go_wp2_with (at_builtin; refine wpList_append_any _ rfl _ _ 115 rfl w.heap.size 5 i0 (.int .u8 0) 1 1 Tryz.underlying115 hi0 hz0 hz1 hz2 rfl (by decide) _ 1 [.int .u8 (x.toNat : Int)] rfl (World.ownsRow_lit _ _ 1 HB.out.size (by decide) rfl) wr.heap.size A ([] : List UInt8).length c (bcells ([] : List UInt8)) rfl (HR.alloc (Nat.le_refl _) _) (bc_all ([] : List UInt8)) (by unfold maxLen; omega) (by omega) (by have := HB.out.size; simp; omega) ?_)
          intro v' w2 ho2 hg2 _
          have HO2 : Hid (w2.ownsRow w.heap.size 5 1 v' (x :: ([] : List UInt8)).length (bcells (x :: ([] : List UInt8)))) := by
            have e : (x :: ([] : List UInt8)).length = 1 + ([] : List UInt8).length := by simp; try omega
            rw [e]
            exact ho2
          have HB2 : Hid (Below w.heap.size w w2) := (HB.out.alloc HB.out.size _).grown hg2 (by have := HB.out.size; simp; omega) (fun k hk => by
            simp [Value.ownBlock] at hk
            have := HB.out.size
            omega)
          rw [HF.out] at HS
          clear ho2 hg2 HR HO HB HF
          go_wp2_with fail
          go_roundg 0
          case rel => exact ⟨0, x :: ([] : List UInt8), by simp, rfl, HS, by have := HM.out; show _ < _; omega, HO2, HB2⟩
          case measure => have := Hg.out; have := hdl.out; simp at *; omega
      · have hm0 : m = 0 := by omega
        have hne : acc ≠ [] := fun h => hgo (Or.inr h)
        subst hm0
        have hpos : 0 < acc.length := List.length_pos_iff.2 hne
        have q1 : ((acc.length : Int) == 0) = false := by rw [beq_eq_false_iff_ne]; omega
        have q2 : decide (0 < acc.length) = true := by simpa using hpos
        have hl64 : acc.length ≤ 64 := put_len HF.out (by omega) Hn0.out
        have hF := HF.out
        unfold fin at hF
        rw [if_pos ⟨rfl, hne⟩] at hF
        have HC := conv_bytes HO.out
        have HW : Hid (putV v B = [45] ++ acc) := by
          show _ = _
          rw [hF]
          exact HV2.out
        clear hgo hne HV2 HF hF
        go_wp2_with fail
        go_ret
        exact ⟨by rw [HW.out]; rfl, HB.out⟩
  · obtain ⟨m0, rfl⟩ : ∃ m0 : Nat, v = m0 := ⟨v.toNat, by omega⟩
    have HV2 := HV.out
    rw [if_neg hv, Int.natAbs_natCast] at HV2
    have hd0 : decide ((m0 : Int) < 0) = false := by simp
    go_wp2_with fail
    have HV2 := Lib.hid HV2
    have Hn0 : Hid (m0 < 18446744073709551616) := by show _ < _; omega
    clear HV
    obtain ⟨B, rfl⟩ : ∃ B : Nat, b = B := ⟨b.toNat, by omega⟩
    rw [Int.toNat_natCast] at HV2
    go_loopg [5, 6] (m0 + 1) (fun g vm va wr => ∃ (m : Nat) (acc : List UInt8), g = m + (if acc = [] then 1 else 0) ∧ vm = .int .u64 m ∧ Hid (fin B m acc = putL B m0) ∧ Hid ((m : Int) < 18446744073709551616) ∧
      Hid (wr.ownsRow w.heap.size 5 1 va acc.length (bcells acc)) ∧ Hid (Below w.heap.size w wr))
    case atStart => exact ⟨m0, [], rfl, rfl, by show fin _ _ _ = _; simp [fin], by have := Hn0.out; show _ < _; omega, World.ownsRow_nil _ _ _ _, Below.refl _ _⟩
    case round =>
      obtain ⟨m, acc, hg, rfl, HF, HM, HO, HB⟩ := hrel
      have Hg := Lib.hid hg
      clear hg
      obtain ⟨A, c, rfl⟩ := own_slice HO.out
      by_cases hgo : 0 < m ∨ acc = []
      · have hlt36 : m % B < 36 := by have := Nat.mod_lt m (show 0 < B by omega); omega
        have hdm : m / B ≤ m := Nat.div_le_self m B
        have hr0 : m = 0 → m % B = 0 := fun h => by rw [h]; exact Nat.zero_mod _
        have hd0 : m = 0 → m / B = 0 := fun h => by rw [h]; exact Nat.zero_div _
        have hdl : 0 < m → m / B < m := fun hm => Nat.div_lt_self hm (by omega)
        have eB : IntKind.u64.wrap (B : Int) = (B : Int) := IntWalk.u64_in _ (by omega)
        have eM : ((m : Int).tmod (B : Int)) = ((m % B : Nat) : Int) := by rw [Int.tmod_eq_emod_of_nonneg (by omega)]; rfl
        have eD : ((m : Int).tdiv (B : Int)) = ((m / B : Nat) : Int) := by rw [Int.tdiv_eq_ediv_of_nonneg (by omega)]; rfl
        have HS := Lib.hid (fin_step B m acc (by omega) hgo)
        generalize m / B = d at *
        generalize m % B = r at *
        have eW1 : IntKind.u64.wrap (r : Int) = (r : Int) := IntWalk.u64_in _ (by omega)
        have eW2 : IntKind.u64.wrap (d : Int) = (d : Int) := IntWalk.u64_in _ (by have := HM.out; omega)
        have hdl := Lib.hid hdl
        have hr0 := Lib.hid hr0
        have hd0 := Lib.hid hd0
        by_cases hm : 0 < m
        · have hm' : 0 < (m : Int) := by omega
          clear hgo
          go_upto_region 8 with fail
          iterate 15 go_step
          rw [dif_pos (show (r : Int) < 36 by omega)]
          have hat := all_at r hlt36
          unfold allB at hat
          rw [hat]
          clear hat eM eW1
          simp only [Result.andThen]
          rw [Oper.upon_value]
          have HR := Reads.of_own HO.out
          have HL : Hid (acc.length ≤ 64) := put_len HF.out (by omega) (by have := Hn0.out; omega)
          generalize dig r = x at *
          have hl64 := HL.out
          go_wp2_with (at_builtin; refine wpList_append_any _ rfl _ _ 115 rfl w.heap.size 5 i0 (.int .u8 0) 1 1 Tryz.underlying115 hi0 hz0 hz1 hz2 rfl (by decide) _ 1 [.int .u8 (x.toNat : Int)] rfl (World.ownsRow_lit _ _ 1 HB.out.size (by decide) rfl) wr.heap.size A acc.length c (bcells acc) rfl (HR.alloc (Nat.le_refl _) _) (bc_all acc) (by unfold maxLen; omega) (by omega) (by have := HB.out.size; simp; omega) ?_)
          intro v' w2 ho2 hg2 _
          have HO2 : Hid (w2.ownsRow w.heap.size 5 1 v' (x :: acc).length (bcells (x :: acc))) := by
            have e : (x :: acc).length = 1 + acc.length := by simp; try omega
            rw [e]
            exact ho2
          have HB2 : Hid (Below w.heap.size w w2) := (HB.out.alloc HB.out.size _).grown hg2 (by have := HB.out.size; simp; omega) (fun k hk => by
            simp [Value.ownBlock] at hk
            have := HB.out.size
            omega)
          rw [HF.out] at HS
          clear ho2 hg2 HR HO HB HF
          go_wp2_with fail
          go_roundg d
          case rel => exact ⟨d, x :: acc, by simp, rfl, HS, by have := HM.out; show _ < _; omega, HO2, HB2⟩
          case measure => have := Hg.out; have := hdl.out; split at * <;> omega
        · have hm0 : m = 0 := by omega
          obtain rfl : acc = [] := by rcases hgo with h | h; exact absurd h hm; exact h
          subst hm0
          obtain rfl : r = 0 := hr0.out rfl
          obtain rfl : d = 0 := hd0.out rfl
          clear hgo hm eM
          go_upto_region 8 with fail
          iterate 15 go_step
          have hat := all_at 0 hlt36
          unfold allB at hat
          rw [hat]
          clear hat
          have HR := Reads.of_own HO.out
          have HL : Hid (([] : List UInt8).length ≤ 64) := put_len HF.out (by omega) (by have := Hn0.out; omega)
          generalize dig 0 = x at *
          have hl64 := HL.out
          go_wp2_with (at_builtin; refine wpList_append_any _ rfl _ _ 115 rfl w.heap.size 5 i0 (.int .u8 0) 1 1 Tryz.underlying115 hi0 hz0 hz1 hz2 rfl (by decide) _ 1 [.int .u8 (x.toNat : Int)] rfl (World.ownsRow_lit _ _ 1 HB.out.size (by decide) rfl) wr.heap.size A ([] : List UInt8).length c (bcells ([] : List UInt8)) rfl (HR.alloc (Nat.le_refl _) _) (bc_all ([] : List UInt8)) (by unfold maxLen; omega) (by omega) (by have := HB.out.size; simp; omega) ?_)
          intro v' w2 ho2 hg2 _
          have HO2 : Hid (w2.ownsRow w.heap.size 5 1 v' (x :: ([] : List UInt8)).length (bcells (x :: ([] : List UInt8)))) := by
            have e : (x :: ([] : List UInt8)).length = 1 + ([] : List UInt8).length := by simp; try omega
            rw [e]
            exact ho2
          have HB2 : Hid (Below w.heap.size w w2) := (HB.out.alloc HB.out.size _).grown hg2 (by have := HB.out.size; simp; omega) (fun k hk => by
            simp [Value.ownBlock] at hk
            have := HB.out.size
            omega)
          rw [HF.out] at HS
          clear ho2 hg2 HR HO HB HF
          go_wp2_with fail
          go_roundg 0
          case rel => exact ⟨0, x :: ([] : List UInt8), by simp, rfl, HS, by have := HM.out; show _ < _; omega, HO2, HB2⟩
          case measure => have := Hg.out; have := hdl.out; simp at *; omega
      · have hm0 : m = 0 := by omega
        have hne : acc ≠ [] := fun h => hgo (Or.inr h)
        subst hm0
        have hpos : 0 < acc.length := List.length_pos_iff.2 hne
        have q1 : ((acc.length : Int) == 0) = false := by rw [beq_eq_false_iff_ne]; omega
        have q2 : decide (0 < acc.length) = true := by simpa using hpos
        have hl64 : acc.length ≤ 64 := put_len HF.out (by omega) Hn0.out
        have hF := HF.out
        unfold fin at hF
        rw [if_pos ⟨rfl, hne⟩] at hF
        have HC := conv_bytes HO.out
        have HW : Hid (putV m0 B = [] ++ acc) := by
          show _ = _
          rw [hF]
          exact HV2.out
        clear hgo hne HV2 HF hF
        go_wp2_with fail
        go_ret
        exact ⟨by rw [HW.out]; rfl, HB.out⟩
end Go.Proofs.YtompdfpjmdnhoabGreatDoor.Dg
namespace Go.Proofs.YtompdfpjmdnhoabGreatDoor.Dg
open Go.RowKit
theorem putV_bad (v b : Int) (h : b < 2 ∨ 36 < b) : putV v b = [] := by unfold putV; rw [if_pos h]
theorem put_any (v b : Int) (h1 : -9223372036854775808 ≤ v) (h2 : v ≤ 9223372036854775807) (w : World) :
    Calls Tryz.prog 135 #[.int .i64 v, .int .i64 b] w fun e w' => e = .returned (.string ⟨(putV v b).toArray⟩) ∧ Below w.heap.size w w' := by
  by_cases h : b < 2 ∨ 36 < b
  · have HV : Hid (putV v b = []) := putV_bad v b h
    go_enter Tryz.func135, Tryz.ntmps135
    go_wp2_with fail
    refine (right_no b h _).mono ?_
    rintro e w' ⟨rfl, rfl⟩
    go_wp2_with fail
    go_ret
    exact ⟨by rw [HV.out]; rfl, Below.refl _ _⟩
  · exact put_walk v b (by omega) (by omega) h1 h2 w
theorem all_ext (r : Nat) (h : r < 36) : allB.extract r (r + 1) = ⟨[dig r].toArray⟩ := by
  have : ∀ k : Fin 36, allB.extract k.1 (k.1 + 1) = ⟨[dig k.1].toArray⟩ := by decide +kernel
  exact this ⟨r, h⟩
theorem all_slice (r : Nat) (h : r < 36) (W : World) : (Instr.slice 9 (.string allB) (some (.int .i64 (r : Int))) (some (.int .i64 ((r : Int) + 1))) none).run Tryz.prog W = .ok (.string ⟨[dig r].toArray⟩) W := by
  rw [run_slice_string W 9 allB .i64 .i64 (r : Int) ((r : Int) + 1) Tryz.underlying9 (by omega) (by omega) (by show (r : Int) + 1 ≤ 36; omega)]
  rw [← all_ext r h]
  rfl
set_option maxRecDepth 100000 in
theorem rput_walk (v b : Int) (h : 2 ≤ b) (h' : b ≤ 36) (h1 : -9223372036854775808 ≤ v) (h2 : v ≤ 9223372036854775807) (w : World) :
    Calls Tryz.prog 16 #[.int .i64 v, .int .i64 b] w fun e w' => e = .returned (.string ⟨(putV v b).toArray⟩) ∧ w = w' := by
  go_enter Tryz.func16, Tryz.ntmps16
  have HV : Hid (putV v b = (if v < 0 then [45] else []) ++ putL b.toNat v.natAbs) := by
    show _ = _
    unfold putV
    rw [if_neg (by omega)]
  have hb1 : decide (b < 2) = false := by simpa using h
  have hb2 : decide (36 < b) = false := by simpa using h'
  by_cases hv : v < 0
  · have e1 : IntKind.u64.wrap (-IntKind.u64.wrap v) = (v.natAbs : Int) := by rw [IntKind.wrap_u64, IntKind.wrap_u64]; omega
    have E1 := Lib.hid e1
    clear e1
    go_wp2_with fail
    rw [E1.out]
    obtain ⟨m0, hm0⟩ : ∃ m0, v.natAbs = m0 := ⟨_, rfl⟩
    rw [hm0]
    have HV2 := HV.out
    rw [if_pos hv, hm0] at HV2
    have HV2 := Lib.hid HV2
    have Hn0 : Hid (m0 < 18446744073709551616) := by show _ < _; omega
    clear hm0 E1 HV
    generalize IntKind.u64.wrap v = u
    obtain ⟨B, rfl⟩ : ∃ B : Nat, b = B := ⟨b.toNat, by omega⟩
    rw [Int.toNat_natCast] at HV2
    go_loopg [5, 6] (m0 + 1) (fun g vm va wr => ∃ (m : Nat) (acc : List UInt8), g = m + (if acc = [] then 1 else 0) ∧ vm = .int .u64 m ∧ va = .string ⟨acc.toArray⟩ ∧ Hid (fin B m acc = putL B m0) ∧ Hid ((m : Int) < 18446744073709551616) ∧ wr = w)
    case atStart => exact ⟨m0, [], rfl, rfl, rfl, by show fin _ _ _ = _; simp [fin], by have := Hn0.out; show _ < _; omega, rfl⟩
    case round =>
      obtain ⟨m, acc, hg, rfl, rfl, HF, HM, rfl⟩ := hrel
      have Hg := Lib.hid hg
      clear hg
      by_cases hgo : 0 < m ∨ acc = []
      · have hlt36 : m % B < 36 := by have := Nat.mod_lt m (show 0 < B by omega); omega
        have hdm : m / B ≤ m := Nat.div_le_self m B
        have hr0 : m = 0 → m % B = 0 := fun h => by rw [h]; exact Nat.zero_mod _
        have hd0 : m = 0 → m / B = 0 := fun h => by rw [h]; exact Nat.zero_div _
        have hdl : 0 < m → m / B < m := fun hm => Nat.div_lt_self hm (by omega)
        have eB : IntKind.u64.wrap (B : Int) = (B : Int) := IntWalk.u64_in _ (by omega)
        have eM : ((m : Int).tmod (B : Int)) = ((m % B : Nat) : Int) := by rw [Int.tmod_eq_emod_of_nonneg (by omega)]; rfl
        have eD : ((m : Int).tdiv (B : Int)) = ((m / B : Nat) : Int) := by rw [Int.tdiv_eq_ediv_of_nonneg (by omega)]; rfl
        have HS := Lib.hid (fin_step B m acc (by omega) hgo)
        generalize m / B = d at *
        generalize m % B = r at *
        have eW1 : IntKind.u64.wrap (r : Int) = (r : Int) := IntWalk.u64_in _ (by omega)
        have eW2 : IntKind.u64.wrap (d : Int) = (d : Int) := IntWalk.u64_in _ (by have := HM.out; omega)
        have hdl := Lib.hid hdl
        have hr0 := Lib.hid hr0
        have hd0 := Lib.hid hd0
        by_cases hm : 0 < m
        · have hm' : 0 < (m : Int) := by omega
          clear hgo
          go_upto_region 9 with fail
          have hl64 : acc.length ≤ 64 := put_len HF.out (by omega) Hn0.out
          have hsl := fun W => all_slice r hlt36 W
          unfold allB at hsl
          go_wp2_with fail
          generalize dig r = x at *
          rw [HF.out] at HS
          go_roundg d
          case rel => exact ⟨d, x :: acc, by simp, rfl, rfl, HS, by have := HM.out; show _ < _; omega, rfl⟩
          case measure => have := Hg.out; have := hdl.out; split at * <;> omega
        · have hm0 : m = 0 := by omega
          obtain rfl : acc = [] := by rcases hgo with h | h; exact absurd h hm; exact h
          subst hm0
          obtain rfl : r = 0 := hr0.out rfl
          obtain rfl : d = 0 := hd0.out rfl
          clear hgo hm eM
          go_upto_region 9 with fail
          have hsl := fun W => all_slice 0 hlt36 W
          unfold allB at hsl
          go_wp2_with fail
          rw [HF.out] at HS
          go_roundg 0
          case rel => exact ⟨0, [dig 0], by simp, rfl, rfl, HS, by have := HM.out; show _ < _; omega, rfl⟩
          case measure => have := Hg.out; simp at this; omega
      · have hm0 : m = 0 := by omega
        have hne : acc ≠ [] := fun h => hgo (Or.inr h)
        subst hm0
        have q1 : (acc == []) = false := by simpa using hne
        have q2 : acc.isEmpty = false := by simpa using hne
        have hl64 : acc.length ≤ 64 := put_len HF.out (by omega) Hn0.out
        have hF := HF.out
        unfold fin at hF
        rw [if_pos ⟨rfl, hne⟩] at hF
        have HW : Hid (putV v B = [45] ++ acc) := by
          show _ = _
          rw [hF]
          exact HV2.out
        clear hgo HV2 HF hF
        go_wp2_with fail
        go_ret
        exact ⟨by rw [HW.out]; rfl, rfl⟩
  · obtain ⟨m0, rfl⟩ : ∃ m0 : Nat, v = m0 := ⟨v.toNat, by omega⟩
    have HV2 := HV.out
    rw [if_neg hv, Int.natAbs_natCast] at HV2
    have hd0 : decide ((m0 : Int) < 0) = false := by simp
    go_wp2_with fail
    have HV2 := Lib.hid HV2
    have Hn0 : Hid (m0 < 18446744073709551616) := by show _ < _; omega
    clear HV
    obtain ⟨B, rfl⟩ : ∃ B : Nat, b = B := ⟨b.toNat, by omega⟩
    rw [Int.toNat_natCast] at HV2
    go_loopg [5, 6] (m0 + 1) (fun g vm va wr => ∃ (m : Nat) (acc : List UInt8), g = m + (if acc = [] then 1 else 0) ∧ vm = .int .u64 m ∧ va = .string ⟨acc.toArray⟩ ∧ Hid (fin B m acc = putL B m0) ∧ Hid ((m : Int) < 18446744073709551616) ∧ wr = w)
    case atStart => exact ⟨m0, [], rfl, rfl, rfl, by show fin _ _ _ = _; simp [fin], by have := Hn0.out; show _ < _; omega, rfl⟩
    case round =>
      obtain ⟨m, acc, hg, rfl, rfl, HF, HM, rfl⟩ := hrel
      have Hg := Lib.hid hg
      clear hg
      by_cases hgo : 0 < m ∨ acc = []
      · have hlt36 : m % B < 36 := by have := Nat.mod_lt m (show 0 < B by omega); omega
        have hdm : m / B ≤ m := Nat.div_le_self m B
        have hr0 : m = 0 → m % B = 0 := fun h => by rw [h]; exact Nat.zero_mod _
        have hd0 : m = 0 → m / B = 0 := fun h => by rw [h]; exact Nat.zero_div _
        have hdl : 0 < m → m / B < m := fun hm => Nat.div_lt_self hm (by omega)
        have eB : IntKind.u64.wrap (B : Int) = (B : Int) := IntWalk.u64_in _ (by omega)
        have eM : ((m : Int).tmod (B : Int)) = ((m % B : Nat) : Int) := by rw [Int.tmod_eq_emod_of_nonneg (by omega)]; rfl
        have eD : ((m : Int).tdiv (B : Int)) = ((m / B : Nat) : Int) := by rw [Int.tdiv_eq_ediv_of_nonneg (by omega)]; rfl
        have HS := Lib.hid (fin_step B m acc (by omega) hgo)
        generalize m / B = d at *
        generalize m % B = r at *
        have eW1 : IntKind.u64.wrap (r : Int) = (r : Int) := IntWalk.u64_in _ (by omega)
        have eW2 : IntKind.u64.wrap (d : Int) = (d : Int) := IntWalk.u64_in _ (by have := HM.out; omega)
        have hdl := Lib.hid hdl
        have hr0 := Lib.hid hr0
        have hd0 := Lib.hid hd0
        by_cases hm : 0 < m
        · have hm' : 0 < (m : Int) := by omega
          clear hgo
          go_upto_region 9 with fail
          have hl64 : acc.length ≤ 64 := put_len HF.out (by omega) Hn0.out
          have hsl := fun W => all_slice r hlt36 W
          unfold allB at hsl
          go_wp2_with fail
          generalize dig r = x at *
          rw [HF.out] at HS
          go_roundg d
          case rel => exact ⟨d, x :: acc, by simp, rfl, rfl, HS, by have := HM.out; show _ < _; omega, rfl⟩
          case measure => have := Hg.out; have := hdl.out; split at * <;> omega
        · have hm0 : m = 0 := by omega
          obtain rfl : acc = [] := by rcases hgo with h | h; exact absurd h hm; exact h
          subst hm0
          obtain rfl : r = 0 := hr0.out rfl
          obtain rfl : d = 0 := hd0.out rfl
          clear hgo hm eM
          go_upto_region 9 with fail
          have hsl := fun W => all_slice 0 hlt36 W
          unfold allB at hsl
          go_wp2_with fail
          rw [HF.out] at HS
          go_roundg 0
          case rel => exact ⟨0, [dig 0], by simp, rfl, rfl, HS, by have := HM.out; show _ < _; omega, rfl⟩
          case measure => have := Hg.out; simp at this; omega
      · have hm0 : m = 0 := by omega
        have hne : acc ≠ [] := fun h => hgo (Or.inr h)
        subst hm0
        have q1 : (acc == []) = false := by simpa using hne
        have q2 : acc.isEmpty = false := by simpa using hne
        have hl64 : acc.length ≤ 64 := put_len HF.out (by omega) Hn0.out
        have hF := HF.out
        unfold fin at hF
        rw [if_pos ⟨rfl, hne⟩] at hF
        have HW : Hid (putV m0 B = [] ++ acc) := by
          show _ = _
          rw [hF]
          exact HV2.out
        clear hgo HV2 HF hF
        go_wp2_with fail
        go_ret
        exact ⟨by rw [HW.out]; rfl, rfl⟩
theorem rput_any (v b : Int) (h1 : -9223372036854775808 ≤ v) (h2 : v ≤ 9223372036854775807) (w : World) :
    Calls Tryz.prog 16 #[.int .i64 v, .int .i64 b] w fun e w' => e = .returned (.string ⟨(putV v b).toArray⟩) ∧ w = w' := by
  by_cases h : b < 2 ∨ 36 < b
  · have HV : Hid (putV v b = []) := putV_bad v b h
    by_cases hb : b < 2
    · go_enter Tryz.func16, Tryz.ntmps16
      go_wp2_with fail
      go_ret
      exact ⟨by rw [HV.out]; rfl, rfl⟩
    · have hb' : 36 < b := by omega
      clear h
      go_enter Tryz.func16, Tryz.ntmps16
      go_wp2_with fail
      go_ret
      exact ⟨by rw [HV.out]; rfl, rfl⟩
  · exact rput_walk v b (by omega) (by omega) h1 h2 w
end Go.Proofs.YtompdfpjmdnhoabGreatDoor.Dg
namespace Go.Proofs.YtompdfpjmdnhoabGreatDoor.Dg
open Go.RowKit
theorem b8 (x k : UInt8) (n : Int) (hk : (k.toNat : Int) = n) : ((x.toNat : Int) == n) = (x == k) := by
  subst hk
  rw [Bool.eq_iff_iff]
  simp only [beq_iff_eq]
  constructor
  · intro h
    exact UInt8.toNat_inj.1 (by omega)
  · intro h; rw [h]
theorem len3 (l : List UInt8) (h : l.length = 3) : ∃ x0 x1 x2, l = [x0, x1, x2] := by
  match l, h with
  | [x0, x1, x2], _ => exact ⟨x0, x1, x2, rfl⟩
def signed : List UInt8 → Bool
  | [] => false
  | c :: _ => c == 35 || c == 36 || c == 37
theorem signS_no (c : UInt8) (r : List UInt8) (b : Int) (h35 : c ≠ 35) (h36 : c ≠ 36) (h37 : c ≠ 37) : signS (c :: r) b = (c :: r, b) := by
  simp [signS, h35, h36, h37]
def outOf (neg : Bool) : Option Int → Int × Bool
  | none => (0, false)
  | some v => (if neg then wrap64 (-v) else v, true)
theorem numV_long (u : List UInt8) (neg : Bool) (b : Int) (h : 70 < u.length) : numV u neg b = (0, false) := by unfold numV; rw [if_pos (Or.inr h)]
theorem numV_loop (u : List UInt8) (neg : Bool) (b : Int) (h0 : u ≠ []) (h1 : ¬ 70 < u.length) : numV u neg b = outOf neg (foldG b u 0) := by
  unfold numV
  rw [if_neg (by rintro (h | h); exact h0 h; exact h1 h)]
  cases foldG b u 0 <;> rfl
theorem ext_tail (c : UInt8) (r : List UInt8) : (⟨(c :: r).toArray⟩ : ByteArray).extract 1 (⟨(c :: r).toArray⟩ : ByteArray).size = ⟨r.toArray⟩ := by
  apply ByteArray.ext
  rw [ByteArray.data_extract]
  apply Array.ext'
  simp [ByteArray.size]
theorem slice_tail (c : UInt8) (r : List UInt8) (hr : r.length ≤ 100000) (W : World) : (Instr.slice 9 (.string ⟨(c :: r).toArray⟩) (some (.int .i64 1)) none none).run Tryz.prog W = .ok (.string ⟨r.toArray⟩) W := by
  rw [run_slice_string_l W 9 ⟨(c :: r).toArray⟩ Tryz.underlying9 .i64 1 (by omega) (by show (1 : Int) ≤ (((c :: r).toArray.size : Nat) : Int); simp; omega)]
  rw [show ((1 : Int).toNat) = 1 from rfl, ext_tail]
end Go.Proofs.YtompdfpjmdnhoabGreatDoor.Dg
