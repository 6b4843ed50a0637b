/-
  Chapter 3 (digits): the contracts of the document's Put and digit; Put at every base.
-/
import Derived.Test.YtcfkhbkhejaegaaDoorDgB
namespace Go.Proofs.YtcfkhbkhejaegaaDoor.Dg
open Go.RowKit

theorem putV_bad (v b : Int) (h : b < 2 ∨ 36 < b) : putV v b = [] := by unfold putV; rw [if_pos h]

theorem put_any (v b : Int) (h1 : -9223372036854775808 ≤ v) (h2 : v ≤ 9223372036854775807) (w : World) :
    Calls Tryd.prog 15 #[.int .i64 v, .int .i64 b] w fun e w' => e = .returned (.string ⟨(putV v b).toArray⟩) ∧ Below w.heap.size w w' := by
  by_cases h : b < 2 ∨ 36 < b
  · have HV : Hid (putV v b = []) := putV_bad v b h
    go_enter Tryd.func15, Tryd.ntmps15
    go_wp2_with fail
    refine (right_no b h _).mono ?_
    rintro e w' ⟨rfl, rfl⟩
    go_wp2_with fail
    go_ret
    exact ⟨by rw [HV.out]; rfl, Below.refl _ _⟩
  · exact put_walk v b (by omega) (by omega) h1 h2 w

theorem all_ext (r : Nat) (h : r < 36) : allB.extract r (r + 1) = ⟨[dig r].toArray⟩ := by
  have : ∀ k : Fin 36, allB.extract k.1 (k.1 + 1) = ⟨[dig k.1].toArray⟩ := by decide +kernel
  exact this ⟨r, h⟩
theorem all_slice (r : Nat) (h : r < 36) (W : World) : (Instr.slice 9 (.string allB) (some (.int .i64 (r : Int))) (some (.int .i64 ((r : Int) + 1))) none).run Tryd.prog W = .ok (.string ⟨[dig r].toArray⟩) W := by
  rw [run_slice_string W 9 allB .i64 .i64 (r : Int) ((r : Int) + 1) Tryd.underlying9 (by omega) (by omega) (by show (r : Int) + 1 ≤ 36; omega)]
  rw [← all_ext r h]
  rfl

set_option maxRecDepth 100000 in
theorem rput_walk (v b : Int) (h : 2 ≤ b) (h' : b ≤ 36) (h1 : -9223372036854775808 ≤ v) (h2 : v ≤ 9223372036854775807) (w : World) :
    Calls Tryd.prog 16 #[.int .i64 v, .int .i64 b] w fun e w' => e = .returned (.string ⟨(putV v b).toArray⟩) ∧ w = w' := by
  go_enter Tryd.func16, Tryd.ntmps16
  have HV : Hid (putV v b = (if v < 0 then [45] else []) ++ putL b.toNat v.natAbs) := by
    show _ = _
    unfold putV
    rw [if_neg (by omega)]
  have hb1 : decide (b < 2) = false := by simpa using h
  have hb2 : decide (36 < b) = false := by simpa using h'
  by_cases hv : v < 0
  · have e1 : IntKind.u64.wrap (-IntKind.u64.wrap v) = (v.natAbs : Int) := by rw [IntKind.wrap_u64, IntKind.wrap_u64]; omega
    have E1 := Lib.hid e1
    clear e1
    go_wp2_with fail
    rw [E1.out]
    obtain ⟨m0, hm0⟩ : ∃ m0, v.natAbs = m0 := ⟨_, rfl⟩
    rw [hm0]
    have HV2 := HV.out
    rw [if_pos hv, hm0] at HV2
    have HV2 := Lib.hid HV2
    have Hn0 : Hid (m0 < 18446744073709551616) := by show _ < _; omega
    clear hm0 E1 HV
    generalize IntKind.u64.wrap v = u
    obtain ⟨B, rfl⟩ : ∃ B : Nat, b = B := ⟨b.toNat, by omega⟩
    rw [Int.toNat_natCast] at HV2
    go_loopg [5, 6] (m0 + 1) (fun g vm va wr => ∃ (m : Nat) (acc : List UInt8), g = m + (if acc = [] then 1 else 0) ∧ vm = .int .u64 m ∧ va = .string ⟨acc.toArray⟩ ∧ Hid (fin B m acc = putL B m0) ∧ Hid ((m : Int) < 18446744073709551616) ∧ wr = w)
    case atStart => exact ⟨m0, [], rfl, rfl, rfl, by show fin _ _ _ = _; simp [fin], by have := Hn0.out; show _ < _; omega, rfl⟩
    case round =>
      obtain ⟨m, acc, hg, rfl, rfl, HF, HM, rfl⟩ := hrel
      have Hg := Lib.hid hg
      clear hg
      by_cases hgo : 0 < m ∨ acc = []
      · have hlt36 : m % B < 36 := by have := Nat.mod_lt m (show 0 < B by omega); omega
        have hdm : m / B ≤ m := Nat.div_le_self m B
        have hr0 : m = 0 → m % B = 0 := fun h => by rw [h]; exact Nat.zero_mod _
        have hd0 : m = 0 → m / B = 0 := fun h => by rw [h]; exact Nat.zero_div _
        have hdl : 0 < m → m / B < m := fun hm => Nat.div_lt_self hm (by omega)
        have eB : IntKind.u64.wrap (B : Int) = (B : Int) := IntWalk.u64_in _ (by omega)
        have eM : ((m : Int).tmod (B : Int)) = ((m % B : Nat) : Int) := by rw [Int.tmod_eq_emod_of_nonneg (by omega)]; rfl
        have eD : ((m : Int).tdiv (B : Int)) = ((m / B : Nat) : Int) := by rw [Int.tdiv_eq_ediv_of_nonneg (by omega)]; rfl
        have HS := Lib.hid (fin_step B m acc (by omega) hgo)
        generalize m / B = d at *
        generalize m % B = r at *
        have eW1 : IntKind.u64.wrap (r : Int) = (r : Int) := IntWalk.u64_in _ (by omega)
        have eW2 : IntKind.u64.wrap (d : Int) = (d : Int) := IntWalk.u64_in _ (by have := HM.out; omega)
        have hdl := Lib.hid hdl
        have hr0 := Lib.hid hr0
        have hd0 := Lib.hid hd0
        by_cases hm : 0 < m
        · have hm' : 0 < (m : Int) := by omega
          clear hgo
          go_upto_region 9 with fail
          have hl64 : acc.length ≤ 64 := put_len HF.out (by omega) Hn0.out
          have hsl := fun W => all_slice r hlt36 W
          unfold allB at hsl
          go_wp2_with fail
          generalize dig r = x at *
          rw [HF.out] at HS
          go_roundg d
          case rel => exact ⟨d, x :: acc, by simp, rfl, rfl, HS, by have := HM.out; show _ < _; omega, rfl⟩
          case measure => have := Hg.out; have := hdl.out; split at * <;> omega
        · have hm0 : m = 0 := by omega
          obtain rfl : acc = [] := by rcases hgo with h | h; exact absurd h hm; exact h
          subst hm0
          obtain rfl : r = 0 := hr0.out rfl
          obtain rfl : d = 0 := hd0.out rfl
          clear hgo hm eM
          go_upto_region 9 with fail
          have hsl := fun W => all_slice 0 hlt36 W
          unfold allB at hsl
          go_wp2_with fail
          rw [HF.out] at HS
          go_roundg 0
          case rel => exact ⟨0, [dig 0], by simp, rfl, rfl, HS, by have := HM.out; show _ < _; omega, rfl⟩
          case measure => have := Hg.out; simp at this; omega
      · have hm0 : m = 0 := by omega
        have hne : acc ≠ [] := fun h => hgo (Or.inr h)
        subst hm0
        have q1 : (acc == []) = false := by simpa using hne
        have q2 : acc.isEmpty = false := by simpa using hne
        have hl64 : acc.length ≤ 64 := put_len HF.out (by omega) Hn0.out
        have hF := HF.out
        unfold fin at hF
        rw [if_pos ⟨rfl, hne⟩] at hF
        have HW : Hid (putV v B = [45] ++ acc) := by
          show _ = _
          rw [hF]
          exact HV2.out
        clear hgo HV2 HF hF
        go_wp2_with fail
        go_ret
        exact ⟨by rw [HW.out]; rfl, rfl⟩
  · obtain ⟨m0, rfl⟩ : ∃ m0 : Nat, v = m0 := ⟨v.toNat, by omega⟩
    have HV2 := HV.out
    rw [if_neg hv, Int.natAbs_natCast] at HV2
    have hd0 : decide ((m0 : Int) < 0) = false := by simp
    go_wp2_with fail
    have HV2 := Lib.hid HV2
    have Hn0 : Hid (m0 < 18446744073709551616) := by show _ < _; omega
    clear HV
    obtain ⟨B, rfl⟩ : ∃ B : Nat, b = B := ⟨b.toNat, by omega⟩
    rw [Int.toNat_natCast] at HV2
    go_loopg [5, 6] (m0 + 1) (fun g vm va wr => ∃ (m : Nat) (acc : List UInt8), g = m + (if acc = [] then 1 else 0) ∧ vm = .int .u64 m ∧ va = .string ⟨acc.toArray⟩ ∧ Hid (fin B m acc = putL B m0) ∧ Hid ((m : Int) < 18446744073709551616) ∧ wr = w)
    case atStart => exact ⟨m0, [], rfl, rfl, rfl, by show fin _ _ _ = _; simp [fin], by have := Hn0.out; show _ < _; omega, rfl⟩
    case round =>
      obtain ⟨m, acc, hg, rfl, rfl, HF, HM, rfl⟩ := hrel
      have Hg := Lib.hid hg
      clear hg
      by_cases hgo : 0 < m ∨ acc = []
      · have hlt36 : m % B < 36 := by have := Nat.mod_lt m (show 0 < B by omega); omega
        have hdm : m / B ≤ m := Nat.div_le_self m B
        have hr0 : m = 0 → m % B = 0 := fun h => by rw [h]; exact Nat.zero_mod _
        have hd0 : m = 0 → m / B = 0 := fun h => by rw [h]; exact Nat.zero_div _
        have hdl : 0 < m → m / B < m := fun hm => Nat.div_lt_self hm (by omega)
        have eB : IntKind.u64.wrap (B : Int) = (B : Int) := IntWalk.u64_in _ (by omega)
        have eM : ((m : Int).tmod (B : Int)) = ((m % B : Nat) : Int) := by rw [Int.tmod_eq_emod_of_nonneg (by omega)]; rfl
        have eD : ((m : Int).tdiv (B : Int)) = ((m / B : Nat) : Int) := by rw [Int.tdiv_eq_ediv_of_nonneg (by omega)]; rfl
        have HS := Lib.hid (fin_step B m acc (by omega) hgo)
        generalize m / B = d at *
        generalize m % B = r at *
        have eW1 : IntKind.u64.wrap (r : Int) = (r : Int) := IntWalk.u64_in _ (by omega)
        have eW2 : IntKind.u64.wrap (d : Int) = (d : Int) := IntWalk.u64_in _ (by have := HM.out; omega)
        have hdl := Lib.hid hdl
        have hr0 := Lib.hid hr0
        have hd0 := Lib.hid hd0
        by_cases hm : 0 < m
        · have hm' : 0 < (m : Int) := by omega
          clear hgo
          go_upto_region 9 with fail
          have hl64 : acc.length ≤ 64 := put_len HF.out (by omega) Hn0.out
          have hsl := fun W => all_slice r hlt36 W
          unfold allB at hsl
          go_wp2_with fail
          generalize dig r = x at *
          rw [HF.out] at HS
          go_roundg d
          case rel => exact ⟨d, x :: acc, by simp, rfl, rfl, HS, by have := HM.out; show _ < _; omega, rfl⟩
          case measure => have := Hg.out; have := hdl.out; split at * <;> omega
        · have hm0 : m = 0 := by omega
          obtain rfl : acc = [] := by rcases hgo with h | h; exact absurd h hm; exact h
          subst hm0
          obtain rfl : r = 0 := hr0.out rfl
          obtain rfl : d = 0 := hd0.out rfl
          clear hgo hm eM
          go_upto_region 9 with fail
          have hsl := fun W => all_slice 0 hlt36 W
          unfold allB at hsl
          go_wp2_with fail
          rw [HF.out] at HS
          go_roundg 0
          case rel => exact ⟨0, [dig 0], by simp, rfl, rfl, HS, by have := HM.out; show _ < _; omega, rfl⟩
          case measure => have := Hg.out; simp at this; omega
      · have hm0 : m = 0 := by omega
        have hne : acc ≠ [] := fun h => hgo (Or.inr h)
        subst hm0
        have q1 : (acc == []) = false := by simpa using hne
        have q2 : acc.isEmpty = false := by simpa using hne
        have hl64 : acc.length ≤ 64 := put_len HF.out (by omega) Hn0.out
        have hF := HF.out
        unfold fin at hF
        rw [if_pos ⟨rfl, hne⟩] at hF
        have HW : Hid (putV m0 B = [] ++ acc) := by
          show _ = _
          rw [hF]
          exact HV2.out
        clear hgo HV2 HF hF
        go_wp2_with fail
        go_ret
        exact ⟨by rw [HW.out]; rfl, rfl⟩

theorem rput_any (v b : Int) (h1 : -9223372036854775808 ≤ v) (h2 : v ≤ 9223372036854775807) (w : World) :
    Calls Tryd.prog 16 #[.int .i64 v, .int .i64 b] w fun e w' => e = .returned (.string ⟨(putV v b).toArray⟩) ∧ w = w' := by
  by_cases h : b < 2 ∨ 36 < b
  · have HV : Hid (putV v b = []) := putV_bad v b h
    by_cases hb : b < 2
    · go_enter Tryd.func16, Tryd.ntmps16
      go_wp2_with fail
      go_ret
      exact ⟨by rw [HV.out]; rfl, rfl⟩
    · have hb' : 36 < b := by omega
      clear h
      go_enter Tryd.func16, Tryd.ntmps16
      go_wp2_with fail
      go_ret
      exact ⟨by rw [HV.out]; rfl, rfl⟩
  · exact rput_walk v b (by omega) (by omega) h1 h2 w

/-- The document's digit. -/
def rdig (c : UInt8) : Int := if worth c < 0 then 99 else worth c
set_option maxHeartbeats 1000000 in
theorem rdigit_any (c : UInt8) (w : World) : Calls Tryd.prog 38 #[.int .u8 (c.toNat : Int)] w fun e w' => e = .returned (.int .i64 (rdig c)) ∧ w = w' := by
  have hc : (c.toNat : Int) ≤ 255 := by have := c.toNat_lt; omega
  have key : ∀ d, rdig c = d → Calls Tryd.prog 38 #[.int .u8 (c.toNat : Int)] w fun e w' => e = .returned (.int .i64 d) ∧ w = w' := by
    unfold rdig worth
    intro d hd
    have hd : Hid ((if (48 ≤ c.toNat ∧ c.toNat ≤ 57) then (c.toNat : Int) - 48 else if 65 ≤ c.toNat ∧ c.toNat ≤ 90 then (c.toNat : Int) - 55 else if 97 ≤ c.toNat ∧ c.toNat ≤ 122 then (c.toNat : Int) - 87 else 99) = d) := by
      show _ = _
      rw [← hd]
      split
      · rw [if_neg (by omega)]
      · split
        · rw [if_neg (by omega)]
        · split
          · rw [if_neg (by omega)]
          · rw [if_pos (by omega)]
    go_enter Tryd.func38, Tryd.ntmps38
    go_wp2
    all_goals
      go_ret
      refine ⟨?_, rfl⟩
      have h := hd.out
      refine congrArg Ending.returned (congrArg (Value.int .i64) ?_)
      rw [← h]
      repeat' split
      all_goals omega
  exact key _ rfl
end Go.Proofs.YtcfkhbkhejaegaaDoor.Dg
