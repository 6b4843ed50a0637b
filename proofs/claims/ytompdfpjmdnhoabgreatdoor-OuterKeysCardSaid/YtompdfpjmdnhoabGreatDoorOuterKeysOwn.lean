/-
  Lemmas on the way, for every input that they name: OvL, OqE.
-/
import Derived.Test.YtompdfpjmdnhoabGreatDoorQ36
import Derived.Test.YtompdfpjmdnhoabGreatDoorQ37
set_option linter.unusedVariables false
set_option linter.unusedSimpArgs false
set_option linter.deprecated false
namespace Go.Proofs.YtompdfpjmdnhoabGreatDoor.Ou
open Go.RowKit Go.Proofs.YtompdfpjmdnhoabGreatDoor.Mc
def bys (n : Nat) (f : Nat → List UInt8) : List (List UInt8) := (List.range n).map f
def num10 (v : Int) : List UInt8 := Dg.putV v 10 ++ [32]
def keysL : Nat → List Tk
  | 0 => []
  | n + 1 => keysL n ++ [.c 107, .c 101, .c 121, .c 32, .c 46, .c 32]
def keyV (j : Nat) : Int := if j < 3 then 97 + j else -1
def keys1T (k : Nat) : List (List Tk) := [keysL k]
def keys1O (k : Nat) : List (List UInt8) := bys k fun j => num10 (keyV j)
set_option maxRecDepth 100000 in
theorem keys1_0 : runB (keys1T 0) = some (0, keys1O 0, []) := by kernel_rfl
set_option maxRecDepth 100000 in
theorem keys1_1 : runB (keys1T 1) = some (0, keys1O 1, []) := by kernel_rfl
set_option maxRecDepth 100000 in
theorem keys1_2 : runB (keys1T 2) = some (0, keys1O 2, []) := by kernel_rfl
set_option maxRecDepth 100000 in
theorem keys1_3 : runB (keys1T 3) = some (0, keys1O 3, []) := by kernel_rfl
set_option maxRecDepth 100000 in
theorem keys1_4 : runB (keys1T 4) = some (0, keys1O 4, []) := by kernel_rfl
set_option maxRecDepth 100000 in
theorem keys1_5 : runB (keys1T 5) = some (0, keys1O 5, []) := by kernel_rfl
set_option maxRecDepth 100000 in
theorem keys1_6 : runB (keys1T 6) = some (0, keys1O 6, []) := by kernel_rfl
set_option maxRecDepth 100000 in
theorem keys1_7 : runB (keys1T 7) = some (0, keys1O 7, []) := by kernel_rfl
set_option maxRecDepth 100000 in
theorem keys1_8 : runB (keys1T 8) = some (0, keys1O 8, []) := by kernel_rfl
theorem keys1R : ∀ k, k < 9 → runB (keys1T k) = some (0, keys1O k, [])
  | 0, _ => keys1_0
  | 1, _ => keys1_1
  | 2, _ => keys1_2
  | 3, _ => keys1_3
  | 4, _ => keys1_4
  | 5, _ => keys1_5
  | 6, _ => keys1_6
  | 7, _ => keys1_7
  | 8, _ => keys1_8
  | _ + 9, h => absurd h (by omega)
theorem keys1 (k : Nat) (hk : k < 9) : Plays (keys1T k) (0) (keys1O k).flatten :=
  plays_K _ _ _ (keys1R k hk) (fam_of (fun k => okB (keys1T k)) 9 (by kernel_rfl) k hk)
end Go.Proofs.YtompdfpjmdnhoabGreatDoor.Ou
namespace Go.Proofs.YtompdfpjmdnhoabGreatDoor.Ou
open Go.RowKit Go.Proofs.YtompdfpjmdnhoabGreatDoor.Rs Go.Proofs.YtompdfpjmdnhoabGreatDoor.Src Go.Proofs.YtompdfpjmdnhoabGreatDoor.Ft
def keyW (i : Nat) : List UInt8 := ((List.range i).map fun j => num10 (keyV j)).flatten
theorem keyW_step (i : Nat) : keyW (i + 1) = keyW i ++ num10 (keyV i) := by
  unfold keyW
  rw [List.range_succ, List.map_append, List.flatten_append]
  simp
theorem keysL_step (i : Nat) : flat (keysL (i + 1)) = flat (keysL i) ++ [107, 101, 121, 32, 46, 32] := by
  show flat (keysL i ++ _) = _
  unfold flat
  rw [List.flatMap_append]
  rfl
set_option maxHeartbeats 8000000 in
set_option maxRecDepth 100000 in
theorem keys_in (k : Nat) (hk : k < 9)  (w : World) (A : Ahead w w) :
    Calls Tryz.prog 5 #[.int .i64 (k : Int)] w fun e w' => e = .returned (.bool true) ∧ Below w.heap.size w w' := by
  have HAl := Lib.hid (fun w1 A1 => alive_any w w1 A1)
  have h1 : decide ((k : Int) < 0) = false := by simp
  have h2 : decide (8 < (k : Int)) = false := by simp; omega
  have h5 : ¬ (k : Int) < 0 := by omega
  have h6 : ¬ (8 : Int) < k := by omega
  have HN := Lib.hid (fun (v : Int) (hv : Mc.In v) w => num_any v hv w)
  have HP := Lib.hid (fun (lt wt : ByteArray) (hl : lt = ⟨(flat (keysL k)).toArray⟩) (hw : wt = ⟨(keyW k).toArray⟩) w1 A1 => tells1 w lt wt _ _ (keys1 k hk) hl (by rw [hw]; rfl) w1 A1)
  have HA := Lib.hid A
  clear A
  go_enter Tryz.func5, Tryz.ntmps5
  go_wp2_with fail
  refine (HAl.out _ HA.out).mono ?_
  rintro e w1 ⟨rfl, k⟩
  have A1 := Lib.hid (HA.out.next k)
  have K1 := Lib.hid k
  clear k
  go_wp2_with fail
  go_loopg [3, 4, 5] k (fun gg v3 v4 v5 wr => ∃ (i : Nat) (lt wt : ByteArray), gg = k - i ∧ v3 = .string lt ∧ v4 = .string wt ∧ v5 = .int .i64 (i : Int) ∧ Hid (i ≤ k) ∧ Hid (lt = ⟨(flat (keysL i)).toArray⟩) ∧ Hid (wt = ⟨(keyW i).toArray⟩) ∧ lt.size ≤ 6 * i ∧ wt.size ≤ 66 * i ∧ wr = w1)
  case atStart => exact ⟨0, ⟨#[]⟩, ⟨#[]⟩, rfl, rfl, rfl, rfl, Nat.zero_le _, rfl, rfl, Nat.le_refl _, Nat.le_refl _, rfl⟩
  case round =>
    obtain ⟨i, lt, wt, hg, rfl, rfl, rfl, Hi, HD, HF, hsz, hsz2, rfl⟩ := hrel
    have Hg := Lib.hid hg
    clear hg
    by_cases hlt : i < k
    · have Hlt := Lib.hid hlt
      have HSz := Lib.hid hsz
      have HSz2 := Lib.hid hsz2
      have hs2 : lt.size ≤ 60 := by omega
      have hs3 : wt.size ≤ 600 := by omega
      have g0 : i < 9 := by omega
      clear hsz hsz2
      rcases (show i = 0 ∨ i = 1 ∨ i = 2 ∨ 3 ≤ i by omega) with rfl | rfl | rfl | h3
      · have g1 : ((0 : Nat) : Int) < (k : Int) := by omega
        have g2 : decide (((0 : Nat) : Int) < (k : Int)) = true := decide_eq_true g1
        have g3 : decide (0 < k) = true := by simpa using hlt
        have HI := Lib.hid (show wrap64 (((0 : Nat) : Int) + 1) = ((0 + 1 : Nat) : Int) by decide +kernel)
        have HJ := Lib.hid (show ((0 : Nat) : Int) + 1 = ((0 + 1 : Nat) : Int) from rfl)
        have HV := Lib.hid (show wrap64 (((⟨#[97, 98, 99]⟩ : ByteArray)[0]'(by decide)).toNat : Int) = 97 by decide +kernel)
        have HNi := Lib.hid (fun w => num_any 97 (by unfold Mc.In; omega) w)
        obtain ⟨Y, eY, sY⟩ := num_some 97 10 (by unfold Mc.In; omega) (by decide)
        rw [← eY] at HNi
        clear hlt g0
        have HE := Lib.hid eY
        clear eY
        go_wp2_with fail
        rw [HV.out]
        refine (HNi.out _).mono ?_
        rintro e w2 ⟨rfl, rfl⟩
        go_wp2_with fail
        first | rw [HI.out] | rw [HJ.out] | skip
        go_roundg (k - (0 + 1))
        case rel =>
          refine ⟨0 + 1, lt ++ ⟨#[107, 101, 121, 32, 46, 32]⟩, wt ++ (Y ++ ⟨#[32]⟩), rfl, rfl, rfl, rfl, Hlt.out, ?_, ?_, ?_, ?_, rfl⟩
          · show _ = _
            rw [keysL_step]
            exact str_join _ _ _ _ HD.out rfl
          · show _ = _
            rw [keyW_step, HE.out]
            exact str_join _ _ _ _ HF.out (str_join _ _ _ [32] rfl rfl)
          · have := HSz.out
            simp only [ByteArray.size_append]
            have e1 : (⟨#[107, 101, 121, 32, 46, 32]⟩ : ByteArray).size = 6 := rfl
            omega
          · have := HSz2.out
            simp only [ByteArray.size_append]
            have e1 : (⟨#[32]⟩ : ByteArray).size = 1 := rfl
            omega
        case measure => rw [Hg.out]; have := Hlt.out; omega
      · have g1 : ((1 : Nat) : Int) < (k : Int) := by omega
        have g2 : decide (((1 : Nat) : Int) < (k : Int)) = true := decide_eq_true g1
        have g3 : decide (1 < k) = true := by simpa using hlt
        have HI := Lib.hid (show wrap64 (((1 : Nat) : Int) + 1) = ((1 + 1 : Nat) : Int) by decide +kernel)
        have HJ := Lib.hid (show ((1 : Nat) : Int) + 1 = ((1 + 1 : Nat) : Int) from rfl)
        have HV := Lib.hid (show wrap64 (((⟨#[97, 98, 99]⟩ : ByteArray)[1]'(by decide)).toNat : Int) = 98 by decide +kernel)
        have HNi := Lib.hid (fun w => num_any 98 (by unfold Mc.In; omega) w)
        obtain ⟨Y, eY, sY⟩ := num_some 98 10 (by unfold Mc.In; omega) (by decide)
        rw [← eY] at HNi
        clear hlt g0
        have HE := Lib.hid eY
        clear eY
        go_wp2_with fail
        rw [HV.out]
        refine (HNi.out _).mono ?_
        rintro e w2 ⟨rfl, rfl⟩
        go_wp2_with fail
        first | rw [HI.out] | rw [HJ.out] | skip
        go_roundg (k - (1 + 1))
        case rel =>
          refine ⟨1 + 1, lt ++ ⟨#[107, 101, 121, 32, 46, 32]⟩, wt ++ (Y ++ ⟨#[32]⟩), rfl, rfl, rfl, rfl, Hlt.out, ?_, ?_, ?_, ?_, rfl⟩
          · show _ = _
            rw [keysL_step]
            exact str_join _ _ _ _ HD.out rfl
          · show _ = _
            rw [keyW_step, HE.out]
            exact str_join _ _ _ _ HF.out (str_join _ _ _ [32] rfl rfl)
          · have := HSz.out
            simp only [ByteArray.size_append]
            have e1 : (⟨#[107, 101, 121, 32, 46, 32]⟩ : ByteArray).size = 6 := rfl
            omega
          · have := HSz2.out
            simp only [ByteArray.size_append]
            have e1 : (⟨#[32]⟩ : ByteArray).size = 1 := rfl
            omega
        case measure => rw [Hg.out]; have := Hlt.out; omega
      · have g1 : ((2 : Nat) : Int) < (k : Int) := by omega
        have g2 : decide (((2 : Nat) : Int) < (k : Int)) = true := decide_eq_true g1
        have g3 : decide (2 < k) = true := by simpa using hlt
        have HI := Lib.hid (show wrap64 (((2 : Nat) : Int) + 1) = ((2 + 1 : Nat) : Int) by decide +kernel)
        have HJ := Lib.hid (show ((2 : Nat) : Int) + 1 = ((2 + 1 : Nat) : Int) from rfl)
        have HV := Lib.hid (show wrap64 (((⟨#[97, 98, 99]⟩ : ByteArray)[2]'(by decide)).toNat : Int) = 99 by decide +kernel)
        have HNi := Lib.hid (fun w => num_any 99 (by unfold Mc.In; omega) w)
        obtain ⟨Y, eY, sY⟩ := num_some 99 10 (by unfold Mc.In; omega) (by decide)
        rw [← eY] at HNi
        clear hlt g0
        have HE := Lib.hid eY
        clear eY
        go_wp2_with fail
        rw [HV.out]
        refine (HNi.out _).mono ?_
        rintro e w2 ⟨rfl, rfl⟩
        go_wp2_with fail
        first | rw [HI.out] | rw [HJ.out] | skip
        go_roundg (k - (2 + 1))
        case rel =>
          refine ⟨2 + 1, lt ++ ⟨#[107, 101, 121, 32, 46, 32]⟩, wt ++ (Y ++ ⟨#[32]⟩), rfl, rfl, rfl, rfl, Hlt.out, ?_, ?_, ?_, ?_, rfl⟩
          · show _ = _
            rw [keysL_step]
            exact str_join _ _ _ _ HD.out rfl
          · show _ = _
            rw [keyW_step, HE.out]
            exact str_join _ _ _ _ HF.out (str_join _ _ _ [32] rfl rfl)
          · have := HSz.out
            simp only [ByteArray.size_append]
            have e1 : (⟨#[107, 101, 121, 32, 46, 32]⟩ : ByteArray).size = 6 := rfl
            omega
          · have := HSz2.out
            simp only [ByteArray.size_append]
            have e1 : (⟨#[32]⟩ : ByteArray).size = 1 := rfl
            omega
        case measure => rw [Hg.out]; have := Hlt.out; omega
      · have g1 : (i : Int) < (k : Int) := by omega
        have g2 : decide ((i : Int) < (k : Int)) = true := by simpa using hlt
        have g3 : decide (i < k) = true := by simpa using hlt
        have g4 : ¬ (i : Int) < 3 := by omega
        have g5 : decide ((i : Int) < 3) = false := decide_eq_false g4
        have g6 : decide (i < 3) = false := by simpa using h3
        have ev : keyV i = -1 := by unfold keyV; rw [if_neg (by omega)]
        have HI := Lib.hid (show wrap64 ((i : Int) + 1) = ((i + 1 : Nat) : Int) by unfold wrap64; omega)
        have HJ := Lib.hid (show (i : Int) + 1 = ((i + 1 : Nat) : Int) from rfl)
        have HNi := Lib.hid (fun w => num_any (-1) (by unfold Mc.In; omega) w)
        obtain ⟨Y, eY, sY⟩ := num_some (-1) 10 (by unfold Mc.In; omega) (by decide)
        rw [← eY] at HNi
        rw [← ev] at eY
        clear hlt g0 ev h3
        have HE := Lib.hid eY
        clear eY
        go_wp2_with fail
        refine (HNi.out _).mono ?_
        rintro e w2 ⟨rfl, rfl⟩
        go_wp2_with fail
        first | rw [HI.out] | rw [HJ.out] | skip
        go_roundg (k - (i + 1))
        case rel =>
          refine ⟨i + 1, lt ++ ⟨#[107, 101, 121, 32, 46, 32]⟩, wt ++ (Y ++ ⟨#[32]⟩), rfl, rfl, rfl, rfl, Hlt.out, ?_, ?_, ?_, ?_, rfl⟩
          · show _ = _
            rw [keysL_step]
            exact str_join _ _ _ _ HD.out rfl
          · show _ = _
            rw [keyW_step, HE.out]
            exact str_join _ _ _ _ HF.out (str_join _ _ _ [32] rfl rfl)
          · have := HSz.out
            simp only [ByteArray.size_append]
            have e1 : (⟨#[107, 101, 121, 32, 46, 32]⟩ : ByteArray).size = 6 := rfl
            omega
          · have := HSz2.out
            simp only [ByteArray.size_append]
            have e1 : (⟨#[32]⟩ : ByteArray).size = 1 := rfl
            omega
        case measure => rw [Hg.out]; have := Hlt.out; omega
    · have g1 : ¬ (i : Int) < (k : Int) := by omega
      have g2 : decide ((i : Int) < (k : Int)) = false := by simpa using hlt
      have g3 : decide (i < k) = false := by simpa using hlt
      obtain rfl : i = k := by have := Hi.out; omega
      clear hlt Hi Hg
      have P1 := Lib.hid (HP.out _ _ HD.out HF.out)
      go_wp2_with fail
      refine (P1.out _ A1.out).mono ?_
      rintro e w2 ⟨rfl, k⟩
      have A2 := Lib.hid (A1.out.next k)
      have K2 := Lib.hid (K1.out.trans (k.mono K1.out.size))
      clear k K1 A1
      go_wp2_with fail
      go_ret
      exact ⟨rfl, K2.out⟩
set_option maxHeartbeats 8000000 in
set_option maxRecDepth 100000 in
theorem keys_low (n : Int) (h : n < 0)  (w : World) (A : Ahead w w) :
    Calls Tryz.prog 5 #[.int .i64 n] w fun e w' => e = .returned (.bool true) ∧ Below w.heap.size w w' := by
  have HAl := Lib.hid (fun w1 A1 => alive_any w w1 A1)
  have h1 : decide (n < 0) = true := by simp; omega
  have h5 : n < 0 := h
  have HA := Lib.hid A
  clear A h
  go_enter Tryz.func5, Tryz.ntmps5
  go_wp2_with fail
  refine (HAl.out _ HA.out).mono ?_
  rintro e w1 ⟨rfl, k⟩
  have A1 := Lib.hid (HA.out.next k)
  have K1 := Lib.hid k
  clear k
  go_wp2_with fail
  go_ret
  exact ⟨rfl, K1.out⟩
set_option maxHeartbeats 8000000 in
set_option maxRecDepth 100000 in
theorem keys_high (n : Int) (h : 8 < n)  (w : World) (A : Ahead w w) :
    Calls Tryz.prog 5 #[.int .i64 n] w fun e w' => e = .returned (.bool true) ∧ Below w.heap.size w w' := by
  have HAl := Lib.hid (fun w1 A1 => alive_any w w1 A1)
  have h1 : decide (n < 0) = false := by simp; omega
  have h2 : decide (8 < n) = true := by simp; omega
  have h5 : ¬ n < 0 := by omega
  have h6 : 8 < n := h
  have HA := Lib.hid A
  clear A h
  go_enter Tryz.func5, Tryz.ntmps5
  go_wp2_with fail
  refine (HAl.out _ HA.out).mono ?_
  rintro e w1 ⟨rfl, k⟩
  have A1 := Lib.hid (HA.out.next k)
  have K1 := Lib.hid k
  clear k
  go_wp2_with fail
  go_ret
  exact ⟨rfl, K1.out⟩
set_option maxHeartbeats 8000000 in
set_option maxRecDepth 100000 in
theorem keys_walk (n : Int)  (w : World) (A : Ahead w w) :
    Calls Tryz.prog 5 #[.int .i64 n] w fun e w' => e = .returned (.bool true) ∧ Below w.heap.size w w' := by
  by_cases h1 : n < 0
  · exact keys_low n h1 w A
  by_cases h2 : 8 < n
  · exact keys_high n h2 w A
  obtain ⟨k, rfl⟩ : ∃ k : Nat, n = (k : Int) := ⟨n.toNat, by omega⟩
  exact keys_in k (by omega) w A
end Go.Proofs.YtompdfpjmdnhoabGreatDoor.Ou
