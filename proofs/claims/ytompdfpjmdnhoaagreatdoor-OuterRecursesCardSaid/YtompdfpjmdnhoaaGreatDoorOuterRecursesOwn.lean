/-
  Lemmas on the way, for every input that they name: OvL, OqR.
-/
import Derived.Test.YtompdfpjmdnhoaaGreatDoorQ36
import Derived.Test.YtompdfpjmdnhoaaGreatDoorQ37
set_option linter.unusedVariables false
set_option linter.unusedSimpArgs false
set_option linter.deprecated false
namespace Go.Proofs.YtompdfpjmdnhoaaGreatDoor.Ou
open Go.RowKit Go.Proofs.YtompdfpjmdnhoaaGreatDoor.Mc
def num10 (v : Int) : List UInt8 := Dg.putV v 10 ++ [32]
def fac : Nat → Nat
  | 0 => 1
  | n + 1 => fac n * (n + 1)
def recurses1T (k : Nat) : List (List Tk) := [[.c 58, .c 32, .c 102, .c 97, .c 99, .c 32, .c 100, .c 117, .c 112, .c 32, .c 48, .c 61, .c 32, .c 105, .c 102, .c 32, .c 100, .c 114, .c 111, .c 112, .c 32, .c 49, .c 32, .c 101, .c 108, .c 115, .c 101, .c 32, .c 100, .c 117, .c 112, .c 32, .c 49, .c 32, .c 45, .c 32, .c 114, .c 101, .c 99, .c 117, .c 114, .c 115, .c 101, .c 32, .c 42, .c 32, .c 116, .c 104, .c 101, .c 110, .c 32, .c 59, .c 32, .n ((k : Nat)) 10, .c 32, .c 102, .c 97, .c 99, .c 32, .c 46]]
def recurses1O (k : Nat) : List (List UInt8) := [num10 (fac k : Nat)]
set_option maxRecDepth 100000 in
theorem recurses1_0 : runB (recurses1T 0) = some (0, recurses1O 0, []) := by kernel_rfl
set_option maxRecDepth 100000 in
theorem recurses1_1 : runB (recurses1T 1) = some (0, recurses1O 1, []) := by kernel_rfl
set_option maxRecDepth 100000 in
theorem recurses1_2 : runB (recurses1T 2) = some (0, recurses1O 2, []) := by kernel_rfl
set_option maxRecDepth 100000 in
theorem recurses1_3 : runB (recurses1T 3) = some (0, recurses1O 3, []) := by kernel_rfl
set_option maxRecDepth 100000 in
theorem recurses1_4 : runB (recurses1T 4) = some (0, recurses1O 4, []) := by kernel_rfl
set_option maxRecDepth 100000 in
theorem recurses1_5 : runB (recurses1T 5) = some (0, recurses1O 5, []) := by kernel_rfl
set_option maxRecDepth 100000 in
theorem recurses1_6 : runB (recurses1T 6) = some (0, recurses1O 6, []) := by kernel_rfl
set_option maxRecDepth 100000 in
theorem recurses1_7 : runB (recurses1T 7) = some (0, recurses1O 7, []) := by kernel_rfl
set_option maxRecDepth 100000 in
theorem recurses1_8 : runB (recurses1T 8) = some (0, recurses1O 8, []) := by kernel_rfl
set_option maxRecDepth 100000 in
theorem recurses1_9 : runB (recurses1T 9) = some (0, recurses1O 9, []) := by kernel_rfl
set_option maxRecDepth 100000 in
theorem recurses1_10 : runB (recurses1T 10) = some (0, recurses1O 10, []) := by kernel_rfl
set_option maxRecDepth 100000 in
theorem recurses1_11 : runB (recurses1T 11) = some (0, recurses1O 11, []) := by kernel_rfl
set_option maxRecDepth 100000 in
theorem recurses1_12 : runB (recurses1T 12) = some (0, recurses1O 12, []) := by kernel_rfl
theorem recurses1R : ∀ k, k < 13 → runB (recurses1T k) = some (0, recurses1O k, [])
  | 0, _ => recurses1_0
  | 1, _ => recurses1_1
  | 2, _ => recurses1_2
  | 3, _ => recurses1_3
  | 4, _ => recurses1_4
  | 5, _ => recurses1_5
  | 6, _ => recurses1_6
  | 7, _ => recurses1_7
  | 8, _ => recurses1_8
  | 9, _ => recurses1_9
  | 10, _ => recurses1_10
  | 11, _ => recurses1_11
  | 12, _ => recurses1_12
  | _ + 13, h => absurd h (by omega)
theorem recurses1 (k : Nat) (hk : k < 13) : Plays (recurses1T k) (0) (recurses1O k).flatten :=
  plays_K _ _ _ (recurses1R k hk) (fam_of (fun k => okB (recurses1T k)) 13 (by kernel_rfl) k hk)
def recurses2T (k : Nat) : List (List Tk) := [[.c 58, .c 32, .c 102, .c 32, .c 49, .c 32, .c 43, .c 32, .c 59, .c 32, .c 58, .c 32, .c 102, .c 32, .c 102, .c 32, .c 59, .c 32, .n ((k : Nat)) 10, .c 32, .c 102, .c 32, .c 46]]
def recurses2O (k : Nat) : List (List UInt8) := [num10 (k + 1 : Nat)]
set_option maxRecDepth 100000 in
theorem recurses2_0 : runB (recurses2T 0) = some (0, recurses2O 0, []) := by kernel_rfl
set_option maxRecDepth 100000 in
theorem recurses2_1 : runB (recurses2T 1) = some (0, recurses2O 1, []) := by kernel_rfl
set_option maxRecDepth 100000 in
theorem recurses2_2 : runB (recurses2T 2) = some (0, recurses2O 2, []) := by kernel_rfl
set_option maxRecDepth 100000 in
theorem recurses2_3 : runB (recurses2T 3) = some (0, recurses2O 3, []) := by kernel_rfl
set_option maxRecDepth 100000 in
theorem recurses2_4 : runB (recurses2T 4) = some (0, recurses2O 4, []) := by kernel_rfl
set_option maxRecDepth 100000 in
theorem recurses2_5 : runB (recurses2T 5) = some (0, recurses2O 5, []) := by kernel_rfl
set_option maxRecDepth 100000 in
theorem recurses2_6 : runB (recurses2T 6) = some (0, recurses2O 6, []) := by kernel_rfl
set_option maxRecDepth 100000 in
theorem recurses2_7 : runB (recurses2T 7) = some (0, recurses2O 7, []) := by kernel_rfl
set_option maxRecDepth 100000 in
theorem recurses2_8 : runB (recurses2T 8) = some (0, recurses2O 8, []) := by kernel_rfl
set_option maxRecDepth 100000 in
theorem recurses2_9 : runB (recurses2T 9) = some (0, recurses2O 9, []) := by kernel_rfl
set_option maxRecDepth 100000 in
theorem recurses2_10 : runB (recurses2T 10) = some (0, recurses2O 10, []) := by kernel_rfl
set_option maxRecDepth 100000 in
theorem recurses2_11 : runB (recurses2T 11) = some (0, recurses2O 11, []) := by kernel_rfl
set_option maxRecDepth 100000 in
theorem recurses2_12 : runB (recurses2T 12) = some (0, recurses2O 12, []) := by kernel_rfl
theorem recurses2R : ∀ k, k < 13 → runB (recurses2T k) = some (0, recurses2O k, [])
  | 0, _ => recurses2_0
  | 1, _ => recurses2_1
  | 2, _ => recurses2_2
  | 3, _ => recurses2_3
  | 4, _ => recurses2_4
  | 5, _ => recurses2_5
  | 6, _ => recurses2_6
  | 7, _ => recurses2_7
  | 8, _ => recurses2_8
  | 9, _ => recurses2_9
  | 10, _ => recurses2_10
  | 11, _ => recurses2_11
  | 12, _ => recurses2_12
  | _ + 13, h => absurd h (by omega)
theorem recurses2 (k : Nat) (hk : k < 13) : Plays (recurses2T k) (0) (recurses2O k).flatten :=
  plays_K _ _ _ (recurses2R k hk) (fam_of (fun k => okB (recurses2T k)) 13 (by kernel_rfl) k hk)
end Go.Proofs.YtompdfpjmdnhoaaGreatDoor.Ou
namespace Go.Proofs.YtompdfpjmdnhoaaGreatDoor.Ou
open Go.RowKit Go.Proofs.YtompdfpjmdnhoaaGreatDoor.Rs Go.Proofs.YtompdfpjmdnhoaaGreatDoor.Src Go.Proofs.YtompdfpjmdnhoaaGreatDoor.Ft
theorem fac_step (j : Nat) : fac (j + 2) = fac (j + 1) * (j + 2) := rfl
theorem fac_small : ∀ k, k < 13 → fac k ≤ 479001600 := by decide
theorem fac_wrap (j : Nat) (h : j + 2 < 13) : wrap64 (((fac (j + 1) : Nat) : Int) * ((j + 2 : Nat) : Int)) = ((fac (j + 2) : Nat) : Int) := by
  have h1 := fac_small (j + 2) h
  rw [← Int.natCast_mul, ← fac_step]
  generalize fac (j + 2) = z at *
  unfold wrap64
  omega
set_option maxHeartbeats 8000000 in
set_option maxRecDepth 100000 in
theorem recurses_in (k : Nat) (hk : k < 13)  (w : World) (A : Ahead w w) :
    Calls Tryz.prog 9 #[.int .i64 (k : Int)] w fun e w' => e = .returned (.bool true) ∧ Below w.heap.size w w' := by
  have HAl := Lib.hid (fun w1 A1 => alive_any w w1 A1)
  have hf := fac_small k hk
  have h1 : decide ((k : Int) < 0) = false := by simp
  have h2 : decide (12 < (k : Int)) = false := by simp; omega
  have h5 : ¬ (k : Int) < 0 := by omega
  have h6 : ¬ (12 : Int) < k := by omega
  have HM1 := Lib.hid (show wrap64 ((k : Int) + 1) = ((k + 1 : Nat) : Int) by unfold wrap64; omega)
  have HM2 := Lib.hid (show (k : Int) + 1 = ((k + 1 : Nat) : Int) from rfl)
  have HX := Lib.hid (fun w => num_any ((k : Int)) (by unfold Mc.In; omega) w)
  obtain ⟨X, eX, sX⟩ := num_some ((k : Int)) 10 (by unfold Mc.In; omega) (by decide)
  have HF := Lib.hid (fun w => num_any (((fac k : Nat) : Int)) (by unfold Mc.In; omega) w)
  obtain ⟨F, eF, sF⟩ := num_some (((fac k : Nat) : Int)) 10 (by unfold Mc.In; omega) (by decide)
  have HM := Lib.hid (fun w => num_any (((k + 1 : Nat) : Int)) (by unfold Mc.In; omega) w)
  obtain ⟨M, eM, sM⟩ := num_some (((k + 1 : Nat) : Int)) 10 (by unfold Mc.In; omega) (by decide)
  have P1 := Lib.hid (fun w1 A1 => tells1 w (⟨#[58, 32, 102, 97, 99, 32, 100, 117, 112, 32, 48, 61, 32, 105, 102, 32, 100, 114, 111, 112, 32, 49, 32, 101, 108, 115, 101, 32, 100, 117, 112, 32, 49, 32, 45, 32, 114, 101, 99, 117, 114, 115, 101, 32, 42, 32, 116, 104, 101, 110, 32, 59, 32]⟩ ++ X ++ ⟨#[32, 102, 97, 99, 32, 46]⟩) (F ++ ⟨#[32]⟩) _ _ (recurses1 k hk) (by rw [(str_join _ _ (([58, 32, 102, 97, 99, 32, 100, 117, 112, 32, 48, 61, 32, 105, 102, 32, 100, 114, 111, 112, 32, 49, 32, 101, 108, 115, 101, 32, 100, 117, 112, 32, 49, 32, 45, 32, 114, 101, 99, 117, 114, 115, 101, 32, 42, 32, 116, 104, 101, 110, 32, 59, 32]) ++ Dg.putV ((k : Int)) 10) ([32, 102, 97, 99, 32, 46]) (str_join _ _ ([58, 32, 102, 97, 99, 32, 100, 117, 112, 32, 48, 61, 32, 105, 102, 32, 100, 114, 111, 112, 32, 49, 32, 101, 108, 115, 101, 32, 100, 117, 112, 32, 49, 32, 45, 32, 114, 101, 99, 117, 114, 115, 101, 32, 42, 32, 116, 104, 101, 110, 32, 59, 32]) (Dg.putV ((k : Int)) 10) rfl eX) rfl)]; simp [flat, Tk.bytes, recurses1T, recurses2T]) (by rw [(str_join _ _ (Dg.putV (((fac k : Nat) : Int)) 10) ([32]) eF rfl)]; simp [recurses1O, recurses2O, num10]) w1 A1)
  have P2 := Lib.hid (fun w1 A1 => tells1 w (⟨#[58, 32, 102, 32, 49, 32, 43, 32, 59, 32, 58, 32, 102, 32, 102, 32, 59, 32]⟩ ++ X ++ ⟨#[32, 102, 32, 46]⟩) (M ++ ⟨#[32]⟩) _ _ (recurses2 k hk) (by rw [(str_join _ _ (([58, 32, 102, 32, 49, 32, 43, 32, 59, 32, 58, 32, 102, 32, 102, 32, 59, 32]) ++ Dg.putV ((k : Int)) 10) ([32, 102, 32, 46]) (str_join _ _ ([58, 32, 102, 32, 49, 32, 43, 32, 59, 32, 58, 32, 102, 32, 102, 32, 59, 32]) (Dg.putV ((k : Int)) 10) rfl eX) rfl)]; simp [flat, Tk.bytes, recurses1T, recurses2T]) (by rw [(str_join _ _ (Dg.putV (((k + 1 : Nat) : Int)) 10) ([32]) eM rfl)]; simp [recurses1O, recurses2O, num10]) w1 A1)
  rw [← eX] at HX
  rw [← eF] at HF
  rw [← eM] at HM
  have HA := Lib.hid A
  clear A eX eF eM hf
  go_enter Tryz.func9, Tryz.ntmps9
  go_wp2_with fail
  refine (HAl.out _ HA.out).mono ?_
  rintro e w1 ⟨rfl, k⟩
  have A1 := Lib.hid (HA.out.next k)
  have K1 := Lib.hid k
  clear k
  go_wp2_with fail
  go_loopg [3, 4] (k + 1) (fun gg v3 v4 wr => ∃ j : Nat, gg = k + 1 - j ∧ v3 = .int .i64 (((fac (j + 1) : Nat) : Int)) ∧ v4 = .int .i64 (((j + 2 : Nat) : Int)) ∧ Hid (j = 0 ∨ j + 1 ≤ k) ∧ wr = w1)
  case atStart => exact ⟨0, rfl, rfl, rfl, .inl rfl, rfl⟩
  case round =>
    obtain ⟨j, hg, rfl, rfl, Hj, rfl⟩ := hrel
    have Hg := Lib.hid hg
    clear hg
    by_cases hlt : j + 2 ≤ k
    · have g1 : ((j + 2 : Nat) : Int) ≤ (k : Int) := by omega
      have g2 : decide (((j + 2 : Nat) : Int) ≤ (k : Int)) = true := by simpa using g1
      have g3 : decide (j + 2 ≤ k) = true := by simpa using hlt
      have HW := Lib.hid (show wrap64 (((fac (j + 1) : Nat) : Int) * ((j : Int) + 2)) = ((fac (j + 2) : Nat) : Int) from fac_wrap j (by omega))
      have HI := Lib.hid (show (j : Int) + 2 + 1 = ((j + 1 + 2 : Nat) : Int) by omega)
      have Hlt := Lib.hid hlt
      go_wp2_with fail
      rw [HW.out, HI.out]
      go_roundg (k + 1 - (j + 1))
      case rel => exact ⟨j + 1, rfl, rfl, rfl, .inr Hlt.out, rfl⟩
      case measure => rw [Hg.out]; have := Hlt.out; omega
    · have g1 : ¬ ((j + 2 : Nat) : Int) ≤ (k : Int) := by omega
      have g2 : decide (((j + 2 : Nat) : Int) ≤ (k : Int)) = false := by simpa using g1
      have g3 : decide (j + 2 ≤ k) = false := by simpa using hlt
      have ef : fac (j + 1) = fac k := by
        rcases Hj.out with rfl | h
        · have hk2 : k = 0 ∨ k = 1 := by omega
          rcases hk2 with rfl | rfl <;> rfl
        · have : j + 1 = k := by omega
          rw [this]
      rw [ef]
      clear ef hlt Hj Hg
      go_wp2_with fail
      refine (HF.out _).mono ?_
      rintro e w2 ⟨rfl, rfl⟩
      go_wp2_with fail
      refine (HX.out _).mono ?_
      rintro e w2 ⟨rfl, rfl⟩
      go_wp2_with fail
      refine (P1.out _ A1.out).mono ?_
      rintro e w2 ⟨rfl, k⟩
      have A2 := Lib.hid (A1.out.next k)
      have K2 := Lib.hid (K1.out.trans (k.mono K1.out.size))
      clear k K1 A1
      go_wp2_with fail
      first | rw [HM1.out] | rw [HM2.out]
      go_wp2_with fail
      refine (HM.out _).mono ?_
      rintro e w3 ⟨rfl, rfl⟩
      go_wp2_with fail
      refine (HX.out _).mono ?_
      rintro e w3 ⟨rfl, rfl⟩
      go_wp2_with fail
      refine (P2.out _ A2.out).mono ?_
      rintro e w3 ⟨rfl, k⟩
      have A3 := Lib.hid (A2.out.next k)
      have K3 := Lib.hid (K2.out.trans (k.mono K2.out.size))
      clear k K2 A2
      go_wp2_with fail
      go_ret
      exact ⟨rfl, K3.out⟩
set_option maxHeartbeats 8000000 in
set_option maxRecDepth 100000 in
theorem recurses_low (n : Int) (h : n < 0)  (w : World) (A : Ahead w w) :
    Calls Tryz.prog 9 #[.int .i64 n] w fun e w' => e = .returned (.bool true) ∧ Below w.heap.size w w' := by
  have HAl := Lib.hid (fun w1 A1 => alive_any w w1 A1)
  have h1 : decide (n < 0) = true := by simp; omega
  have h5 : n < 0 := h
  have HA := Lib.hid A
  clear A h
  go_enter Tryz.func9, Tryz.ntmps9
  go_wp2_with fail
  refine (HAl.out _ HA.out).mono ?_
  rintro e w1 ⟨rfl, k⟩
  have A1 := Lib.hid (HA.out.next k)
  have K1 := Lib.hid k
  clear k
  go_wp2_with fail
  go_ret
  exact ⟨rfl, K1.out⟩
set_option maxHeartbeats 8000000 in
set_option maxRecDepth 100000 in
theorem recurses_high (n : Int) (h : 12 < n)  (w : World) (A : Ahead w w) :
    Calls Tryz.prog 9 #[.int .i64 n] w fun e w' => e = .returned (.bool true) ∧ Below w.heap.size w w' := by
  have HAl := Lib.hid (fun w1 A1 => alive_any w w1 A1)
  have h1 : decide (n < 0) = false := by simp; omega
  have h2 : decide (12 < n) = true := by simp; omega
  have h5 : ¬ n < 0 := by omega
  have h6 : 12 < n := h
  have HA := Lib.hid A
  clear A h
  go_enter Tryz.func9, Tryz.ntmps9
  go_wp2_with fail
  refine (HAl.out _ HA.out).mono ?_
  rintro e w1 ⟨rfl, k⟩
  have A1 := Lib.hid (HA.out.next k)
  have K1 := Lib.hid k
  clear k
  go_wp2_with fail
  go_ret
  exact ⟨rfl, K1.out⟩
set_option maxHeartbeats 8000000 in
set_option maxRecDepth 100000 in
theorem recurses_walk (n : Int)  (w : World) (A : Ahead w w) :
    Calls Tryz.prog 9 #[.int .i64 n] w fun e w' => e = .returned (.bool true) ∧ Below w.heap.size w w' := by
  by_cases h1 : n < 0
  · exact recurses_low n h1 w A
  by_cases h2 : 12 < n
  · exact recurses_high n h2 w A
  obtain ⟨k, rfl⟩ : ∃ k : Nat, n = (k : Int) := ⟨n.toNat, by omega⟩
  exact recurses_in k (by omega) w A
end Go.Proofs.YtompdfpjmdnhoaaGreatDoor.Ou
