/-
  Lemmas on the way, for every input that they name: OvL, OqL.
-/
import Derived.Test.YtompdfpjmdnhoaaGreatDoorQ36
import Derived.Test.YtompdfpjmdnhoaaGreatDoorQ37
set_option linter.unusedVariables false
set_option linter.unusedSimpArgs false
set_option linter.deprecated false
namespace Go.Proofs.YtompdfpjmdnhoaaGreatDoor.Ou
open Go.RowKit Go.Proofs.YtompdfpjmdnhoaaGreatDoor.Mc
def bys (n : Nat) (f : Nat → List UInt8) : List (List UInt8) := (List.range n).map f
def num10 (v : Int) : List UInt8 := Dg.putV v 10 ++ [32]
def sq : Nat → Nat
  | 0 => 0
  | n + 1 => sq n + n * n
def loops1T (k : Nat) : List (List Tk) := [[.c 58, .c 32, .c 102, .c 32, .c 48, .c 32, .c 115, .c 119, .c 97, .c 112, .c 32, .c 48, .c 32, .c 100, .c 111, .c 32, .c 105, .c 32, .c 105, .c 32, .c 42, .c 32, .c 43, .c 32, .c 108, .c 111, .c 111, .c 112, .c 32, .c 59, .c 32, .n (((k + 1 : Nat) : Int)) 10, .c 32, .c 102, .c 32, .c 46]]
def loops1O (k : Nat) : List (List UInt8) := [num10 (sq (k + 1) : Nat)]
set_option maxRecDepth 100000 in
theorem loops1_0 : runB (loops1T 0) = some (0, loops1O 0, []) := by kernel_rfl
set_option maxRecDepth 100000 in
theorem loops1_1 : runB (loops1T 1) = some (0, loops1O 1, []) := by kernel_rfl
set_option maxRecDepth 100000 in
theorem loops1_2 : runB (loops1T 2) = some (0, loops1O 2, []) := by kernel_rfl
set_option maxRecDepth 100000 in
theorem loops1_3 : runB (loops1T 3) = some (0, loops1O 3, []) := by kernel_rfl
set_option maxRecDepth 100000 in
theorem loops1_4 : runB (loops1T 4) = some (0, loops1O 4, []) := by kernel_rfl
set_option maxRecDepth 100000 in
theorem loops1_5 : runB (loops1T 5) = some (0, loops1O 5, []) := by kernel_rfl
set_option maxRecDepth 100000 in
theorem loops1_6 : runB (loops1T 6) = some (0, loops1O 6, []) := by kernel_rfl
set_option maxRecDepth 100000 in
theorem loops1_7 : runB (loops1T 7) = some (0, loops1O 7, []) := by kernel_rfl
set_option maxRecDepth 100000 in
theorem loops1_8 : runB (loops1T 8) = some (0, loops1O 8, []) := by kernel_rfl
set_option maxRecDepth 100000 in
theorem loops1_9 : runB (loops1T 9) = some (0, loops1O 9, []) := by kernel_rfl
set_option maxRecDepth 100000 in
theorem loops1_10 : runB (loops1T 10) = some (0, loops1O 10, []) := by kernel_rfl
set_option maxRecDepth 100000 in
theorem loops1_11 : runB (loops1T 11) = some (0, loops1O 11, []) := by kernel_rfl
theorem loops1R : ∀ k, k < 12 → runB (loops1T k) = some (0, loops1O k, [])
  | 0, _ => loops1_0
  | 1, _ => loops1_1
  | 2, _ => loops1_2
  | 3, _ => loops1_3
  | 4, _ => loops1_4
  | 5, _ => loops1_5
  | 6, _ => loops1_6
  | 7, _ => loops1_7
  | 8, _ => loops1_8
  | 9, _ => loops1_9
  | 10, _ => loops1_10
  | 11, _ => loops1_11
  | _ + 12, h => absurd h (by omega)
theorem loops1 (k : Nat) (hk : k < 12) : Plays (loops1T k) (0) (loops1O k).flatten :=
  plays_K _ _ _ (loops1R k hk) (fam_of (fun k => okB (loops1T k)) 12 (by kernel_rfl) k hk)
def loops2T (k : Nat) : List (List Tk) := [[.c 58, .c 32, .c 102, .c 32, .c 48, .c 32, .c 115, .c 119, .c 97, .c 112, .c 32, .c 100, .c 117, .c 112, .c 32, .c 48, .c 32, .c 100, .c 111, .c 32, .c 100, .c 117, .c 112, .c 32, .c 48, .c 32, .c 100, .c 111, .c 32, .c 115, .c 119, .c 97, .c 112, .c 32, .c 49, .c 32, .c 43, .c 32, .c 115, .c 119, .c 97, .c 112, .c 32, .c 108, .c 111, .c 111, .c 112, .c 32, .c 108, .c 111, .c 111, .c 112, .c 32, .c 100, .c 114, .c 111, .c 112, .c 32, .c 59, .c 32, .n (((k + 1 : Nat) : Int)) 10, .c 32, .c 102, .c 32, .c 46]]
def loops2O (k : Nat) : List (List UInt8) := [num10 ((k + 1) * (k + 1) : Nat)]
set_option maxRecDepth 100000 in
theorem loops2_0 : runB (loops2T 0) = some (0, loops2O 0, []) := by kernel_rfl
set_option maxRecDepth 100000 in
theorem loops2_1 : runB (loops2T 1) = some (0, loops2O 1, []) := by kernel_rfl
set_option maxRecDepth 100000 in
theorem loops2_2 : runB (loops2T 2) = some (0, loops2O 2, []) := by kernel_rfl
set_option maxRecDepth 100000 in
theorem loops2_3 : runB (loops2T 3) = some (0, loops2O 3, []) := by kernel_rfl
set_option maxRecDepth 100000 in
theorem loops2_4 : runB (loops2T 4) = some (0, loops2O 4, []) := by kernel_rfl
set_option maxRecDepth 100000 in
theorem loops2_5 : runB (loops2T 5) = some (0, loops2O 5, []) := by kernel_rfl
set_option maxRecDepth 100000 in
theorem loops2_6 : runB (loops2T 6) = some (0, loops2O 6, []) := by kernel_rfl
set_option maxRecDepth 100000 in
theorem loops2_7 : runB (loops2T 7) = some (0, loops2O 7, []) := by kernel_rfl
set_option maxRecDepth 100000 in
theorem loops2_8 : runB (loops2T 8) = some (0, loops2O 8, []) := by kernel_rfl
set_option maxRecDepth 100000 in
theorem loops2_9 : runB (loops2T 9) = some (0, loops2O 9, []) := by kernel_rfl
set_option maxRecDepth 100000 in
theorem loops2_10 : runB (loops2T 10) = some (0, loops2O 10, []) := by kernel_rfl
set_option maxRecDepth 100000 in
theorem loops2_11 : runB (loops2T 11) = some (0, loops2O 11, []) := by kernel_rfl
theorem loops2R : ∀ k, k < 12 → runB (loops2T k) = some (0, loops2O k, [])
  | 0, _ => loops2_0
  | 1, _ => loops2_1
  | 2, _ => loops2_2
  | 3, _ => loops2_3
  | 4, _ => loops2_4
  | 5, _ => loops2_5
  | 6, _ => loops2_6
  | 7, _ => loops2_7
  | 8, _ => loops2_8
  | 9, _ => loops2_9
  | 10, _ => loops2_10
  | 11, _ => loops2_11
  | _ + 12, h => absurd h (by omega)
theorem loops2 (k : Nat) (hk : k < 12) : Plays (loops2T k) (0) (loops2O k).flatten :=
  plays_K _ _ _ (loops2R k hk) (fam_of (fun k => okB (loops2T k)) 12 (by kernel_rfl) k hk)
def loops3T (k : Nat) : List (List Tk) := [[.c 58, .c 32, .c 102, .c 32, .c 98, .c 101, .c 103, .c 105, .c 110, .c 32, .c 100, .c 117, .c 112, .c 32, .c 46, .c 32, .c 49, .c 32, .c 45, .c 32, .c 100, .c 117, .c 112, .c 32, .c 48, .c 61, .c 32, .c 117, .c 110, .c 116, .c 105, .c 108, .c 32, .c 100, .c 114, .c 111, .c 112, .c 32, .c 59, .c 32, .n (((k + 1 : Nat) : Int)) 10, .c 32, .c 102]]
def loops3O (k : Nat) : List (List UInt8) := bys (k + 1) fun j => num10 (k + 1 - j : Nat)
set_option maxRecDepth 100000 in
theorem loops3_0 : runB (loops3T 0) = some (0, loops3O 0, []) := by kernel_rfl
set_option maxRecDepth 100000 in
theorem loops3_1 : runB (loops3T 1) = some (0, loops3O 1, []) := by kernel_rfl
set_option maxRecDepth 100000 in
theorem loops3_2 : runB (loops3T 2) = some (0, loops3O 2, []) := by kernel_rfl
set_option maxRecDepth 100000 in
theorem loops3_3 : runB (loops3T 3) = some (0, loops3O 3, []) := by kernel_rfl
set_option maxRecDepth 100000 in
theorem loops3_4 : runB (loops3T 4) = some (0, loops3O 4, []) := by kernel_rfl
set_option maxRecDepth 100000 in
theorem loops3_5 : runB (loops3T 5) = some (0, loops3O 5, []) := by kernel_rfl
set_option maxRecDepth 100000 in
theorem loops3_6 : runB (loops3T 6) = some (0, loops3O 6, []) := by kernel_rfl
set_option maxRecDepth 100000 in
theorem loops3_7 : runB (loops3T 7) = some (0, loops3O 7, []) := by kernel_rfl
set_option maxRecDepth 100000 in
theorem loops3_8 : runB (loops3T 8) = some (0, loops3O 8, []) := by kernel_rfl
set_option maxRecDepth 100000 in
theorem loops3_9 : runB (loops3T 9) = some (0, loops3O 9, []) := by kernel_rfl
set_option maxRecDepth 100000 in
theorem loops3_10 : runB (loops3T 10) = some (0, loops3O 10, []) := by kernel_rfl
set_option maxRecDepth 100000 in
theorem loops3_11 : runB (loops3T 11) = some (0, loops3O 11, []) := by kernel_rfl
theorem loops3R : ∀ k, k < 12 → runB (loops3T k) = some (0, loops3O k, [])
  | 0, _ => loops3_0
  | 1, _ => loops3_1
  | 2, _ => loops3_2
  | 3, _ => loops3_3
  | 4, _ => loops3_4
  | 5, _ => loops3_5
  | 6, _ => loops3_6
  | 7, _ => loops3_7
  | 8, _ => loops3_8
  | 9, _ => loops3_9
  | 10, _ => loops3_10
  | 11, _ => loops3_11
  | _ + 12, h => absurd h (by omega)
theorem loops3 (k : Nat) (hk : k < 12) : Plays (loops3T k) (0) (loops3O k).flatten :=
  plays_K _ _ _ (loops3R k hk) (fam_of (fun k => okB (loops3T k)) 12 (by kernel_rfl) k hk)
def loops4T (k : Nat) : List (List Tk) := [[.c 58, .c 32, .c 102, .c 32, .c 98, .c 101, .c 103, .c 105, .c 110, .c 32, .c 100, .c 117, .c 112, .c 32, .c 48, .c 61, .c 32, .c 105, .c 110, .c 118, .c 101, .c 114, .c 116, .c 32, .c 119, .c 104, .c 105, .c 108, .c 101, .c 32, .c 100, .c 117, .c 112, .c 32, .c 46, .c 32, .c 49, .c 32, .c 45, .c 32, .c 114, .c 101, .c 112, .c 101, .c 97, .c 116, .c 32, .c 100, .c 114, .c 111, .c 112, .c 32, .c 59, .c 32, .n (((k + 1 : Nat) : Int)) 10, .c 32, .c 102]]
def loops4O (k : Nat) : List (List UInt8) := bys (k + 1) fun j => num10 (k + 1 - j : Nat)
set_option maxRecDepth 100000 in
theorem loops4_0 : runB (loops4T 0) = some (0, loops4O 0, []) := by kernel_rfl
set_option maxRecDepth 100000 in
theorem loops4_1 : runB (loops4T 1) = some (0, loops4O 1, []) := by kernel_rfl
set_option maxRecDepth 100000 in
theorem loops4_2 : runB (loops4T 2) = some (0, loops4O 2, []) := by kernel_rfl
set_option maxRecDepth 100000 in
theorem loops4_3 : runB (loops4T 3) = some (0, loops4O 3, []) := by kernel_rfl
set_option maxRecDepth 100000 in
theorem loops4_4 : runB (loops4T 4) = some (0, loops4O 4, []) := by kernel_rfl
set_option maxRecDepth 100000 in
theorem loops4_5 : runB (loops4T 5) = some (0, loops4O 5, []) := by kernel_rfl
set_option maxRecDepth 100000 in
theorem loops4_6 : runB (loops4T 6) = some (0, loops4O 6, []) := by kernel_rfl
set_option maxRecDepth 100000 in
theorem loops4_7 : runB (loops4T 7) = some (0, loops4O 7, []) := by kernel_rfl
set_option maxRecDepth 100000 in
theorem loops4_8 : runB (loops4T 8) = some (0, loops4O 8, []) := by kernel_rfl
set_option maxRecDepth 100000 in
theorem loops4_9 : runB (loops4T 9) = some (0, loops4O 9, []) := by kernel_rfl
set_option maxRecDepth 100000 in
theorem loops4_10 : runB (loops4T 10) = some (0, loops4O 10, []) := by kernel_rfl
set_option maxRecDepth 100000 in
theorem loops4_11 : runB (loops4T 11) = some (0, loops4O 11, []) := by kernel_rfl
theorem loops4R : ∀ k, k < 12 → runB (loops4T k) = some (0, loops4O k, [])
  | 0, _ => loops4_0
  | 1, _ => loops4_1
  | 2, _ => loops4_2
  | 3, _ => loops4_3
  | 4, _ => loops4_4
  | 5, _ => loops4_5
  | 6, _ => loops4_6
  | 7, _ => loops4_7
  | 8, _ => loops4_8
  | 9, _ => loops4_9
  | 10, _ => loops4_10
  | 11, _ => loops4_11
  | _ + 12, h => absurd h (by omega)
theorem loops4 (k : Nat) (hk : k < 12) : Plays (loops4T k) (0) (loops4O k).flatten :=
  plays_K _ _ _ (loops4R k hk) (fam_of (fun k => okB (loops4T k)) 12 (by kernel_rfl) k hk)
def loops5T (k : Nat) : List (List Tk) := [[.c 58, .c 32, .c 102, .c 32, .c 48, .c 32, .c 115, .c 119, .c 97, .c 112, .c 32, .c 48, .c 32, .c 100, .c 111, .c 32, .c 49, .c 32, .c 43, .c 32, .c 50, .c 32, .c 43, .c 108, .c 111, .c 111, .c 112, .c 32, .c 59, .c 32, .n (((k + 1 : Nat) : Int)) 10, .c 32, .c 102, .c 32, .c 46]]
def loops5O (k : Nat) : List (List UInt8) := [num10 ((k + 2) / 2 : Nat)]
set_option maxRecDepth 100000 in
theorem loops5_0 : runB (loops5T 0) = some (0, loops5O 0, []) := by kernel_rfl
set_option maxRecDepth 100000 in
theorem loops5_1 : runB (loops5T 1) = some (0, loops5O 1, []) := by kernel_rfl
set_option maxRecDepth 100000 in
theorem loops5_2 : runB (loops5T 2) = some (0, loops5O 2, []) := by kernel_rfl
set_option maxRecDepth 100000 in
theorem loops5_3 : runB (loops5T 3) = some (0, loops5O 3, []) := by kernel_rfl
set_option maxRecDepth 100000 in
theorem loops5_4 : runB (loops5T 4) = some (0, loops5O 4, []) := by kernel_rfl
set_option maxRecDepth 100000 in
theorem loops5_5 : runB (loops5T 5) = some (0, loops5O 5, []) := by kernel_rfl
set_option maxRecDepth 100000 in
theorem loops5_6 : runB (loops5T 6) = some (0, loops5O 6, []) := by kernel_rfl
set_option maxRecDepth 100000 in
theorem loops5_7 : runB (loops5T 7) = some (0, loops5O 7, []) := by kernel_rfl
set_option maxRecDepth 100000 in
theorem loops5_8 : runB (loops5T 8) = some (0, loops5O 8, []) := by kernel_rfl
set_option maxRecDepth 100000 in
theorem loops5_9 : runB (loops5T 9) = some (0, loops5O 9, []) := by kernel_rfl
set_option maxRecDepth 100000 in
theorem loops5_10 : runB (loops5T 10) = some (0, loops5O 10, []) := by kernel_rfl
set_option maxRecDepth 100000 in
theorem loops5_11 : runB (loops5T 11) = some (0, loops5O 11, []) := by kernel_rfl
theorem loops5R : ∀ k, k < 12 → runB (loops5T k) = some (0, loops5O k, [])
  | 0, _ => loops5_0
  | 1, _ => loops5_1
  | 2, _ => loops5_2
  | 3, _ => loops5_3
  | 4, _ => loops5_4
  | 5, _ => loops5_5
  | 6, _ => loops5_6
  | 7, _ => loops5_7
  | 8, _ => loops5_8
  | 9, _ => loops5_9
  | 10, _ => loops5_10
  | 11, _ => loops5_11
  | _ + 12, h => absurd h (by omega)
theorem loops5 (k : Nat) (hk : k < 12) : Plays (loops5T k) (0) (loops5O k).flatten :=
  plays_K _ _ _ (loops5R k hk) (fam_of (fun k => okB (loops5T k)) 12 (by kernel_rfl) k hk)
end Go.Proofs.YtompdfpjmdnhoaaGreatDoor.Ou
namespace Go.Proofs.YtompdfpjmdnhoaaGreatDoor.Ou
open Go.RowKit Go.Proofs.YtompdfpjmdnhoaaGreatDoor.Rs Go.Proofs.YtompdfpjmdnhoaaGreatDoor.Src Go.Proofs.YtompdfpjmdnhoaaGreatDoor.Ft
theorem sq_small : ∀ k, k < 14 → sq k ≤ 819 := by decide
theorem sq_wrap (i : Nat) (h : i < 13) : wrap64 (((sq i : Nat) : Int) + wrap64 ((i : Int) * (i : Int))) = ((sq (i + 1) : Nat) : Int) := by
  have h1 := sq_small i (by omega)
  have e : ∀ i : Fin 13, wrap64 ((i.1 : Int) * (i.1 : Int)) = ((i.1 * i.1 : Nat) : Int) := by decide +kernel
  have e1 := e ⟨i, h⟩
  have h2 : ∀ i : Fin 13, i.1 * i.1 ≤ 144 := by decide
  have h3 := h2 ⟨i, h⟩
  dsimp only at e1 h3
  rw [e1]
  show _ = ((sq i + i * i : Nat) : Int)
  generalize i * i = z at *
  unfold wrap64
  omega
theorem two_wrap : ∀ k : Fin 12, wrap64 (wrap64 (((k.1 + 1 : Nat) : Int) * ((k.1 + 1 : Nat) : Int))) = (((k.1 + 1) * (k.1 + 1) : Nat) : Int) ∧ wrap64 (((k.1 + 1 : Nat) : Int) * ((k.1 + 1 : Nat) : Int)) = (((k.1 + 1) * (k.1 + 1) : Nat) : Int) ∧ wrap64 (Int.tdiv (wrap64 (((k.1 + 1 : Nat) : Int) + 1)) 2) = (((k.1 + 2) / 2 : Nat) : Int) ∧ (k.1 + 1) * (k.1 + 1) ≤ 144 := by decide +kernel
def downL (n i : Nat) : List UInt8 := ((List.range i).map fun j => num10 ((n - j : Nat) : Int)).flatten
theorem down_step (n i : Nat) : downL n (i + 1) = downL n i ++ num10 ((n - i : Nat) : Int) := by
  unfold downL
  rw [List.range_succ, List.map_append, List.flatten_append]
  simp
set_option maxHeartbeats 8000000 in
set_option maxRecDepth 100000 in
theorem loops_in (k : Nat) (hk : k < 12)  (w : World) (A : Ahead w w) :
    Calls Tryz.prog 7 #[.int .i64 ((k + 1 : Nat) : Int)] w fun e w' => e = .returned (.bool true) ∧ Below w.heap.size w w' := by
  have HAl := Lib.hid (fun w1 A1 => alive_any w w1 A1)
  have hs := sq_small (k + 1) (by omega)
  have hw := two_wrap ⟨k, hk⟩
  dsimp only at hw
  have hq : (((k + 1) * (k + 1) : Nat) : Int) ≤ 144 := Int.ofNat_le.2 hw.2.2.2
  have h1 : decide (((k + 1 : Nat) : Int) < 1) = false := by simp; omega
  have h2 : decide (12 < ((k + 1 : Nat) : Int)) = false := by simp; omega
  have h5 : ¬ ((k + 1 : Nat) : Int) < 1 := by omega
  have h6 : ¬ (12 : Int) < ((k + 1 : Nat) : Int) := by omega
  have HQ1 := Lib.hid hw.2.1
  have HH1 := Lib.hid hw.2.2.1
  have HH2 := Lib.hid (show (((k + 1 : Nat) : Int) + 1) / 2 = (((k + 2) / 2 : Nat) : Int) by omega)
  have HX := Lib.hid (fun w => num_any (((k + 1 : Nat) : Int)) (by unfold Mc.In; omega) w)
  obtain ⟨X, eX, sX⟩ := num_some (((k + 1 : Nat) : Int)) 10 (by unfold Mc.In; omega) (by decide)
  have HS := Lib.hid (fun w => num_any (((sq (k + 1) : Nat) : Int)) (by unfold Mc.In; omega) w)
  obtain ⟨S, eS, sS⟩ := num_some (((sq (k + 1) : Nat) : Int)) 10 (by unfold Mc.In; omega) (by decide)
  have HQ := Lib.hid (fun w => num_any ((((k + 1) * (k + 1) : Nat) : Int)) ⟨by have : (0 : Int) ≤ (((k + 1) * (k + 1) : Nat) : Int) := Int.natCast_nonneg _; omega, by omega⟩ w)
  obtain ⟨Q, eQ, sQ⟩ := num_some ((((k + 1) * (k + 1) : Nat) : Int)) 10 ⟨by have : (0 : Int) ≤ (((k + 1) * (k + 1) : Nat) : Int) := Int.natCast_nonneg _; omega, by omega⟩ (by decide)
  have HH := Lib.hid (fun w => num_any ((((k + 2) / 2 : Nat) : Int)) ⟨by have : (0 : Int) ≤ (((k + 2) / 2 : Nat) : Int) := Int.natCast_nonneg _; omega, by omega⟩ w)
  obtain ⟨H, eH, sH⟩ := num_some ((((k + 2) / 2 : Nat) : Int)) 10 ⟨by have : (0 : Int) ≤ (((k + 2) / 2 : Nat) : Int) := Int.natCast_nonneg _; omega, by omega⟩ (by decide)
  have P1 := Lib.hid (fun w1 A1 => tells1 w (⟨#[58, 32, 102, 32, 48, 32, 115, 119, 97, 112, 32, 48, 32, 100, 111, 32, 105, 32, 105, 32, 42, 32, 43, 32, 108, 111, 111, 112, 32, 59, 32]⟩ ++ X ++ ⟨#[32, 102, 32, 46]⟩) (S ++ ⟨#[32]⟩) _ _ (loops1 k hk) (by rw [(str_join _ _ (([58, 32, 102, 32, 48, 32, 115, 119, 97, 112, 32, 48, 32, 100, 111, 32, 105, 32, 105, 32, 42, 32, 43, 32, 108, 111, 111, 112, 32, 59, 32]) ++ Dg.putV (((k + 1 : Nat) : Int)) 10) ([32, 102, 32, 46]) (str_join _ _ ([58, 32, 102, 32, 48, 32, 115, 119, 97, 112, 32, 48, 32, 100, 111, 32, 105, 32, 105, 32, 42, 32, 43, 32, 108, 111, 111, 112, 32, 59, 32]) (Dg.putV (((k + 1 : Nat) : Int)) 10) rfl eX) rfl)]; simp [flat, Tk.bytes, loops1T, loops2T, loops3T, loops4T, loops5T]) (by rw [(str_join _ _ (Dg.putV (((sq (k + 1) : Nat) : Int)) 10) ([32]) eS rfl)]; simp [loops1O, loops2O, loops5O, num10]) w1 A1)
  have P2 := Lib.hid (fun w1 A1 => tells1 w (⟨#[58, 32, 102, 32, 48, 32, 115, 119, 97, 112, 32, 100, 117, 112, 32, 48, 32, 100, 111, 32, 100, 117, 112, 32, 48, 32, 100, 111, 32, 115, 119, 97, 112, 32, 49, 32, 43, 32, 115, 119, 97, 112, 32, 108, 111, 111, 112, 32, 108, 111, 111, 112, 32, 100, 114, 111, 112, 32, 59, 32]⟩ ++ X ++ ⟨#[32, 102, 32, 46]⟩) (Q ++ ⟨#[32]⟩) _ _ (loops2 k hk) (by rw [(str_join _ _ (([58, 32, 102, 32, 48, 32, 115, 119, 97, 112, 32, 100, 117, 112, 32, 48, 32, 100, 111, 32, 100, 117, 112, 32, 48, 32, 100, 111, 32, 115, 119, 97, 112, 32, 49, 32, 43, 32, 115, 119, 97, 112, 32, 108, 111, 111, 112, 32, 108, 111, 111, 112, 32, 100, 114, 111, 112, 32, 59, 32]) ++ Dg.putV (((k + 1 : Nat) : Int)) 10) ([32, 102, 32, 46]) (str_join _ _ ([58, 32, 102, 32, 48, 32, 115, 119, 97, 112, 32, 100, 117, 112, 32, 48, 32, 100, 111, 32, 100, 117, 112, 32, 48, 32, 100, 111, 32, 115, 119, 97, 112, 32, 49, 32, 43, 32, 115, 119, 97, 112, 32, 108, 111, 111, 112, 32, 108, 111, 111, 112, 32, 100, 114, 111, 112, 32, 59, 32]) (Dg.putV (((k + 1 : Nat) : Int)) 10) rfl eX) rfl)]; simp [flat, Tk.bytes, loops1T, loops2T, loops3T, loops4T, loops5T]) (by rw [(str_join _ _ (Dg.putV ((((k + 1) * (k + 1) : Nat) : Int)) 10) ([32]) eQ rfl)]; simp [loops1O, loops2O, loops5O, num10]) w1 A1)
  have P3 := Lib.hid (fun (dn : ByteArray) (hd : dn = ⟨(downL (k + 1) (k + 1)).toArray⟩) w1 A1 => tells1 w (⟨#[58, 32, 102, 32, 98, 101, 103, 105, 110, 32, 100, 117, 112, 32, 46, 32, 49, 32, 45, 32, 100, 117, 112, 32, 48, 61, 32, 117, 110, 116, 105, 108, 32, 100, 114, 111, 112, 32, 59, 32]⟩ ++ X ++ ⟨#[32, 102]⟩) dn _ _ (loops3 k hk) (by rw [(str_join _ _ (([58, 32, 102, 32, 98, 101, 103, 105, 110, 32, 100, 117, 112, 32, 46, 32, 49, 32, 45, 32, 100, 117, 112, 32, 48, 61, 32, 117, 110, 116, 105, 108, 32, 100, 114, 111, 112, 32, 59, 32]) ++ Dg.putV (((k + 1 : Nat) : Int)) 10) ([32, 102]) (str_join _ _ ([58, 32, 102, 32, 98, 101, 103, 105, 110, 32, 100, 117, 112, 32, 46, 32, 49, 32, 45, 32, 100, 117, 112, 32, 48, 61, 32, 117, 110, 116, 105, 108, 32, 100, 114, 111, 112, 32, 59, 32]) (Dg.putV (((k + 1 : Nat) : Int)) 10) rfl eX) rfl)]; simp [flat, Tk.bytes, loops1T, loops2T, loops3T, loops4T, loops5T]) (by rw [hd]; rfl) w1 A1)
  have P4 := Lib.hid (fun (dn : ByteArray) (hd : dn = ⟨(downL (k + 1) (k + 1)).toArray⟩) w1 A1 => tells1 w (⟨#[58, 32, 102, 32, 98, 101, 103, 105, 110, 32, 100, 117, 112, 32, 48, 61, 32, 105, 110, 118, 101, 114, 116, 32, 119, 104, 105, 108, 101, 32, 100, 117, 112, 32, 46, 32, 49, 32, 45, 32, 114, 101, 112, 101, 97, 116, 32, 100, 114, 111, 112, 32, 59, 32]⟩ ++ X ++ ⟨#[32, 102]⟩) dn _ _ (loops4 k hk) (by rw [(str_join _ _ (([58, 32, 102, 32, 98, 101, 103, 105, 110, 32, 100, 117, 112, 32, 48, 61, 32, 105, 110, 118, 101, 114, 116, 32, 119, 104, 105, 108, 101, 32, 100, 117, 112, 32, 46, 32, 49, 32, 45, 32, 114, 101, 112, 101, 97, 116, 32, 100, 114, 111, 112, 32, 59, 32]) ++ Dg.putV (((k + 1 : Nat) : Int)) 10) ([32, 102]) (str_join _ _ ([58, 32, 102, 32, 98, 101, 103, 105, 110, 32, 100, 117, 112, 32, 48, 61, 32, 105, 110, 118, 101, 114, 116, 32, 119, 104, 105, 108, 101, 32, 100, 117, 112, 32, 46, 32, 49, 32, 45, 32, 114, 101, 112, 101, 97, 116, 32, 100, 114, 111, 112, 32, 59, 32]) (Dg.putV (((k + 1 : Nat) : Int)) 10) rfl eX) rfl)]; simp [flat, Tk.bytes, loops1T, loops2T, loops3T, loops4T, loops5T]) (by rw [hd]; rfl) w1 A1)
  have P5 := Lib.hid (fun w1 A1 => tells1 w (⟨#[58, 32, 102, 32, 48, 32, 115, 119, 97, 112, 32, 48, 32, 100, 111, 32, 49, 32, 43, 32, 50, 32, 43, 108, 111, 111, 112, 32, 59, 32]⟩ ++ X ++ ⟨#[32, 102, 32, 46]⟩) (H ++ ⟨#[32]⟩) _ _ (loops5 k hk) (by rw [(str_join _ _ (([58, 32, 102, 32, 48, 32, 115, 119, 97, 112, 32, 48, 32, 100, 111, 32, 49, 32, 43, 32, 50, 32, 43, 108, 111, 111, 112, 32, 59, 32]) ++ Dg.putV (((k + 1 : Nat) : Int)) 10) ([32, 102, 32, 46]) (str_join _ _ ([58, 32, 102, 32, 48, 32, 115, 119, 97, 112, 32, 48, 32, 100, 111, 32, 49, 32, 43, 32, 50, 32, 43, 108, 111, 111, 112, 32, 59, 32]) (Dg.putV (((k + 1 : Nat) : Int)) 10) rfl eX) rfl)]; simp [flat, Tk.bytes, loops1T, loops2T, loops3T, loops4T, loops5T]) (by rw [(str_join _ _ (Dg.putV ((((k + 2) / 2 : Nat) : Int)) 10) ([32]) eH rfl)]; simp [loops1O, loops2O, loops5O, num10]) w1 A1)
  rw [← eX] at HX
  rw [← eS] at HS
  rw [← eQ] at HQ
  rw [← eH] at HH
  have HN := Lib.hid (fun (v : Int) (hv : Mc.In v) w => num_any v hv w)
  have hn : k + 1 ≤ 12 := by omega
  generalize k + 1 = n at *
  have HA := Lib.hid A
  clear A eX eS eQ eH hs hw hq hk
  go_enter Tryz.func7, Tryz.ntmps7
  go_wp2_with fail
  refine (HAl.out _ HA.out).mono ?_
  rintro e w1 ⟨rfl, k⟩
  have A1 := Lib.hid (HA.out.next k)
  have K1 := Lib.hid k
  clear k
  go_wp2_with fail
  refine (HX.out _).mono ?_
  rintro e w2 ⟨rfl, rfl⟩
  go_wp2_with fail
  go_loopg [4, 5, 6] (n) (fun gg v4 v5 v6 wr => ∃ (i : Nat) (dn : ByteArray), gg = n - i ∧ v4 = .int .i64 (((sq i : Nat) : Int)) ∧ v5 = .string dn ∧ v6 = .int .i64 (i : Int) ∧ Hid (i ≤ n) ∧ Hid (dn = ⟨(downL n i).toArray⟩) ∧ dn.size ≤ 66 * i ∧ wr = w1)
  case atStart => exact ⟨0, ⟨#[]⟩, rfl, rfl, rfl, rfl, Nat.zero_le _, rfl, Nat.le_refl _, rfl⟩
  case round =>
    obtain ⟨i, dn, hg, rfl, rfl, rfl, Hi, HD, hsz, rfl⟩ := hrel
    have Hg := Lib.hid hg
    clear hg
    by_cases hlt : i < n
    · have g1 : (i : Int) < (n : Int) := by omega
      have g2 : decide ((i : Int) < (n : Int)) = true := by simpa using hlt
      have g3 : decide (i < n) = true := by simpa using hlt
      have HW := Lib.hid (sq_wrap i (by omega))
      have HI := Lib.hid (show wrap64 ((i : Int) + 1) = ((i + 1 : Nat) : Int) by unfold wrap64; omega)
      have HJ := Lib.hid (show (i : Int) + 1 = ((i + 1 : Nat) : Int) from rfl)
      have HS := Lib.hid (show wrap64 ((n : Int) - (i : Int)) = ((n - i : Nat) : Int) by unfold wrap64; omega)
      have Hlt := Lib.hid hlt
      have hs2 : dn.size ≤ 800 := by omega
      have HS2 := Lib.hid (show (n : Int) - (i : Int) = ((n - i : Nat) : Int) by omega)
      have HNi := Lib.hid (fun w => num_any ((n - i : Nat) : Int) (by unfold Mc.In; omega) w)
      obtain ⟨Y, eY, sY⟩ := num_some ((n - i : Nat) : Int) 10 (by unfold Mc.In; omega) (by decide)
      rw [← eY] at HNi
      have HE := Lib.hid eY
      have HSz := Lib.hid hsz
      clear eY hsz
      go_wp2_with fail
      first | rw [HS.out] | rw [HS2.out]
      refine (HNi.out _).mono ?_
      rintro e w2 ⟨rfl, rfl⟩
      go_wp2_with fail
      first | rw [HW.out] | skip
      first | rw [HI.out] | rw [HJ.out]
      go_roundg (n - (i + 1))
      case rel =>
        refine ⟨i + 1, dn ++ (Y ++ ⟨#[32]⟩), rfl, rfl, rfl, rfl, Hlt.out, ?_, ?_, rfl⟩
        · show _ = _
          rw [down_step, HE.out]
          exact str_join _ _ _ _ HD.out (str_join _ _ _ [32] rfl rfl)
        · have := HSz.out
          simp only [ByteArray.size_append]
          have e1 : (⟨#[32]⟩ : ByteArray).size = 1 := rfl
          omega
      case measure => rw [Hg.out]; have := Hlt.out; omega
    · have g1 : ¬ (i : Int) < (n : Int) := by omega
      have g2 : decide ((i : Int) < (n : Int)) = false := by simpa using hlt
      have g3 : decide (i < n) = false := by simpa using hlt
      obtain rfl : i = n := by have := Hi.out; omega
      clear hlt Hi Hg
      go_wp2_with fail
      refine (HS.out _).mono ?_
      rintro e w2 ⟨rfl, rfl⟩
      go_wp2_with fail
      refine (P1.out _ A1.out).mono ?_
      rintro e w2 ⟨rfl, k⟩
      have A2 := Lib.hid (A1.out.next k)
      have K2 := Lib.hid (K1.out.trans (k.mono K1.out.size))
      clear k K1 A1
      go_wp2_with fail
      rw [HQ1.out]
      go_wp2_with fail
      refine (HQ.out _).mono ?_
      rintro e w3 ⟨rfl, rfl⟩
      go_wp2_with fail
      refine (P2.out _ A2.out).mono ?_
      rintro e w3 ⟨rfl, k⟩
      have A3 := Lib.hid (A2.out.next k)
      have K3 := Lib.hid (K2.out.trans (k.mono K2.out.size))
      clear k K2 A2
      have P3b := Lib.hid (P3.out _ HD.out)
      have P4b := Lib.hid (P4.out _ HD.out)
      go_wp2_with fail
      refine (P3b.out _ A3.out).mono ?_
      rintro e w4 ⟨rfl, k⟩
      have A4 := Lib.hid (A3.out.next k)
      have K4 := Lib.hid (K3.out.trans (k.mono K3.out.size))
      clear k K3 A3
      go_wp2_with fail
      refine (P4b.out _ A4.out).mono ?_
      rintro e w5 ⟨rfl, k⟩
      have A5 := Lib.hid (A4.out.next k)
      have K5 := Lib.hid (K4.out.trans (k.mono K4.out.size))
      clear k K4 A4
      go_wp2_with fail
      first | rw [HH1.out] | rw [HH2.out]
      go_wp2_with fail
      refine (HH.out _).mono ?_
      rintro e w6 ⟨rfl, rfl⟩
      go_wp2_with fail
      refine (P5.out _ A5.out).mono ?_
      rintro e w6 ⟨rfl, k⟩
      have A6 := Lib.hid (A5.out.next k)
      have K6 := Lib.hid (K5.out.trans (k.mono K5.out.size))
      clear k K5 A5
      go_wp2_with fail
      go_ret
      exact ⟨rfl, K6.out⟩
set_option maxHeartbeats 8000000 in
set_option maxRecDepth 100000 in
theorem loops_low (n : Int) (h : n < 1)  (w : World) (A : Ahead w w) :
    Calls Tryz.prog 7 #[.int .i64 n] w fun e w' => e = .returned (.bool true) ∧ Below w.heap.size w w' := by
  have HAl := Lib.hid (fun w1 A1 => alive_any w w1 A1)
  have h1 : decide (n < 1) = true := by simp; omega
  have h5 : n < 1 := h
  have HA := Lib.hid A
  clear A h
  go_enter Tryz.func7, Tryz.ntmps7
  go_wp2_with fail
  refine (HAl.out _ HA.out).mono ?_
  rintro e w1 ⟨rfl, k⟩
  have A1 := Lib.hid (HA.out.next k)
  have K1 := Lib.hid k
  clear k
  go_wp2_with fail
  go_ret
  exact ⟨rfl, K1.out⟩
set_option maxHeartbeats 8000000 in
set_option maxRecDepth 100000 in
theorem loops_high (n : Int) (h : 12 < n)  (w : World) (A : Ahead w w) :
    Calls Tryz.prog 7 #[.int .i64 n] w fun e w' => e = .returned (.bool true) ∧ Below w.heap.size w w' := by
  have HAl := Lib.hid (fun w1 A1 => alive_any w w1 A1)
  have h1 : decide (n < 1) = false := by simp; omega
  have h2 : decide (12 < n) = true := by simp; omega
  have h5 : ¬ n < 1 := by omega
  have h6 : 12 < n := h
  have HA := Lib.hid A
  clear A h
  go_enter Tryz.func7, Tryz.ntmps7
  go_wp2_with fail
  refine (HAl.out _ HA.out).mono ?_
  rintro e w1 ⟨rfl, k⟩
  have A1 := Lib.hid (HA.out.next k)
  have K1 := Lib.hid k
  clear k
  go_wp2_with fail
  go_ret
  exact ⟨rfl, K1.out⟩
set_option maxHeartbeats 8000000 in
set_option maxRecDepth 100000 in
theorem loops_walk (n : Int)  (w : World) (A : Ahead w w) :
    Calls Tryz.prog 7 #[.int .i64 n] w fun e w' => e = .returned (.bool true) ∧ Below w.heap.size w w' := by
  by_cases h1 : n < 1
  · exact loops_low n h1 w A
  by_cases h2 : 12 < n
  · exact loops_high n h2 w A
  obtain ⟨k, rfl⟩ : ∃ k : Nat, n = ((k + 1 : Nat) : Int) := ⟨(n - 1).toNat, by omega⟩
  exact loops_in k (by omega) w A
end Go.Proofs.YtompdfpjmdnhoaaGreatDoor.Ou
