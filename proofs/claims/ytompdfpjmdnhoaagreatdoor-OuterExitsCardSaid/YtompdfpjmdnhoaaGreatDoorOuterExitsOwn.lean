/-
  Lemmas on the way, for every input that they name: OvL, OvE, OvF, OqX.
-/
import Derived.Test.YtompdfpjmdnhoaaGreatDoorQ36
import Derived.Test.YtompdfpjmdnhoaaGreatDoorQ37
set_option linter.unusedVariables false
set_option linter.unusedSimpArgs false
set_option linter.deprecated false
namespace Go.Proofs.YtompdfpjmdnhoaaGreatDoor.Ou
open Go.RowKit Go.Proofs.YtompdfpjmdnhoaaGreatDoor.Mc
def one1 (l : List UInt8) : List (List UInt8) := l.map fun c => [c]
def num10 (v : Int) : List UInt8 := Dg.putV v 10 ++ [32]
theorem exits2 : Plays [[.c 58, .c 32, .c 103, .c 32, .c 46, .c 34, .c 32, .c 97, .c 34, .c 32, .c 101, .c 120, .c 105, .c 116, .c 32, .c 46, .c 34, .c 32, .c 98, .c 34, .c 32, .c 59, .c 32, .c 103]] 0 (one1 [97]).flatten := plays_K _ _ _ (by kernel_rfl) (by kernel_rfl)
end Go.Proofs.YtompdfpjmdnhoaaGreatDoor.Ou
namespace Go.Proofs.YtompdfpjmdnhoaaGreatDoor.Ou
open Go.RowKit Go.Proofs.YtompdfpjmdnhoaaGreatDoor.Mc
def exits1T (n k : Nat) : List (List Tk) := [[.c 58, .c 32, .c 102, .c 32, .c 48, .c 32, .c 100, .c 111, .c 32, .c 105, .c 32, .n ((k : Int)) 10, .c 32, .c 61, .c 32, .c 105, .c 102, .c 32, .c 105, .c 32, .c 46, .c 32, .c 117, .c 110, .c 108, .c 111, .c 111, .c 112, .c 32, .c 101, .c 120, .c 105, .c 116, .c 32, .c 116, .c 104, .c 101, .c 110, .c 32, .c 108, .c 111, .c 111, .c 112, .c 32, .c 46, .c 34, .c 32, .c 110, .c 111, .c 110, .c 101, .c 34, .c 32, .c 59, .c 32, .n (((n + 1 : Nat) : Int)) 10, .c 32, .c 102]]
set_option maxRecDepth 100000 in
theorem exits1L0 : ((List.range 1).map fun k => runB (exits1T 0 k)) = (List.range 1).map fun k : Nat => some ((0 : Int), [num10 k], ([] : List (Bool × Bool))) := by kernel_rfl
set_option maxRecDepth 100000 in
theorem exits1L1 : ((List.range 2).map fun k => runB (exits1T 1 k)) = (List.range 2).map fun k : Nat => some ((0 : Int), [num10 k], ([] : List (Bool × Bool))) := by kernel_rfl
set_option maxRecDepth 100000 in
theorem exits1L2 : ((List.range 3).map fun k => runB (exits1T 2 k)) = (List.range 3).map fun k : Nat => some ((0 : Int), [num10 k], ([] : List (Bool × Bool))) := by kernel_rfl
set_option maxRecDepth 100000 in
theorem exits1L3 : ((List.range 4).map fun k => runB (exits1T 3 k)) = (List.range 4).map fun k : Nat => some ((0 : Int), [num10 k], ([] : List (Bool × Bool))) := by kernel_rfl
set_option maxRecDepth 100000 in
theorem exits1L4 : ((List.range 5).map fun k => runB (exits1T 4 k)) = (List.range 5).map fun k : Nat => some ((0 : Int), [num10 k], ([] : List (Bool × Bool))) := by kernel_rfl
set_option maxRecDepth 100000 in
theorem exits1L5 : ((List.range 6).map fun k => runB (exits1T 5 k)) = (List.range 6).map fun k : Nat => some ((0 : Int), [num10 k], ([] : List (Bool × Bool))) := by kernel_rfl
set_option maxRecDepth 100000 in
theorem exits1L6 : ((List.range 7).map fun k => runB (exits1T 6 k)) = (List.range 7).map fun k : Nat => some ((0 : Int), [num10 k], ([] : List (Bool × Bool))) := by kernel_rfl
set_option maxRecDepth 100000 in
theorem exits1L7 : ((List.range 8).map fun k => runB (exits1T 7 k)) = (List.range 8).map fun k : Nat => some ((0 : Int), [num10 k], ([] : List (Bool × Bool))) := by kernel_rfl
set_option maxRecDepth 100000 in
theorem exits1L8 : ((List.range 9).map fun k => runB (exits1T 8 k)) = (List.range 9).map fun k : Nat => some ((0 : Int), [num10 k], ([] : List (Bool × Bool))) := by kernel_rfl
set_option maxRecDepth 100000 in
theorem exits1L9 : ((List.range 10).map fun k => runB (exits1T 9 k)) = (List.range 10).map fun k : Nat => some ((0 : Int), [num10 k], ([] : List (Bool × Bool))) := by kernel_rfl
set_option maxRecDepth 100000 in
theorem exits1L10 : ((List.range 11).map fun k => runB (exits1T 10 k)) = (List.range 11).map fun k : Nat => some ((0 : Int), [num10 k], ([] : List (Bool × Bool))) := by kernel_rfl
set_option maxRecDepth 100000 in
theorem exits1L11 : ((List.range 12).map fun k => runB (exits1T 11 k)) = (List.range 12).map fun k : Nat => some ((0 : Int), [num10 k], ([] : List (Bool × Bool))) := by kernel_rfl
theorem exits1R0 (k : Nat) (hk : k < 1) : runB (exits1T 0 k) = some (0, [num10 k], []) := fam_eq _ (fun k : Nat => some ((0 : Int), [num10 k], ([] : List (Bool × Bool)))) 1 exits1L0 k hk
theorem exits1R1 (k : Nat) (hk : k < 2) : runB (exits1T 1 k) = some (0, [num10 k], []) := fam_eq _ (fun k : Nat => some ((0 : Int), [num10 k], ([] : List (Bool × Bool)))) 2 exits1L1 k hk
theorem exits1R2 (k : Nat) (hk : k < 3) : runB (exits1T 2 k) = some (0, [num10 k], []) := fam_eq _ (fun k : Nat => some ((0 : Int), [num10 k], ([] : List (Bool × Bool)))) 3 exits1L2 k hk
theorem exits1R3 (k : Nat) (hk : k < 4) : runB (exits1T 3 k) = some (0, [num10 k], []) := fam_eq _ (fun k : Nat => some ((0 : Int), [num10 k], ([] : List (Bool × Bool)))) 4 exits1L3 k hk
theorem exits1R4 (k : Nat) (hk : k < 5) : runB (exits1T 4 k) = some (0, [num10 k], []) := fam_eq _ (fun k : Nat => some ((0 : Int), [num10 k], ([] : List (Bool × Bool)))) 5 exits1L4 k hk
theorem exits1R5 (k : Nat) (hk : k < 6) : runB (exits1T 5 k) = some (0, [num10 k], []) := fam_eq _ (fun k : Nat => some ((0 : Int), [num10 k], ([] : List (Bool × Bool)))) 6 exits1L5 k hk
theorem exits1R6 (k : Nat) (hk : k < 7) : runB (exits1T 6 k) = some (0, [num10 k], []) := fam_eq _ (fun k : Nat => some ((0 : Int), [num10 k], ([] : List (Bool × Bool)))) 7 exits1L6 k hk
theorem exits1R7 (k : Nat) (hk : k < 8) : runB (exits1T 7 k) = some (0, [num10 k], []) := fam_eq _ (fun k : Nat => some ((0 : Int), [num10 k], ([] : List (Bool × Bool)))) 8 exits1L7 k hk
theorem exits1R8 (k : Nat) (hk : k < 9) : runB (exits1T 8 k) = some (0, [num10 k], []) := fam_eq _ (fun k : Nat => some ((0 : Int), [num10 k], ([] : List (Bool × Bool)))) 9 exits1L8 k hk
theorem exits1R9 (k : Nat) (hk : k < 10) : runB (exits1T 9 k) = some (0, [num10 k], []) := fam_eq _ (fun k : Nat => some ((0 : Int), [num10 k], ([] : List (Bool × Bool)))) 10 exits1L9 k hk
theorem exits1R10 (k : Nat) (hk : k < 11) : runB (exits1T 10 k) = some (0, [num10 k], []) := fam_eq _ (fun k : Nat => some ((0 : Int), [num10 k], ([] : List (Bool × Bool)))) 11 exits1L10 k hk
theorem exits1R11 (k : Nat) (hk : k < 12) : runB (exits1T 11 k) = some (0, [num10 k], []) := fam_eq _ (fun k : Nat => some ((0 : Int), [num10 k], ([] : List (Bool × Bool)))) 12 exits1L11 k hk
theorem exits1R : ∀ n, n < 12 → ∀ k, k < n + 1 → runB (exits1T n k) = some (0, [num10 k], [])
  | 0, _ => exits1R0
  | 1, _ => exits1R1
  | 2, _ => exits1R2
  | 3, _ => exits1R3
  | 4, _ => exits1R4
  | 5, _ => exits1R5
  | 6, _ => exits1R6
  | 7, _ => exits1R7
  | 8, _ => exits1R8
  | 9, _ => exits1R9
  | 10, _ => exits1R10
  | 11, _ => exits1R11
  | _ + 12, h => absurd h (by omega)
theorem exits1K (n k : Nat) (hn : n < 12) (hk : k < 21) : okB (exits1T n k) = true := fam_of _ 21 (fam_of (fun n => (List.range 21).all fun k => okB (exits1T n k)) 12 (by kernel_rfl) n hn) k hk
theorem exits1 (n k : Nat) (hn : n < 12) (hk : k < n + 1) : Plays (exits1T n k) 0 ([num10 k] : List (List UInt8)).flatten := plays_K _ _ _ (exits1R n hn k hk) (exits1K n k hn (by omega))
end Go.Proofs.YtompdfpjmdnhoaaGreatDoor.Ou
namespace Go.Proofs.YtompdfpjmdnhoaaGreatDoor.Ou
open Go.RowKit Go.Proofs.YtompdfpjmdnhoaaGreatDoor.Mc
def exL (n k : Int) : List Tk := [.c 58, .c 32, .c 102, .c 32, .c 48, .c 32, .c 100, .c 111, .c 32, .c 105, .c 32, .n (k) 10, .c 32, .c 61, .c 32, .c 105, .c 102, .c 32, .c 105, .c 32, .c 46, .c 32, .c 117, .c 110, .c 108, .c 111, .c 111, .c 112, .c 32, .c 101, .c 120, .c 105, .c 116, .c 32, .c 116, .c 104, .c 101, .c 110, .c 32, .c 108, .c 111, .c 111, .c 112, .c 32, .c 46, .c 34, .c 32, .c 110, .c 111, .c 110, .c 101, .c 34, .c 32, .c 59, .c 32, .n (n) 10, .c 32, .c 102]
set_option maxRecDepth 100000 in
theorem exits3_0 (k : Int) (hk : In k) (h0 : decide (0 = k) = false) : Plays [exL 1 k] 0 (one1 [110, 111, 110, 101]).flatten :=
  plays_of [(exL 1 k, [some false, none])] (0) (one1 [110, 111, 110, 101]) [(decide (0 = k), false)] (by kernel_rfl) (by kernel_rfl) (by kernel_rfl) (by kernel_rfl) (show allIn [k, 1] from ⟨hk, (by unfold In; omega), trivial⟩) (by intro p hp; simp only [List.mem_cons, List.not_mem_nil, or_false] at hp; subst hp; assumption)
set_option maxRecDepth 100000 in
theorem exits3_1 (k : Int) (hk : In k) (h0 : decide (1 = k) = false) (h1 : decide (0 = k) = false) : Plays [exL 2 k] 0 (one1 [110, 111, 110, 101]).flatten :=
  plays_of [(exL 2 k, [some false, none, some false, none])] (0) (one1 [110, 111, 110, 101]) [(decide (1 = k), false), (decide (0 = k), false)] (by kernel_rfl) (by kernel_rfl) (by kernel_rfl) (by kernel_rfl) (show allIn [k, 2] from ⟨hk, (by unfold In; omega), trivial⟩) (by intro p hp; simp only [List.mem_cons, List.not_mem_nil, or_false] at hp; rcases hp with rfl | rfl <;> assumption)
set_option maxRecDepth 100000 in
theorem exits3_2 (k : Int) (hk : In k) (h0 : decide (2 = k) = false) (h1 : decide (1 = k) = false) (h2 : decide (0 = k) = false) : Plays [exL 3 k] 0 (one1 [110, 111, 110, 101]).flatten :=
  plays_of [(exL 3 k, [some false, none, some false, none, some false, none])] (0) (one1 [110, 111, 110, 101]) [(decide (2 = k), false), (decide (1 = k), false), (decide (0 = k), false)] (by kernel_rfl) (by kernel_rfl) (by kernel_rfl) (by kernel_rfl) (show allIn [k, 3] from ⟨hk, (by unfold In; omega), trivial⟩) (by intro p hp; simp only [List.mem_cons, List.not_mem_nil, or_false] at hp; rcases hp with rfl | rfl | rfl <;> assumption)
set_option maxRecDepth 100000 in
theorem exits3_3 (k : Int) (hk : In k) (h0 : decide (3 = k) = false) (h1 : decide (2 = k) = false) (h2 : decide (1 = k) = false) (h3 : decide (0 = k) = false) : Plays [exL 4 k] 0 (one1 [110, 111, 110, 101]).flatten :=
  plays_of [(exL 4 k, [some false, none, some false, none, some false, none, some false, none])] (0) (one1 [110, 111, 110, 101]) [(decide (3 = k), false), (decide (2 = k), false), (decide (1 = k), false), (decide (0 = k), false)] (by kernel_rfl) (by kernel_rfl) (by kernel_rfl) (by kernel_rfl) (show allIn [k, 4] from ⟨hk, (by unfold In; omega), trivial⟩) (by intro p hp; simp only [List.mem_cons, List.not_mem_nil, or_false] at hp; rcases hp with rfl | rfl | rfl | rfl <;> assumption)
set_option maxRecDepth 100000 in
theorem exits3_4 (k : Int) (hk : In k) (h0 : decide (4 = k) = false) (h1 : decide (3 = k) = false) (h2 : decide (2 = k) = false) (h3 : decide (1 = k) = false) (h4 : decide (0 = k) = false) : Plays [exL 5 k] 0 (one1 [110, 111, 110, 101]).flatten :=
  plays_of [(exL 5 k, [some false, none, some false, none, some false, none, some false, none, some false, none])] (0) (one1 [110, 111, 110, 101]) [(decide (4 = k), false), (decide (3 = k), false), (decide (2 = k), false), (decide (1 = k), false), (decide (0 = k), false)] (by kernel_rfl) (by kernel_rfl) (by kernel_rfl) (by kernel_rfl) (show allIn [k, 5] from ⟨hk, (by unfold In; omega), trivial⟩) (by intro p hp; simp only [List.mem_cons, List.not_mem_nil, or_false] at hp; rcases hp with rfl | rfl | rfl | rfl | rfl <;> assumption)
set_option maxRecDepth 100000 in
theorem exits3_5 (k : Int) (hk : In k) (h0 : decide (5 = k) = false) (h1 : decide (4 = k) = false) (h2 : decide (3 = k) = false) (h3 : decide (2 = k) = false) (h4 : decide (1 = k) = false) (h5 : decide (0 = k) = false) : Plays [exL 6 k] 0 (one1 [110, 111, 110, 101]).flatten :=
  plays_of [(exL 6 k, [some false, none, some false, none, some false, none, some false, none, some false, none, some false, none])] (0) (one1 [110, 111, 110, 101]) [(decide (5 = k), false), (decide (4 = k), false), (decide (3 = k), false), (decide (2 = k), false), (decide (1 = k), false), (decide (0 = k), false)] (by kernel_rfl) (by kernel_rfl) (by kernel_rfl) (by kernel_rfl) (show allIn [k, 6] from ⟨hk, (by unfold In; omega), trivial⟩) (by intro p hp; simp only [List.mem_cons, List.not_mem_nil, or_false] at hp; rcases hp with rfl | rfl | rfl | rfl | rfl | rfl <;> assumption)
set_option maxRecDepth 100000 in
theorem exits3_6 (k : Int) (hk : In k) (h0 : decide (6 = k) = false) (h1 : decide (5 = k) = false) (h2 : decide (4 = k) = false) (h3 : decide (3 = k) = false) (h4 : decide (2 = k) = false) (h5 : decide (1 = k) = false) (h6 : decide (0 = k) = false) : Plays [exL 7 k] 0 (one1 [110, 111, 110, 101]).flatten :=
  plays_of [(exL 7 k, [some false, none, some false, none, some false, none, some false, none, some false, none, some false, none, some false, none])] (0) (one1 [110, 111, 110, 101]) [(decide (6 = k), false), (decide (5 = k), false), (decide (4 = k), false), (decide (3 = k), false), (decide (2 = k), false), (decide (1 = k), false), (decide (0 = k), false)] (by kernel_rfl) (by kernel_rfl) (by kernel_rfl) (by kernel_rfl) (show allIn [k, 7] from ⟨hk, (by unfold In; omega), trivial⟩) (by intro p hp; simp only [List.mem_cons, List.not_mem_nil, or_false] at hp; rcases hp with rfl | rfl | rfl | rfl | rfl | rfl | rfl <;> assumption)
set_option maxRecDepth 100000 in
theorem exits3_7 (k : Int) (hk : In k) (h0 : decide (7 = k) = false) (h1 : decide (6 = k) = false) (h2 : decide (5 = k) = false) (h3 : decide (4 = k) = false) (h4 : decide (3 = k) = false) (h5 : decide (2 = k) = false) (h6 : decide (1 = k) = false) (h7 : decide (0 = k) = false) : Plays [exL 8 k] 0 (one1 [110, 111, 110, 101]).flatten :=
  plays_of [(exL 8 k, [some false, none, some false, none, some false, none, some false, none, some false, none, some false, none, some false, none, some false, none])] (0) (one1 [110, 111, 110, 101]) [(decide (7 = k), false), (decide (6 = k), false), (decide (5 = k), false), (decide (4 = k), false), (decide (3 = k), false), (decide (2 = k), false), (decide (1 = k), false), (decide (0 = k), false)] (by kernel_rfl) (by kernel_rfl) (by kernel_rfl) (by kernel_rfl) (show allIn [k, 8] from ⟨hk, (by unfold In; omega), trivial⟩) (by intro p hp; simp only [List.mem_cons, List.not_mem_nil, or_false] at hp; rcases hp with rfl | rfl | rfl | rfl | rfl | rfl | rfl | rfl <;> assumption)
set_option maxRecDepth 100000 in
theorem exits3_8 (k : Int) (hk : In k) (h0 : decide (8 = k) = false) (h1 : decide (7 = k) = false) (h2 : decide (6 = k) = false) (h3 : decide (5 = k) = false) (h4 : decide (4 = k) = false) (h5 : decide (3 = k) = false) (h6 : decide (2 = k) = false) (h7 : decide (1 = k) = false) (h8 : decide (0 = k) = false) : Plays [exL 9 k] 0 (one1 [110, 111, 110, 101]).flatten :=
  plays_of [(exL 9 k, [some false, none, some false, none, some false, none, some false, none, some false, none, some false, none, some false, none, some false, none, some false, none])] (0) (one1 [110, 111, 110, 101]) [(decide (8 = k), false), (decide (7 = k), false), (decide (6 = k), false), (decide (5 = k), false), (decide (4 = k), false), (decide (3 = k), false), (decide (2 = k), false), (decide (1 = k), false), (decide (0 = k), false)] (by kernel_rfl) (by kernel_rfl) (by kernel_rfl) (by kernel_rfl) (show allIn [k, 9] from ⟨hk, (by unfold In; omega), trivial⟩) (by intro p hp; simp only [List.mem_cons, List.not_mem_nil, or_false] at hp; rcases hp with rfl | rfl | rfl | rfl | rfl | rfl | rfl | rfl | rfl <;> assumption)
set_option maxRecDepth 100000 in
theorem exits3_9 (k : Int) (hk : In k) (h0 : decide (9 = k) = false) (h1 : decide (8 = k) = false) (h2 : decide (7 = k) = false) (h3 : decide (6 = k) = false) (h4 : decide (5 = k) = false) (h5 : decide (4 = k) = false) (h6 : decide (3 = k) = false) (h7 : decide (2 = k) = false) (h8 : decide (1 = k) = false) (h9 : decide (0 = k) = false) : Plays [exL 10 k] 0 (one1 [110, 111, 110, 101]).flatten :=
  plays_of [(exL 10 k, [some false, none, some false, none, some false, none, some false, none, some false, none, some false, none, some false, none, some false, none, some false, none, some false, none])] (0) (one1 [110, 111, 110, 101]) [(decide (9 = k), false), (decide (8 = k), false), (decide (7 = k), false), (decide (6 = k), false), (decide (5 = k), false), (decide (4 = k), false), (decide (3 = k), false), (decide (2 = k), false), (decide (1 = k), false), (decide (0 = k), false)] (by kernel_rfl) (by kernel_rfl) (by kernel_rfl) (by kernel_rfl) (show allIn [k, 10] from ⟨hk, (by unfold In; omega), trivial⟩) (by intro p hp; simp only [List.mem_cons, List.not_mem_nil, or_false] at hp; rcases hp with rfl | rfl | rfl | rfl | rfl | rfl | rfl | rfl | rfl | rfl <;> assumption)
set_option maxRecDepth 100000 in
theorem exits3_10 (k : Int) (hk : In k) (h0 : decide (10 = k) = false) (h1 : decide (9 = k) = false) (h2 : decide (8 = k) = false) (h3 : decide (7 = k) = false) (h4 : decide (6 = k) = false) (h5 : decide (5 = k) = false) (h6 : decide (4 = k) = false) (h7 : decide (3 = k) = false) (h8 : decide (2 = k) = false) (h9 : decide (1 = k) = false) (h10 : decide (0 = k) = false) : Plays [exL 11 k] 0 (one1 [110, 111, 110, 101]).flatten :=
  plays_of [(exL 11 k, [some false, none, some false, none, some false, none, some false, none, some false, none, some false, none, some false, none, some false, none, some false, none, some false, none, some false, none])] (0) (one1 [110, 111, 110, 101]) [(decide (10 = k), false), (decide (9 = k), false), (decide (8 = k), false), (decide (7 = k), false), (decide (6 = k), false), (decide (5 = k), false), (decide (4 = k), false), (decide (3 = k), false), (decide (2 = k), false), (decide (1 = k), false), (decide (0 = k), false)] (by kernel_rfl) (by kernel_rfl) (by kernel_rfl) (by kernel_rfl) (show allIn [k, 11] from ⟨hk, (by unfold In; omega), trivial⟩) (by intro p hp; simp only [List.mem_cons, List.not_mem_nil, or_false] at hp; rcases hp with rfl | rfl | rfl | rfl | rfl | rfl | rfl | rfl | rfl | rfl | rfl <;> assumption)
set_option maxRecDepth 100000 in
theorem exits3_11 (k : Int) (hk : In k) (h0 : decide (11 = k) = false) (h1 : decide (10 = k) = false) (h2 : decide (9 = k) = false) (h3 : decide (8 = k) = false) (h4 : decide (7 = k) = false) (h5 : decide (6 = k) = false) (h6 : decide (5 = k) = false) (h7 : decide (4 = k) = false) (h8 : decide (3 = k) = false) (h9 : decide (2 = k) = false) (h10 : decide (1 = k) = false) (h11 : decide (0 = k) = false) : Plays [exL 12 k] 0 (one1 [110, 111, 110, 101]).flatten :=
  plays_of [(exL 12 k, [some false, none, some false, none, some false, none, some false, none, some false, none, some false, none, some false, none, some false, none, some false, none, some false, none, some false, none, some false, none])] (0) (one1 [110, 111, 110, 101]) [(decide (11 = k), false), (decide (10 = k), false), (decide (9 = k), false), (decide (8 = k), false), (decide (7 = k), false), (decide (6 = k), false), (decide (5 = k), false), (decide (4 = k), false), (decide (3 = k), false), (decide (2 = k), false), (decide (1 = k), false), (decide (0 = k), false)] (by kernel_rfl) (by kernel_rfl) (by kernel_rfl) (by kernel_rfl) (show allIn [k, 12] from ⟨hk, (by unfold In; omega), trivial⟩) (by intro p hp; simp only [List.mem_cons, List.not_mem_nil, or_false] at hp; rcases hp with rfl | rfl | rfl | rfl | rfl | rfl | rfl | rfl | rfl | rfl | rfl | rfl <;> assumption)
theorem exits3 (n k : Nat) (hn : n < 12) (hk : n < k) (hk2 : k < 21) : Plays (exits1T n k) 0 (one1 [110, 111, 110, 101]).flatten := by
  have hI : In (k : Int) := by unfold In; omega
  match n, hn with
  | 0, _ => exact exits3_0 k hI (by simp; omega)
  | 1, _ => exact exits3_1 k hI (by simp; omega) (by simp; omega)
  | 2, _ => exact exits3_2 k hI (by simp; omega) (by simp; omega) (by simp; omega)
  | 3, _ => exact exits3_3 k hI (by simp; omega) (by simp; omega) (by simp; omega) (by simp; omega)
  | 4, _ => exact exits3_4 k hI (by simp; omega) (by simp; omega) (by simp; omega) (by simp; omega) (by simp; omega)
  | 5, _ => exact exits3_5 k hI (by simp; omega) (by simp; omega) (by simp; omega) (by simp; omega) (by simp; omega) (by simp; omega)
  | 6, _ => exact exits3_6 k hI (by simp; omega) (by simp; omega) (by simp; omega) (by simp; omega) (by simp; omega) (by simp; omega) (by simp; omega)
  | 7, _ => exact exits3_7 k hI (by simp; omega) (by simp; omega) (by simp; omega) (by simp; omega) (by simp; omega) (by simp; omega) (by simp; omega) (by simp; omega)
  | 8, _ => exact exits3_8 k hI (by simp; omega) (by simp; omega) (by simp; omega) (by simp; omega) (by simp; omega) (by simp; omega) (by simp; omega) (by simp; omega) (by simp; omega)
  | 9, _ => exact exits3_9 k hI (by simp; omega) (by simp; omega) (by simp; omega) (by simp; omega) (by simp; omega) (by simp; omega) (by simp; omega) (by simp; omega) (by simp; omega) (by simp; omega)
  | 10, _ => exact exits3_10 k hI (by simp; omega) (by simp; omega) (by simp; omega) (by simp; omega) (by simp; omega) (by simp; omega) (by simp; omega) (by simp; omega) (by simp; omega) (by simp; omega) (by simp; omega)
  | 11, _ => exact exits3_11 k hI (by simp; omega) (by simp; omega) (by simp; omega) (by simp; omega) (by simp; omega) (by simp; omega) (by simp; omega) (by simp; omega) (by simp; omega) (by simp; omega) (by simp; omega) (by simp; omega)
  | _ + 12, h => exact absurd h (by omega)
end Go.Proofs.YtompdfpjmdnhoaaGreatDoor.Ou
namespace Go.Proofs.YtompdfpjmdnhoaaGreatDoor.Ou
open Go.RowKit Go.Proofs.YtompdfpjmdnhoaaGreatDoor.Rs Go.Proofs.YtompdfpjmdnhoaaGreatDoor.Src Go.Proofs.YtompdfpjmdnhoaaGreatDoor.Ft
set_option maxHeartbeats 8000000 in
set_option maxRecDepth 100000 in
theorem exits_w0 (m k : Nat) (hm : m < 12) (hk : k < 21)  (h : k < m + 1) (w : World) (A : Ahead w w) :
    Calls Tryz.prog 8 #[.int .i64 ((m + 1 : Nat) : Int), .int .i64 (k : Int)] w fun e w' => e = .returned (.bool true) ∧ Below w.heap.size w w' := by
  have HAl := Lib.hid (fun w1 A1 => alive_any w w1 A1)
  have h1 : decide (((m + 1 : Nat) : Int) < 1) = false := by simp; omega
  have h2 : decide (12 < ((m + 1 : Nat) : Int)) = false := by simp; omega
  have h3 : decide ((k : Int) < 0) = false := by simp
  have h4 : decide (20 < (k : Int)) = false := by simp; omega
  have h5 : ¬ ((m + 1 : Nat) : Int) < 1 := by omega
  have h6 : ¬ (12 : Int) < ((m + 1 : Nat) : Int) := by omega
  have h7 : ¬ (k : Int) < 0 := by omega
  have h8 : ¬ (20 : Int) < k := by omega
  have h9 : decide ((k : Int) < ((m + 1 : Nat) : Int)) = true := by simp; omega
  have h10 : (k : Int) < ((m + 1 : Nat) : Int) := by omega
  have HX := Lib.hid (fun w => num_any (((m + 1 : Nat) : Int)) (by unfold Mc.In; omega) w)
  obtain ⟨X, eX, sX⟩ := num_some (((m + 1 : Nat) : Int)) 10 (by unfold Mc.In; omega) (by decide)
  have HY := Lib.hid (fun w => num_any ((k : Int)) (by unfold Mc.In; omega) w)
  obtain ⟨Y, eY, sY⟩ := num_some ((k : Int)) 10 (by unfold Mc.In; omega) (by decide)
  have P1 := Lib.hid (fun w1 A1 => tells1 w (⟨#[58, 32, 102, 32, 48, 32, 100, 111, 32, 105, 32]⟩ ++ Y ++ ⟨#[32, 61, 32, 105, 102, 32, 105, 32, 46, 32, 117, 110, 108, 111, 111, 112, 32, 101, 120, 105, 116, 32, 116, 104, 101, 110, 32, 108, 111, 111, 112, 32, 46, 34, 32, 110, 111, 110, 101, 34, 32, 59, 32]⟩ ++ X ++ ⟨#[32, 102]⟩) (Y ++ ⟨#[32]⟩) _ _ (exits1 m k hm h) (by rw [(str_join _ _ (((([58, 32, 102, 32, 48, 32, 100, 111, 32, 105, 32]) ++ Dg.putV ((k : Int)) 10) ++ [32, 61, 32, 105, 102, 32, 105, 32, 46, 32, 117, 110, 108, 111, 111, 112, 32, 101, 120, 105, 116, 32, 116, 104, 101, 110, 32, 108, 111, 111, 112, 32, 46, 34, 32, 110, 111, 110, 101, 34, 32, 59, 32]) ++ Dg.putV (((m + 1 : Nat) : Int)) 10) ([32, 102]) (str_join _ _ ((([58, 32, 102, 32, 48, 32, 100, 111, 32, 105, 32]) ++ Dg.putV ((k : Int)) 10) ++ [32, 61, 32, 105, 102, 32, 105, 32, 46, 32, 117, 110, 108, 111, 111, 112, 32, 101, 120, 105, 116, 32, 116, 104, 101, 110, 32, 108, 111, 111, 112, 32, 46, 34, 32, 110, 111, 110, 101, 34, 32, 59, 32]) (Dg.putV (((m + 1 : Nat) : Int)) 10) (str_join _ _ (([58, 32, 102, 32, 48, 32, 100, 111, 32, 105, 32]) ++ Dg.putV ((k : Int)) 10) ([32, 61, 32, 105, 102, 32, 105, 32, 46, 32, 117, 110, 108, 111, 111, 112, 32, 101, 120, 105, 116, 32, 116, 104, 101, 110, 32, 108, 111, 111, 112, 32, 46, 34, 32, 110, 111, 110, 101, 34, 32, 59, 32]) (str_join _ _ ([58, 32, 102, 32, 48, 32, 100, 111, 32, 105, 32]) (Dg.putV ((k : Int)) 10) rfl eY) rfl) eX) rfl)]; simp [flat, Tk.bytes, exits1T]) (by rw [(str_join _ _ (Dg.putV ((k : Int)) 10) ([32]) eY rfl)]; simp [num10, one1]) w1 A1)
  have P2 := Lib.hid (fun w1 A1 => tells1 w (⟨#[58, 32, 103, 32, 46, 34, 32, 97, 34, 32, 101, 120, 105, 116, 32, 46, 34, 32, 98, 34, 32, 59, 32, 103]⟩) (⟨#[97]⟩) _ _ (exits2) rfl rfl w1 A1)
  rw [← eX] at HX
  rw [← eY] at HY
  have ek := Lib.hid (show ((m + 1 : Nat) : Int) = ((m + 1 : Nat) : Int) from rfl)
  generalize ((m + 1 : Nat) : Int) = n at *
  have HA := Lib.hid A
  clear A eX eY hm hk h
  go_enter Tryz.func8, Tryz.ntmps8
  go_wp2_with fail
  refine (HAl.out _ HA.out).mono ?_
  rintro e w1 ⟨rfl, k⟩
  have A1 := Lib.hid (HA.out.next k)
  have K1 := Lib.hid k
  clear k
  go_wp2_with fail
  refine (HY.out _).mono ?_
  rintro e w2 ⟨rfl, rfl⟩
  go_wp2_with fail
  refine (HY.out _).mono ?_
  rintro e w2 ⟨rfl, rfl⟩
  go_wp2_with fail
  refine (HX.out _).mono ?_
  rintro e w2 ⟨rfl, rfl⟩
  go_wp2_with fail
  refine (P1.out _ A1.out).mono ?_
  rintro e w2 ⟨rfl, k⟩
  have A2 := Lib.hid (A1.out.next k)
  have K2 := Lib.hid (K1.out.trans (k.mono K1.out.size))
  clear k K1 A1
  go_wp2_with fail
  refine (P2.out _ A2.out).mono ?_
  rintro e w3 ⟨rfl, k⟩
  have A3 := Lib.hid (A2.out.next k)
  have K3 := Lib.hid (K2.out.trans (k.mono K2.out.size))
  clear k K2 A2
  go_wp2_with fail
  go_ret
  exact ⟨rfl, K3.out⟩
set_option maxHeartbeats 8000000 in
set_option maxRecDepth 100000 in
theorem exits_w1 (m k : Nat) (hm : m < 12) (hk : k < 21)  (h : m < k) (w : World) (A : Ahead w w) :
    Calls Tryz.prog 8 #[.int .i64 ((m + 1 : Nat) : Int), .int .i64 (k : Int)] w fun e w' => e = .returned (.bool true) ∧ Below w.heap.size w w' := by
  have HAl := Lib.hid (fun w1 A1 => alive_any w w1 A1)
  have h1 : decide (((m + 1 : Nat) : Int) < 1) = false := by simp; omega
  have h2 : decide (12 < ((m + 1 : Nat) : Int)) = false := by simp; omega
  have h3 : decide ((k : Int) < 0) = false := by simp
  have h4 : decide (20 < (k : Int)) = false := by simp; omega
  have h5 : ¬ ((m + 1 : Nat) : Int) < 1 := by omega
  have h6 : ¬ (12 : Int) < ((m + 1 : Nat) : Int) := by omega
  have h7 : ¬ (k : Int) < 0 := by omega
  have h8 : ¬ (20 : Int) < k := by omega
  have h9 : decide ((k : Int) < ((m + 1 : Nat) : Int)) = false := by simp; omega
  have h10 : ¬ (k : Int) < ((m + 1 : Nat) : Int) := by omega
  have HX := Lib.hid (fun w => num_any (((m + 1 : Nat) : Int)) (by unfold Mc.In; omega) w)
  obtain ⟨X, eX, sX⟩ := num_some (((m + 1 : Nat) : Int)) 10 (by unfold Mc.In; omega) (by decide)
  have HY := Lib.hid (fun w => num_any ((k : Int)) (by unfold Mc.In; omega) w)
  obtain ⟨Y, eY, sY⟩ := num_some ((k : Int)) 10 (by unfold Mc.In; omega) (by decide)
  have P1 := Lib.hid (fun w1 A1 => tells1 w (⟨#[58, 32, 102, 32, 48, 32, 100, 111, 32, 105, 32]⟩ ++ Y ++ ⟨#[32, 61, 32, 105, 102, 32, 105, 32, 46, 32, 117, 110, 108, 111, 111, 112, 32, 101, 120, 105, 116, 32, 116, 104, 101, 110, 32, 108, 111, 111, 112, 32, 46, 34, 32, 110, 111, 110, 101, 34, 32, 59, 32]⟩ ++ X ++ ⟨#[32, 102]⟩) (⟨#[110, 111, 110, 101]⟩) _ _ (exits3 m k hm h hk) (by rw [(str_join _ _ (((([58, 32, 102, 32, 48, 32, 100, 111, 32, 105, 32]) ++ Dg.putV ((k : Int)) 10) ++ [32, 61, 32, 105, 102, 32, 105, 32, 46, 32, 117, 110, 108, 111, 111, 112, 32, 101, 120, 105, 116, 32, 116, 104, 101, 110, 32, 108, 111, 111, 112, 32, 46, 34, 32, 110, 111, 110, 101, 34, 32, 59, 32]) ++ Dg.putV (((m + 1 : Nat) : Int)) 10) ([32, 102]) (str_join _ _ ((([58, 32, 102, 32, 48, 32, 100, 111, 32, 105, 32]) ++ Dg.putV ((k : Int)) 10) ++ [32, 61, 32, 105, 102, 32, 105, 32, 46, 32, 117, 110, 108, 111, 111, 112, 32, 101, 120, 105, 116, 32, 116, 104, 101, 110, 32, 108, 111, 111, 112, 32, 46, 34, 32, 110, 111, 110, 101, 34, 32, 59, 32]) (Dg.putV (((m + 1 : Nat) : Int)) 10) (str_join _ _ (([58, 32, 102, 32, 48, 32, 100, 111, 32, 105, 32]) ++ Dg.putV ((k : Int)) 10) ([32, 61, 32, 105, 102, 32, 105, 32, 46, 32, 117, 110, 108, 111, 111, 112, 32, 101, 120, 105, 116, 32, 116, 104, 101, 110, 32, 108, 111, 111, 112, 32, 46, 34, 32, 110, 111, 110, 101, 34, 32, 59, 32]) (str_join _ _ ([58, 32, 102, 32, 48, 32, 100, 111, 32, 105, 32]) (Dg.putV ((k : Int)) 10) rfl eY) rfl) eX) rfl)]; simp [flat, Tk.bytes, exits1T]) rfl w1 A1)
  have P2 := Lib.hid (fun w1 A1 => tells1 w (⟨#[58, 32, 103, 32, 46, 34, 32, 97, 34, 32, 101, 120, 105, 116, 32, 46, 34, 32, 98, 34, 32, 59, 32, 103]⟩) (⟨#[97]⟩) _ _ (exits2) rfl rfl w1 A1)
  rw [← eX] at HX
  rw [← eY] at HY
  have ek := Lib.hid (show ((m + 1 : Nat) : Int) = ((m + 1 : Nat) : Int) from rfl)
  generalize ((m + 1 : Nat) : Int) = n at *
  have HA := Lib.hid A
  clear A eX eY hm hk h
  go_enter Tryz.func8, Tryz.ntmps8
  go_wp2_with fail
  refine (HAl.out _ HA.out).mono ?_
  rintro e w1 ⟨rfl, k⟩
  have A1 := Lib.hid (HA.out.next k)
  have K1 := Lib.hid k
  clear k
  go_wp2_with fail
  refine (HY.out _).mono ?_
  rintro e w2 ⟨rfl, rfl⟩
  go_wp2_with fail
  refine (HX.out _).mono ?_
  rintro e w2 ⟨rfl, rfl⟩
  go_wp2_with fail
  refine (P1.out _ A1.out).mono ?_
  rintro e w2 ⟨rfl, k⟩
  have A2 := Lib.hid (A1.out.next k)
  have K2 := Lib.hid (K1.out.trans (k.mono K1.out.size))
  clear k K1 A1
  go_wp2_with fail
  refine (P2.out _ A2.out).mono ?_
  rintro e w3 ⟨rfl, k⟩
  have A3 := Lib.hid (A2.out.next k)
  have K3 := Lib.hid (K2.out.trans (k.mono K2.out.size))
  clear k K2 A2
  go_wp2_with fail
  go_ret
  exact ⟨rfl, K3.out⟩
set_option maxHeartbeats 8000000 in
set_option maxRecDepth 100000 in
theorem exits_low (n k : Int) (h : n < 1)  (w : World) (A : Ahead w w) :
    Calls Tryz.prog 8 #[.int .i64 n, .int .i64 k] w fun e w' => e = .returned (.bool true) ∧ Below w.heap.size w w' := by
  have HAl := Lib.hid (fun w1 A1 => alive_any w w1 A1)
  have h1 : decide (n < 1) = true := by simp; omega
  have h5 : n < 1 := h
  have HA := Lib.hid A
  clear A h
  go_enter Tryz.func8, Tryz.ntmps8
  go_wp2_with fail
  refine (HAl.out _ HA.out).mono ?_
  rintro e w1 ⟨rfl, k⟩
  have A1 := Lib.hid (HA.out.next k)
  have K1 := Lib.hid k
  clear k
  go_wp2_with fail
  go_ret
  exact ⟨rfl, K1.out⟩
set_option maxHeartbeats 8000000 in
set_option maxRecDepth 100000 in
theorem exits_high (n k : Int) (h : 12 < n)  (w : World) (A : Ahead w w) :
    Calls Tryz.prog 8 #[.int .i64 n, .int .i64 k] w fun e w' => e = .returned (.bool true) ∧ Below w.heap.size w w' := by
  have HAl := Lib.hid (fun w1 A1 => alive_any w w1 A1)
  have h1 : decide (n < 1) = false := by simp; omega
  have h2 : decide (12 < n) = true := by simp; omega
  have h5 : ¬ n < 1 := by omega
  have h6 : 12 < n := h
  have HA := Lib.hid A
  clear A h
  go_enter Tryz.func8, Tryz.ntmps8
  go_wp2_with fail
  refine (HAl.out _ HA.out).mono ?_
  rintro e w1 ⟨rfl, k⟩
  have A1 := Lib.hid (HA.out.next k)
  have K1 := Lib.hid k
  clear k
  go_wp2_with fail
  go_ret
  exact ⟨rfl, K1.out⟩
set_option maxHeartbeats 8000000 in
set_option maxRecDepth 100000 in
theorem exits_klow (n k : Int) (h : ¬ n < 1 ∧ ¬ 12 < n ∧ k < 0)  (w : World) (A : Ahead w w) :
    Calls Tryz.prog 8 #[.int .i64 n, .int .i64 k] w fun e w' => e = .returned (.bool true) ∧ Below w.heap.size w w' := by
  have HAl := Lib.hid (fun w1 A1 => alive_any w w1 A1)
  obtain ⟨h5, h6, h7⟩ := h
  have h1 : decide (n < 1) = false := by simp; omega
  have h2 : decide (12 < n) = false := by simp; omega
  have h3 : decide (k < 0) = true := by simp; omega
  have HA := Lib.hid A
  clear A 
  go_enter Tryz.func8, Tryz.ntmps8
  go_wp2_with fail
  refine (HAl.out _ HA.out).mono ?_
  rintro e w1 ⟨rfl, k⟩
  have A1 := Lib.hid (HA.out.next k)
  have K1 := Lib.hid k
  clear k
  go_wp2_with fail
  go_ret
  exact ⟨rfl, K1.out⟩
set_option maxHeartbeats 8000000 in
set_option maxRecDepth 100000 in
theorem exits_khigh (n k : Int) (h : ¬ n < 1 ∧ ¬ 12 < n ∧ ¬ k < 0 ∧ 20 < k)  (w : World) (A : Ahead w w) :
    Calls Tryz.prog 8 #[.int .i64 n, .int .i64 k] w fun e w' => e = .returned (.bool true) ∧ Below w.heap.size w w' := by
  have HAl := Lib.hid (fun w1 A1 => alive_any w w1 A1)
  obtain ⟨h5, h6, h7, h8⟩ := h
  have h1 : decide (n < 1) = false := by simp; omega
  have h2 : decide (12 < n) = false := by simp; omega
  have h3 : decide (k < 0) = false := by simp; omega
  have h4 : decide (20 < k) = true := by simp; omega
  have HA := Lib.hid A
  clear A 
  go_enter Tryz.func8, Tryz.ntmps8
  go_wp2_with fail
  refine (HAl.out _ HA.out).mono ?_
  rintro e w1 ⟨rfl, k⟩
  have A1 := Lib.hid (HA.out.next k)
  have K1 := Lib.hid k
  clear k
  go_wp2_with fail
  go_ret
  exact ⟨rfl, K1.out⟩
set_option maxHeartbeats 8000000 in
set_option maxRecDepth 100000 in
theorem exits_walk (n k : Int)  (w : World) (A : Ahead w w) :
    Calls Tryz.prog 8 #[.int .i64 n, .int .i64 k] w fun e w' => e = .returned (.bool true) ∧ Below w.heap.size w w' := by
  by_cases h1 : n < 1
  · exact exits_low n k h1 w A
  by_cases h2 : 12 < n
  · exact exits_high n k h2 w A
  by_cases h3 : k < 0
  · exact exits_klow n k ⟨h1, h2, h3⟩ w A
  by_cases h4 : 20 < k
  · exact exits_khigh n k ⟨h1, h2, h3, h4⟩ w A
  obtain ⟨m, rfl⟩ : ∃ m : Nat, n = ((m + 1 : Nat) : Int) := ⟨(n - 1).toNat, by omega⟩
  obtain ⟨j, rfl⟩ : ∃ j : Nat, k = (j : Int) := ⟨k.toNat, by omega⟩
  by_cases h5 : j < m + 1
  · exact exits_w0 m j (by omega) (by omega) h5 w A
  · exact exits_w1 m j (by omega) (by omega) (by omega) w A
end Go.Proofs.YtompdfpjmdnhoaaGreatDoor.Ou
