/-
  Lemmas on the way, for every input that they name: WvG.
-/
import Derived.Test.YtndjbjhgkggeiaaQ11
set_option linter.unusedVariables false
set_option linter.unusedSimpArgs false
set_option linter.deprecated false
namespace Go.Proofs.Ytndjbjhgkggeiaa.Wv
open Go.RowKit
def wIf : ByteArray := ⟨#[73, 70]⟩
def wWhile : ByteArray := ⟨#[87, 72, 73, 76, 69]⟩
def wElse : ByteArray := ⟨#[69, 76, 83, 69]⟩
def wThen : ByteArray := ⟨#[84, 72, 69, 78]⟩
def wBegin : ByteArray := ⟨#[66, 69, 71, 73, 78]⟩
def wUntil : ByteArray := ⟨#[85, 78, 84, 73, 76]⟩
def wAgain : ByteArray := ⟨#[65, 71, 65, 73, 78]⟩
def wRepeat : ByteArray := ⟨#[82, 69, 80, 69, 65, 84]⟩
def wDo : ByteArray := ⟨#[68, 79]⟩
def wLoop : ByteArray := ⟨#[76, 79, 79, 80]⟩
def wPlus : ByteArray := ⟨#[43, 76, 79, 79, 80]⟩
def fitsB (O : List (Int × Int)) (W : ByteArray) : Bool :=
  if W = wElse then topB O 0 [1]
  else if W = wThen then topB O 0 [1, 2]
  else if W = wUntil ∨ W = wAgain ∨ W = wWhile then topB O 0 [3]
  else if W = wRepeat then topB O 0 [4] && topB O 1 [3]
  else if W = wLoop ∨ W = wPlus then topB O 0 [5]
  else true
theorem top_own (B : Nat) (a : At) (M : List Int) (h : Nat) (O : List (Int × Int)) (w : World) (H : WvIs w B a M h O) (j : Nat) (jz : Int) (hz : jz = j) (hj : j ≤ 10) (K : List Int) (hK : K.length ≤ 10) (c : Nat) :
    Calls Try.prog 69 #[.pointer (some ⟨a.sb, 0, none⟩), .int .i64 jz, .slice (some ⟨w.heap.size, 0, none⟩) K.length c] (w.alloc (.cells (K.map (Value.int .i64)).toArray 3)) fun e w' =>
      e = .returned (.bool (topB O j K)) ∧ w' = w.alloc (.cells (K.map (Value.int .i64)).toArray 3) := by
  subst hz
  refine top_any B a M h O _ (H.alloc _) j hj K hK w.heap.size c (fun i hi => ?_)
  rw [World.cell?, heap_alloc_new]
  simp [hi]
theorem top1 (B : Nat) (a : At) (M : List Int) (h : Nat) (O : List (Int × Int)) (w : World) (H : WvIs w B a M h O) (j : Nat) (jz : Int) (hz : jz = j) (hj : j ≤ 10) (x : Int) (c : Nat) :
    Calls Try.prog 69 #[.pointer (some ⟨a.sb, 0, none⟩), .int .i64 jz, .slice (some ⟨w.heap.size, 0, none⟩) 1 c] (w.alloc (.cells #[.int .i64 x] 3)) fun e w' =>
      e = .returned (.bool (topB O j [x])) ∧ w' = w.alloc (.cells #[.int .i64 x] 3) := top_own B a M h O w H j jz hz hj [x] (by simp) c
theorem top2 (B : Nat) (a : At) (M : List Int) (h : Nat) (O : List (Int × Int)) (w : World) (H : WvIs w B a M h O) (j : Nat) (jz : Int) (hz : jz = j) (hj : j ≤ 10) (x y : Int) (c : Nat) :
    Calls Try.prog 69 #[.pointer (some ⟨a.sb, 0, none⟩), .int .i64 jz, .slice (some ⟨w.heap.size, 0, none⟩) 2 c] (w.alloc (.cells #[.int .i64 x, .int .i64 y] 3)) fun e w' =>
      e = .returned (.bool (topB O j [x, y])) ∧ w' = w.alloc (.cells #[.int .i64 x, .int .i64 y] 3) := top_own B a M h O w H j jz hz hj [x, y] (by simp) c
def Asked (w : World) (b : Bool) (e : Ending) (w' : World) : Prop := e = .returned (.bool b) ∧ w.grownBy w' none
theorem one_alloc (w : World) (o : Obj) : w.grownBy (w.alloc o) none := World.grownBy_alloc w o none
set_option maxRecDepth 100000 in
theorem fits_one (B : Nat) (a : At) (M : List Int) (h : Nat) (O : List (Int × Int)) (w : World) (H : WvIs w B a M h O) (W : ByteArray) (x : Int)
    (hW : (W = wElse ∧ x = 1) ∨ ((W = wUntil ∨ W = wAgain ∨ W = wWhile) ∧ x = 3) ∨ ((W = wLoop ∨ W = wPlus) ∧ x = 5)) :
    Calls Try.prog 33 #[.pointer (some ⟨a.sb, 0, none⟩), .string W] w (Asked w (topB O 0 [x])) := by
  have HT := Lib.hid (top1 B a M h O w H 0 0 rfl (by omega) x 1)
  rcases hW with ⟨rfl, rfl⟩ | ⟨rfl | rfl | rfl, rfl⟩ | ⟨rfl | rfl, rfl⟩
  all_goals
    first | unfold wElse | unfold wUntil | unfold wAgain | unfold wWhile | unfold wLoop | unfold wPlus
    go_enter Try.func33, Try.ntmps33
    go_wp2_with fail
    refine HT.out.mono ?_
    rintro e w' ⟨rfl, rfl⟩
    go_wp2_with fail
    go_ret
    exact ⟨rfl, one_alloc _ _⟩
theorem fits_then (B : Nat) (a : At) (M : List Int) (h : Nat) (O : List (Int × Int)) (w : World) (H : WvIs w B a M h O) :
    Calls Try.prog 33 #[.pointer (some ⟨a.sb, 0, none⟩), .string wThen] w (Asked w (topB O 0 [1, 2])) := by
  have HT := Lib.hid (top2 B a M h O w H 0 0 rfl (by omega) 1 2 2)
  unfold wThen
  go_enter Try.func33, Try.ntmps33
  go_wp2_with fail
  refine HT.out.mono ?_
  rintro e w' ⟨rfl, rfl⟩
  go_wp2_with fail
  go_ret
  exact ⟨rfl, one_alloc _ _⟩
set_option maxRecDepth 100000 in
theorem fits_repeat (B : Nat) (a : At) (M : List Int) (h : Nat) (O : List (Int × Int)) (w : World) (H : WvIs w B a M h O) :
    Calls Try.prog 33 #[.pointer (some ⟨a.sb, 0, none⟩), .string wRepeat] w (Asked w (topB O 0 [4] && topB O 1 [3])) := by
  have HT := Lib.hid (top1 B a M h O w H 0 0 rfl (by omega) 4 1)
  have H1 := H.alloc (.cells #[.int .i64 4] 3)
  have h2 := top1 B a M h O (w.alloc (.cells #[.int .i64 4] 3)) H1 1 1 rfl (by omega) 3 1
  rw [show (w.alloc (.cells #[.int .i64 4] 3)).heap.size = w.heap.size + 1 by simp] at h2
  have HT2 := Lib.hid h2
  clear H1 h2
  unfold wRepeat
  cases hb : topB O 0 [4]
  · go_enter Try.func33, Try.ntmps33
    go_wp2_with fail
    refine HT.out.mono ?_
    rintro e w' ⟨rfl, rfl⟩
    rw [hb]
    go_wp2_with fail
    go_ret
    exact ⟨rfl, one_alloc _ _⟩
  · go_enter Try.func33, Try.ntmps33
    go_wp2_with fail
    refine HT.out.mono ?_
    rintro e w' ⟨rfl, rfl⟩
    rw [hb]
    go_wp2_with fail
    refine HT2.out.mono ?_
    rintro e w' ⟨rfl, rfl⟩
    go_wp2_with fail
    go_ret
    refine ⟨by simp, ?_⟩
    have h1 := one_alloc w (.cells #[.int .i64 4] 3)
    have h2 := one_alloc (w.alloc (.cells #[.int .i64 4] 3)) (.cells #[.int .i64 3] 3)
    exact ⟨h2.os.trans h1.os, h2.tape.trans h1.tape, h2.output.trans h1.output, Nat.le_trans h1.size h2.size, fun k hk hr => (h2.block k (Nat.lt_of_lt_of_le hk h1.size) hr).trans (h1.block k hk hr)⟩
theorem ne_lit {W : ByteArray} {l : List UInt8} (h : W ≠ ⟨l.toArray⟩) : (W.toList == l) = false := by
  rw [← Bool.not_eq_true]
  intro e
  have e1 : W.toList = l := by simpa using e
  apply h
  rw [← e1, ByteArray.toList_eq]
set_option maxRecDepth 100000 in
theorem fits_other (a : At) (w : World) (W : ByteArray) (h1 : W ≠ wElse) (h2 : W ≠ wThen) (h3 : W ≠ wUntil) (h4 : W ≠ wAgain) (h5 : W ≠ wWhile) (h6 : W ≠ wRepeat) (h7 : W ≠ wLoop) (h8 : W ≠ wPlus) :
    Calls Try.prog 33 #[.pointer (some ⟨a.sb, 0, none⟩), .string W] w (Asked w true) := by
  have e1 : (W.toList == [69, 76, 83, 69]) = false := ne_lit h1
  have e2 : (W.toList == [84, 72, 69, 78]) = false := ne_lit h2
  have e3 : (W.toList == [85, 78, 84, 73, 76]) = false := ne_lit h3
  have e4 : (W.toList == [65, 71, 65, 73, 78]) = false := ne_lit h4
  have e5 : (W.toList == [87, 72, 73, 76, 69]) = false := ne_lit h5
  have e6 : (W.toList == [82, 69, 80, 69, 65, 84]) = false := ne_lit h6
  have e7 : (W.toList == [76, 79, 79, 80]) = false := ne_lit h7
  have e8 : (W.toList == [43, 76, 79, 79, 80]) = false := ne_lit h8
  clear h1 h2 h3 h4 h5 h6 h7 h8
  go_enter Try.func33, Try.ntmps33
  go_wp2_with fail
  go_ret
  exact ⟨rfl, World.grownBy.refl _ _⟩
theorem fits_any (B : Nat) (a : At) (M : List Int) (h : Nat) (O : List (Int × Int)) (w : World) (H : WvIs w B a M h O) (W : ByteArray) :
    Calls Try.prog 33 #[.pointer (some ⟨a.sb, 0, none⟩), .string W] w (Asked w (fitsB O W)) := by
  unfold fitsB
  by_cases h1 : W = wElse
  · rw [if_pos h1]; exact fits_one B a M h O w H W 1 (Or.inl ⟨h1, rfl⟩)
  rw [if_neg h1]
  by_cases h2 : W = wThen
  · rw [if_pos h2]; subst h2; exact fits_then B a M h O w H
  rw [if_neg h2]
  by_cases h3 : W = wUntil ∨ W = wAgain ∨ W = wWhile
  · rw [if_pos h3]; exact fits_one B a M h O w H W 3 (Or.inr (Or.inl ⟨h3, rfl⟩))
  rw [if_neg h3]
  by_cases h6 : W = wRepeat
  · rw [if_pos h6]; subst h6; exact fits_repeat B a M h O w H
  rw [if_neg h6]
  by_cases h7 : W = wLoop ∨ W = wPlus
  · rw [if_pos h7]; exact fits_one B a M h O w H W 5 (Or.inr (Or.inr ⟨h7, rfl⟩))
  rw [if_neg h7]
  exact fits_other a w W h1 h2 (fun e => h3 (Or.inl e)) (fun e => h3 (Or.inr (Or.inl e))) (fun e => h3 (Or.inr (Or.inr e))) h6 (fun e => h7 (Or.inl e)) (fun e => h7 (Or.inr e))
end Go.Proofs.Ytndjbjhgkggeiaa.Wv
