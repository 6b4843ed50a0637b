/-
  Lemmas on the way, for every input that they name: RvL.
-/
import Derived.Test.YtndjbjhgkggeiaaQ20
import Derived.Test.YtndjbjhgkggeiaaQ21
import Derived.Test.YtndjbjhgkggeiaaQ22
import Derived.Test.YtndjbjhgkggeiaaQ23
import Derived.Test.YtndjbjhgkggeiaaQ24
import Derived.Test.YtndjbjhgkggeiaaQ25
set_option linter.unusedVariables false
set_option linter.unusedSimpArgs false
set_option linter.deprecated false
namespace Go.Proofs.Ytndjbjhgkggeiaa.Rv
open Go.RowKit Go.Proofs.Ytndjbjhgkggeiaa.Wv
theorem topB_V (O : List (Int × Int)) (j : Nat) (K : List Int) (h0 : (0 : Int) ∉ K) : topB O j K = K.contains (topV O j).1 := by
  unfold topB topV
  by_cases h : j < O.length
  · rw [if_neg (by omega), decide_eq_true h, Bool.true_and]
  · rw [if_pos (by omega), decide_eq_false h, Bool.false_and]
    symm
    simpa using h0
theorem top_is {O : List (Int × Int)} {k : Int} (h0 : k ≠ 0) {j : Nat} (h : topB O j [k] = true) : (topV O j).1 = k := by
  rw [topB_V _ _ _ (by simpa using h0.symm)] at h
  simpa using h
theorem top_not {O : List (Int × Int)} {k : Int} (h0 : k ≠ 0) {j : Nat} (h : topB O j [k] = false) : (topV O j).1 ≠ k := by
  rw [topB_V _ _ _ (by simpa using h0.symm)] at h
  simpa using h
theorem open_q {s : St} (hOk : OkO s) {k : Int} (hk : k = 1 ∨ k = 2 ∨ k = 4) (h : (topV s.O 0).1 = k) : ∃ q : Nat, topV s.O 0 = (k, (q : Int)) ∧ q < s.M.length ∧ (last s.O).2.toNat = q := by
  obtain ⟨O1, p, hO, hp⟩ := topV_some s.O (by rw [h]; omega)
  rw [hp] at h
  obtain ⟨q, hq, hl⟩ := hOk p (by rw [hO]; simp) (by rw [h]; exact hk)
  refine ⟨q, ?_, hl, ?_⟩
  · rw [hp, ← h, ← hq]
  · rw [hO, last_snoc, hq]
    rfl
theorem form_any (B : Nat) (a : At) (s : St) (w : World) (H : RvIs w B a s.M s.h s.O) (hOk : OkO s) (hO : s.O.length < 4900) (s0 : ByteArray) (hs0 : s0.size ≤ 100000) :
    Calls Try.prog 15 #[.pointer (some ⟨a.sb, 0, none⟩), .string s0] w (Did w B a (formR s ⟨(ups s0).toArray⟩)) := by
  obtain ⟨W, hW⟩ : ∃ W, (⟨(ups s0).toArray⟩ : ByteArray) = W := ⟨_, rfl⟩
  rw [hW]
  cases hf : fitsB s.O W
  · unfold formR
    rw [if_pos hf]
    by_cases h1 : W = wElse
    · subst h1
      exact unfit_else B a s w H hO (top_not (by decide) (by simpa [fitsB] using hf)) s0 hs0 hW
    by_cases h2 : W = wThen
    · subst h2
      have hf' : topB s.O 0 [1, 2] = false := by simpa [fitsB, wElse, wThen] using hf
      rw [topB_V _ _ _ (by decide)] at hf'
      have hf2 : (topV s.O 0).1 ≠ 1 ∧ (topV s.O 0).1 ≠ 2 := by simpa using hf'
      exact unfit_then B a s w H hO hf2.1 hf2.2 s0 hs0 hW
    by_cases h3 : W = wUntil
    · subst h3
      exact unfit_until B a s w H hO (top_not (by decide) (by simpa [fitsB, wWhile, wElse, wThen, wUntil, wAgain] using hf)) s0 hs0 hW
    by_cases h4 : W = wAgain
    · subst h4
      exact unfit_again B a s w H hO (top_not (by decide) (by simpa [fitsB, wWhile, wElse, wThen, wUntil, wAgain] using hf)) s0 hs0 hW
    by_cases h5 : W = wWhile
    · subst h5
      exact unfit_while B a s w H hO (top_not (by decide) (by simpa [fitsB, wWhile, wElse, wThen, wUntil, wAgain] using hf)) s0 hs0 hW
    by_cases h6 : W = wRepeat
    · subst h6
      have hf' : (topB s.O 0 [4] && topB s.O 1 [3]) = false := by simpa [fitsB, wWhile, wElse, wThen, wUntil, wAgain, wRepeat] using hf
      by_cases h4 : topB s.O 0 [4] = true
      · rw [h4, Bool.true_and] at hf'
        exact unfit_repeat2 B a s w H hO (top_is (by decide) h4) (top_not (by decide) hf') s0 hs0 hW
      · exact unfit_repeat B a s w H hO (top_not (by decide) (by simpa using h4)) s0 hs0 hW
    by_cases h7 : W = wLoop
    · subst h7
      exact unfit_loop B a s w H hO (top_not (by decide) (by simpa [fitsB, wWhile, wElse, wThen, wUntil, wAgain, wRepeat, wLoop] using hf)) s0 hs0 hW
    by_cases h8 : W = wPlus
    · subst h8
      exact unfit_plus B a s w H hO (top_not (by decide) (by simpa [fitsB, wWhile, wElse, wThen, wUntil, wAgain, wRepeat, wLoop, wPlus] using hf)) s0 hs0 hW
    exfalso
    simp [fitsB, h1, h2, h3, h4, h5, h6, h7, h8] at hf
  unfold formR
  rw [if_neg (by simp [hf])]
  by_cases h1 : W = wIf
  · rw [if_pos h1]; exact form_if B a s w H hO s0 hs0 (hW.trans h1)
  rw [if_neg h1]
  by_cases h2 : W = wWhile
  · rw [if_pos h2]
    exact form_while B a s w H hO (top_is (by decide) (by subst h2; simpa [fitsB, wWhile, wElse, wThen, wUntil, wAgain] using hf)) s0 hs0 (hW.trans h2)
  rw [if_neg h2]
  by_cases h3 : W = wElse
  · rw [if_pos h3]
    obtain ⟨q, e1, e2, e3⟩ := open_q hOk (.inl rfl) (top_is (by decide) (by subst h3; simpa [fitsB] using hf : topB s.O 0 [1] = true))
    rw [e3]
    exact form_else B a s w H hO q e1 e2 s0 hs0 (hW.trans h3)
  rw [if_neg h3]
  by_cases h4 : W = wThen
  · rw [if_pos h4]
    have hf' : topB s.O 0 [1, 2] = true := by subst h4; simpa [fitsB, wElse, wThen] using hf
    rw [topB_V _ _ _ (by decide)] at hf'
    have hf2 : (topV s.O 0).1 = 1 ∨ (topV s.O 0).1 = 2 := by simpa using hf'
    rcases hf2 with hk | hk
    · obtain ⟨q, e1, e2, e3⟩ := open_q hOk (.inl rfl) hk
      rw [e3]
      exact form_then1 B a s w H hO q e1 e2 s0 hs0 (hW.trans h4)
    · obtain ⟨q, e1, e2, e3⟩ := open_q hOk (.inr (.inl rfl)) hk
      rw [e3]
      exact form_then2 B a s w H hO q e1 e2 s0 hs0 (hW.trans h4)
  rw [if_neg h4]
  by_cases h5 : W = wBegin
  · rw [if_pos h5]; exact form_begin B a s w H hO s0 hs0 (hW.trans h5)
  rw [if_neg h5]
  by_cases h6 : W = wUntil
  · rw [if_pos h6]
    exact form_until B a s w H hO (top_is (by decide) (by subst h6; simpa [fitsB, wWhile, wElse, wThen, wUntil, wAgain] using hf)) s0 hs0 (hW.trans h6)
  rw [if_neg h6]
  by_cases h7 : W = wAgain
  · rw [if_pos h7]
    exact form_again B a s w H hO (top_is (by decide) (by subst h7; simpa [fitsB, wWhile, wElse, wThen, wUntil, wAgain] using hf)) s0 hs0 (hW.trans h7)
  rw [if_neg h7]
  by_cases h8 : W = wRepeat
  · rw [if_pos h8]
    have hf' : (topB s.O 0 [4] && topB s.O 1 [3]) = true := by subst h8; simpa [fitsB, wWhile, wElse, wThen, wUntil, wAgain, wRepeat] using hf
    rw [Bool.and_eq_true] at hf'
    obtain ⟨q, e1, e2, e3⟩ := open_q hOk (.inr (.inr rfl)) (top_is (by decide) hf'.1)
    rw [e3]
    exact form_repeat B a s w H hO q e1 (top_is (by decide) hf'.2) e2 s0 hs0 (hW.trans h8)
  rw [if_neg h8]
  by_cases h9 : W = wDo
  · rw [if_pos h9]; exact form_do B a s w H hO s0 hs0 (hW.trans h9)
  rw [if_neg h9]
  by_cases h10 : W = wLoop
  · rw [if_pos h10]
    exact form_loop B a s w H hO (top_is (by decide) (by subst h10; simpa [fitsB, wWhile, wElse, wThen, wUntil, wAgain, wRepeat, wLoop] using hf)) s0 hs0 (hW.trans h10)
  rw [if_neg h10]
  by_cases h11 : W = wPlus
  · rw [if_pos h11]
    exact form_plus B a s w H hO (top_is (by decide) (by subst h11; simpa [fitsB, wWhile, wElse, wThen, wUntil, wAgain, wRepeat, wLoop, wPlus] using hf)) s0 hs0 (hW.trans h11)
  rw [if_neg h11]
  exact form_other B a s w H s0 hs0 W hW h1 h3 h4 h5 h6 h7 h2 h8 h9 h10 h11
def Gone (w : World) (B sb : Nat) (a : At) (r : Int × St) (e : Ending) (w' : World) : Prop :=
  e = .returned (.int .i64 r.1) ∧ ∃ a' : At, a'.sb = sb ∧ RvIs w' B a' r.2.M r.2.h r.2.O ∧ Touch w w' a.blocks ∧ ∀ k, a'.blocks k → a.blocks k ∨ w.heap.size ≤ k
theorem form_sb (B sb : Nat) (a : At) (ha : a.sb = sb) (s : St) (w : World) (H : RvIs w B a s.M s.h s.O) (hOk : OkO s) (hO : s.O.length < 4900) (s0 : ByteArray) (hs0 : s0.size ≤ 100000) :
    Calls Try.prog 15 #[.pointer (some ⟨sb, 0, none⟩), .string s0] w (Gone w B sb a (formR s ⟨(ups s0).toArray⟩)) := by
  subst ha
  exact form_any B a s w H hOk hO s0 hs0
theorem op_sb (B sb : Nat) (a : At) (ha : a.sb = sb) (s : St) (w : World) (H : RvIs w B a s.M s.h s.O) (o : Int) :
    Calls Try.prog 9 #[.pointer (some ⟨sb, 0, none⟩), .int .i64 o] w (Gone w B sb a (opR s o)) := by
  subst ha
  exact op_any B a s w H o
theorem arg_sb (B sb : Nat) (a : At) (ha : a.sb = sb) (s : St) (w : World) (H : RvIs w B a s.M s.h s.O) (o v : Int) :
    Calls Try.prog 11 #[.pointer (some ⟨sb, 0, none⟩), .int .i64 o, .int .i64 v] w (Gone w B sb a (argR s o v)) := by
  subst ha
  exact argm_any B a s w H o v
theorem call_sb (B sb : Nat) (a : At) (ha : a.sb = sb) (s : St) (w : World) (H : RvIs w B a s.M s.h s.O) (x : Int) :
    Calls Try.prog 13 #[.pointer (some ⟨sb, 0, none⟩), .int .i64 x] w (Gone w B sb a (callR s x)) := by
  subst ha
  exact call_any B a s w H x
end Go.Proofs.Ytndjbjhgkggeiaa.Rv
