/-
  Lemmas on the way, for every input that they name: WvI.
-/
import Derived.Test.YtndjbjhgkggeiaaQ13
set_option linter.unusedVariables false
set_option linter.unusedSimpArgs false
set_option linter.deprecated false
namespace Go.Proofs.Ytndjbjhgkggeiaa.Wv
open Go.RowKit
def last (O : List (Int × Int)) : Int × Int := O.getD (O.length - 1) (0, 0)
theorem last_snoc (O : List (Int × Int)) (p : Int × Int) : last (O ++ [p]) = p := by simp [last]
def formR (s : St) (W : ByteArray) : Int × St :=
  if fitsB s.O W = false then (-22, s)
  else if W = wIf then forwardR s 4 1
  else if W = wWhile then forwardR s 4 4
  else if W = wElse then elseR s s.O.dropLast (last s.O).2.toNat
  else if W = wThen then (0, ⟨s.M.set (last s.O).2.toNat (s.h : Int), s.h, s.O.dropLast⟩)
  else if W = wBegin then (0, ⟨s.M, s.h, s.O ++ [(3, (s.h : Int))]⟩)
  else if W = wUntil then backwardR s s.O.dropLast (last s.O) 4
  else if W = wAgain then backwardR s s.O.dropLast (last s.O) 3
  else if W = wRepeat then repeatR s s.O.dropLast.dropLast (last s.O.dropLast).2 (last s.O).2.toNat
  else if W = wDo then doR s
  else if W = wLoop then backwardR s s.O.dropLast (last s.O) 37
  else if W = wPlus then backwardR s s.O.dropLast (last s.O) 38
  else (-13, s)
def OkO (s : St) : Prop := ∀ p ∈ s.O, (p.1 = 1 ∨ p.1 = 2 ∨ p.1 = 4) → ∃ q : Nat, p.2 = (q : Int) ∧ q < s.M.length
theorem top_zero {O : List (Int × Int)} {K : List Int} (h : topB O 0 K = true) : ∃ O0 p, O = O0 ++ [p] ∧ p.1 ∈ K := by
  unfold topB at h
  simp only [Bool.and_eq_true, decide_eq_true_eq] at h
  obtain ⟨h1, h2⟩ := h
  have hne : O ≠ [] := by intro e; subst e; simp at h1
  refine ⟨O.dropLast, O.getLast hne, (List.dropLast_concat_getLast hne).symm, ?_⟩
  have e : O.getD (O.length - 1 - 0) (0, 0) = O.getLast hne := by
    rw [Nat.sub_zero, List.getLast_eq_getElem]
    simp [List.getD, h1]
    rw [List.getElem?_eq_getElem (by omega)]
    rfl
  rw [e] at h2
  simpa using h2
theorem top_one {O : List (Int × Int)} {p : Int × Int} {K : List Int} (h : topB (O ++ [p]) 1 K = true) : ∃ O0 p', O = O0 ++ [p'] ∧ p'.1 ∈ K := by
  apply top_zero
  unfold topB at h ⊢
  simp only [Bool.and_eq_true, decide_eq_true_eq] at h ⊢
  obtain ⟨h1, h2⟩ := h
  simp at h1
  refine ⟨h1, ?_⟩
  have e : (O ++ [p]).getD ((O ++ [p]).length - 1 - 1) (0, 0) = O.getD (O.length - 1 - 0) (0, 0) := by
    simp [List.getD]
    rw [List.getElem?_append_left (by omega)]
  rw [e] at h2
  exact h2
theorem w_ne : wWhile ≠ wIf ∧ wElse ≠ wIf ∧ wElse ≠ wWhile ∧ wThen ≠ wIf ∧ wThen ≠ wWhile ∧ wThen ≠ wElse := by
  refine ⟨?_, ?_, ?_, ?_, ?_, ?_⟩ <;> simp [wWhile, wIf, wElse, wThen]
theorem form_any (B : Nat) (a : At) (s : St) (w : World) (H : WvIs w B a s.M s.h s.O) (hOk : OkO s) (hO : s.O.length < 4900) (s0 : ByteArray) (hs0 : s0.size ≤ 100000) :
    Calls Try.prog 14 #[.pointer (some ⟨a.sb, 0, none⟩), .string s0] w (Did w B a (formR s ⟨(ups s0).toArray⟩)) := by
  obtain ⟨W, hW⟩ : ∃ W, (⟨(ups s0).toArray⟩ : ByteArray) = W := ⟨_, rfl⟩
  rw [hW]
  cases hf : fitsB s.O W
  · unfold formR
    rw [if_pos hf]
    exact form_unfit B a s w H s0 hs0 (by rw [hW]; exact hf)
  unfold formR
  rw [if_neg (by simp [hf])]
  by_cases h1 : W = wIf
  · rw [if_pos h1]; exact form_if B a s w H (by omega) s0 hs0 (hW.trans h1)
  rw [if_neg h1]
  obtain ⟨M, h, O⟩ := s
  simp only at H hf hO ⊢
  by_cases h2 : W = wWhile
  · rw [if_pos h2]
    have hf' : topB O 0 [3] = true := by subst h2; simpa [fitsB, wWhile, wElse, wThen, wUntil, wAgain] using hf
    obtain ⟨O0, ⟨k, v⟩, rfl, hk⟩ := top_zero hf'
    simp at hk; subst hk
    exact form_while B a M h O0 v w H (by simp at hO; omega) s0 hs0 (hW.trans h2)
  rw [if_neg h2]
  by_cases h3 : W = wElse
  · rw [if_pos h3]
    have hf' : topB O 0 [1] = true := by subst h3; simpa [fitsB] using hf
    obtain ⟨O0, ⟨k, v⟩, rfl, hk⟩ := top_zero hf'
    simp at hk; subst hk
    obtain ⟨q, hq, hql⟩ := hOk (1, v) (by simp) (Or.inl rfl)
    simp only at hq hql; subst hq
    rw [last_snoc, List.dropLast_concat]
    exact form_else B a M h O0 q w H hql s0 hs0 (hW.trans h3)
  rw [if_neg h3]
  by_cases h4 : W = wThen
  · rw [if_pos h4]
    have hf' : topB O 0 [1, 2] = true := by subst h4; simpa [fitsB, wElse, wThen] using hf
    obtain ⟨O0, ⟨k, v⟩, rfl, hk⟩ := top_zero hf'
    simp at hk
    obtain ⟨q, hq, hql⟩ := hOk (k, v) (by simp) (by simp; omega)
    simp only at hq hql; subst hq
    rw [last_snoc, List.dropLast_concat]
    exact form_then B a M h O0 k q hk w H hql s0 hs0 (hW.trans h4)
  rw [if_neg h4]
  by_cases h5 : W = wBegin
  · rw [if_pos h5]; exact form_begin B a ⟨M, h, O⟩ w H (by simp only; omega) s0 hs0 (hW.trans h5)
  rw [if_neg h5]
  by_cases h6 : W = wUntil
  · rw [if_pos h6]
    have hf' : topB O 0 [3] = true := by subst h6; simpa [fitsB, wWhile, wElse, wThen, wUntil, wAgain] using hf
    obtain ⟨O0, ⟨k, v⟩, rfl, hk⟩ := top_zero hf'
    simp at hk; subst hk
    rw [last_snoc, List.dropLast_concat]
    exact form_until B a M h O0 v w H s0 hs0 (hW.trans h6)
  rw [if_neg h6]
  by_cases h7 : W = wAgain
  · rw [if_pos h7]
    have hf' : topB O 0 [3] = true := by subst h7; simpa [fitsB, wWhile, wElse, wThen, wUntil, wAgain] using hf
    obtain ⟨O0, ⟨k, v⟩, rfl, hk⟩ := top_zero hf'
    simp at hk; subst hk
    rw [last_snoc, List.dropLast_concat]
    exact form_again B a M h O0 v w H s0 hs0 (hW.trans h7)
  rw [if_neg h7]
  by_cases h8 : W = wRepeat
  · rw [if_pos h8]
    have hf' : (topB O 0 [4] && topB O 1 [3]) = true := by subst h8; simpa [fitsB, wWhile, wElse, wThen, wUntil, wAgain, wRepeat] using hf
    rw [Bool.and_eq_true] at hf'
    obtain ⟨O1, ⟨k, v⟩, rfl, hk⟩ := top_zero hf'.1
    obtain ⟨O0, ⟨k', v'⟩, rfl, hk'⟩ := top_one hf'.2
    simp at hk hk'; subst hk; subst hk'
    obtain ⟨q, hq, hql⟩ := hOk (4, v) (by simp) (Or.inr (Or.inr rfl))
    simp only at hq hql; subst hq
    rw [last_snoc, List.dropLast_concat, last_snoc, List.dropLast_concat]
    exact form_repeat B a M h O0 v' q w H hql s0 hs0 (hW.trans h8)
  rw [if_neg h8]
  by_cases h9 : W = wDo
  · rw [if_pos h9]; exact form_do B a ⟨M, h, O⟩ w H (by simp only; omega) s0 hs0 (hW.trans h9)
  rw [if_neg h9]
  by_cases h10 : W = wLoop
  · rw [if_pos h10]
    have hf' : topB O 0 [5] = true := by subst h10; simpa [fitsB, wWhile, wElse, wThen, wUntil, wAgain, wRepeat, wLoop] using hf
    obtain ⟨O0, ⟨k, v⟩, rfl, hk⟩ := top_zero hf'
    simp at hk; subst hk
    rw [last_snoc, List.dropLast_concat]
    exact form_loop B a M h O0 v w H s0 hs0 (hW.trans h10)
  rw [if_neg h10]
  by_cases h11 : W = wPlus
  · rw [if_pos h11]
    have hf' : topB O 0 [5] = true := by subst h11; simpa [fitsB, wWhile, wElse, wThen, wUntil, wAgain, wRepeat, wLoop, wPlus] using hf
    obtain ⟨O0, ⟨k, v⟩, rfl, hk⟩ := top_zero hf'
    simp at hk; subst hk
    rw [last_snoc, List.dropLast_concat]
    exact form_plus B a M h O0 v w H s0 hs0 (hW.trans h11)
  rw [if_neg h11]
  exact form_other B a ⟨M, h, O⟩ w H s0 hs0 W hW h3 h4 h6 h7 h2 h8 h10 h11 h1 h5 h9
set_option maxRecDepth 100000 in
theorem new_any (B : Nat) (A : Option Addr) (cap : Nat) (M : List Int) (here : Int) (w : World) (H : w.ownsRow B 3 1 (.slice A M.length cap) M.length (M.map (Value.int .i64))) (hs : M.length ≤ 5000) (h : Nat) (hh : (h : Int) = min (max here 0) M.length) :
    Calls Try.prog 6 #[.slice A M.length cap, .int .i64 here] w fun e w' => ∃ a : At, e = .returned (.pointer (some ⟨a.sb, 0, none⟩)) ∧ WvIs w' w.heap.size a M h [] ∧ Below w.heap.size w w' := by
  have Hh := Lib.hid hh
  clear hh
  go_enter Try.func6, Try.ntmps6
  go_wp2_with fail
  refine (clone_own B A cap M w H hs).mono ?_
  rintro e w1 ⟨A', cap', rfl, ho, hb⟩
  go_wp2
  go_ret
  rw [← Hh.out]
  have hz := hb.size
  have hT := alloc_touch w1 (.cells #[.slice A' M.length cap', .int .i64 (h : Int), .slice none 0 0] 54) (fun _ => False)
  exact ⟨⟨w1.heap.size, A', cap', none, 0⟩, rfl,
    { blk := heap_alloc_new w1 _
      base := hz
      mem := own_touch ho hT (fun _ _ => id)
      opn := World.ownsRow_nil _ _ _ _
      here := by have := Hh.out; omega
      small := hs
      few := by simp }, hb.alloc hz _⟩
end Go.Proofs.Ytndjbjhgkggeiaa.Wv
