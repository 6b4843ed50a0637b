/-
  Lemmas on the way, for every input that they name: WvJ.
-/
import Derived.Test.YtndjbjhgkggeiaaQ14
set_option linter.unusedVariables false
set_option linter.unusedSimpArgs false
set_option linter.deprecated false
namespace Go.Proofs.Ytndjbjhgkggeiaa.Wv
open Go.RowKit
structure Good (s : St) (r : Int × St) : Prop where
  same : r.1 ≠ 0 → r.2 = s
  len : r.2.M.length = s.M.length
  ok : OkO s → OkO r.2
  few : r.2.O.length ≤ s.O.length + 1
theorem mem_dl {α : Type} {x : α} {l : List α} (h : x ∈ l.dropLast) : x ∈ l := (List.dropLast_sublist l).subset h
theorem good_no (s : St) (c : Int) : Good s (c, s) := ⟨fun _ => rfl, rfl, id, by simp⟩
theorem ok_same {s s' : St} (h : OkO s) (hl : s'.M.length = s.M.length) (hO : ∀ p ∈ s'.O, p ∈ s.O) : OkO s' := fun p hp hk => by
  obtain ⟨q, h1, h2⟩ := h p (hO p hp) hk
  exact ⟨q, h1, by omega⟩
theorem ok_push {s s' : St} {k : Int} {q : Nat} (h : OkO s) (hl : s'.M.length = s.M.length) (O : List (Int × Int)) (hs : ∀ p ∈ O, p ∈ s.O) (hO : s'.O = O ++ [(k, (q : Int))]) (hq : q < s.M.length) : OkO s' := fun p hp hk => by
  rw [hO] at hp
  rcases List.mem_append.1 hp with hp | hp
  · obtain ⟨q', h1, h2⟩ := h p (hs p hp) hk
    exact ⟨q', h1, by omega⟩
  · simp at hp
    subst hp
    exact ⟨q, rfl, by omega⟩
theorem layR_good (s : St) (L : List Int) : Good s (layR s L) := by
  unfold layR
  split
  · rename_i h
    exact ⟨fun h => absurd rfl h, lay_length _ _ _ h, fun hk => ok_same hk (lay_length _ _ _ h) (fun _ hp => hp), by simp⟩
  · exact good_no s _
theorem opR_good (s : St) (o : Int) : Good s (opR s o) := by unfold opR; split; exact layR_good s _; exact good_no s _
theorem argR_good (s : St) (o v : Int) : Good s (argR s o v) := by unfold argR; split; exact layR_good s _; exact good_no s _
theorem callR_good (s : St) (x : Int) : Good s (callR s x) := by unfold callR; split; exact good_no s _; exact layR_good s _
theorem forwardR_good (s : St) (o k : Int) : Good s (forwardR s o k) := by
  unfold forwardR
  split
  · rename_i h
    have hl := lay_length s.M s.h [o, 0] (by simpa using h)
    exact ⟨fun h => absurd rfl h, hl, fun hk => ok_push (q := s.h + 1) hk hl s.O (fun _ hp => hp) rfl (by omega), by simp⟩
  · exact good_no s _
theorem doR_good (s : St) : Good s (doR s) := by
  unfold doR
  split
  · rename_i h
    have hl := lay_length s.M s.h [36] (by simpa using h)
    refine ⟨fun h => absurd rfl h, hl, fun hk p hp h3 => ?_, by simp⟩
    rcases List.mem_append.1 hp with hp | hp
    · exact ok_same (s' := ⟨lay s.M s.h [36], s.h + 1, s.O⟩) hk hl (fun _ hp => hp) p hp h3
    · simp at hp
      subst hp
      simp at h3
  · exact good_no s _
theorem backwardR_good (s : St) (p : Int × Int) (o : Int) : Good s (backwardR s s.O.dropLast p o) := by
  unfold backwardR
  split
  · rename_i h
    have hl := lay_length s.M s.h [o, p.2] (by simpa using h)
    exact ⟨fun h => absurd rfl h, hl, fun hk => ok_same hk hl (fun _ hp => mem_dl hp), by simp; omega⟩
  · exact good_no s _
theorem elseR_good (s : St) (q : Nat) : Good s (elseR s s.O.dropLast q) := by
  unfold elseR
  split
  · rename_i h
    have hl := lay_length s.M s.h [3, 0] (by simpa using h)
    exact ⟨fun h => absurd rfl h, by simpa using hl, fun hk => ok_push (q := s.h + 1) hk (by simpa using hl) s.O.dropLast (fun _ hp => mem_dl hp) rfl (by omega), by simp⟩
  · exact good_no s _
theorem repeatR_good (s : St) (b : Int) (q : Nat) : Good s (repeatR s s.O.dropLast.dropLast b q) := by
  unfold repeatR
  split
  · rename_i h
    have hl := lay_length s.M s.h [3, b] (by simpa using h)
    exact ⟨fun h => absurd rfl h, by simpa using hl, fun hk => ok_same hk (by simpa using hl) (fun _ hp => mem_dl (mem_dl hp)), by simp; omega⟩
  · exact good_no s _
theorem formR_good (s : St) (W : ByteArray) : Good s (formR s W) := by
  unfold formR
  by_cases h0 : fitsB s.O W = false
  · rw [if_pos h0]; exact good_no s _
  rw [if_neg h0]
  by_cases h1 : W = wIf
  · rw [if_pos h1]
    exact forwardR_good s _ _
  rw [if_neg h1]
  by_cases h2 : W = wWhile
  · rw [if_pos h2]
    exact forwardR_good s _ _
  rw [if_neg h2]
  by_cases h3 : W = wElse
  · rw [if_pos h3]
    exact elseR_good s _
  rw [if_neg h3]
  by_cases h4 : W = wThen
  · rw [if_pos h4]
    exact ⟨fun h => absurd rfl h, by simp, fun hk => ok_same hk (by simp) (fun _ hp => mem_dl hp), by simp; omega⟩
  rw [if_neg h4]
  by_cases h5 : W = wBegin
  · rw [if_pos h5]
    refine ⟨fun h => absurd rfl h, rfl, fun hk p hp h3 => ?_, by simp⟩
    rcases List.mem_append.1 hp with hp | hp
    · exact hk p hp h3
    · simp at hp
      subst hp
      simp at h3
  rw [if_neg h5]
  by_cases h6 : W = wUntil
  · rw [if_pos h6]
    exact backwardR_good s _ _
  rw [if_neg h6]
  by_cases h7 : W = wAgain
  · rw [if_pos h7]
    exact backwardR_good s _ _
  rw [if_neg h7]
  by_cases h8 : W = wRepeat
  · rw [if_pos h8]
    exact repeatR_good s _ _
  rw [if_neg h8]
  by_cases h9 : W = wDo
  · rw [if_pos h9]
    exact doR_good s
  rw [if_neg h9]
  by_cases h10 : W = wLoop
  · rw [if_pos h10]
    exact backwardR_good s _ _
  rw [if_neg h10]
  by_cases h11 : W = wPlus
  · rw [if_pos h11]
    exact backwardR_good s _ _
  rw [if_neg h11]
  exact good_no s _
end Go.Proofs.Ytndjbjhgkggeiaa.Wv
