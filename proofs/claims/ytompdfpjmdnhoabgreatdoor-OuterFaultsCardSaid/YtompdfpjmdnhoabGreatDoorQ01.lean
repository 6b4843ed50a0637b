/-
  Lemmas on the way, for every input that they name: SrcA.
-/
import Derived.Below
set_option linter.unusedVariables false
set_option linter.unusedSimpArgs false
set_option linter.deprecated false
namespace Go.Proofs.YtompdfpjmdnhoabGreatDoor.Src
def isB (b : Bool) (c : UInt8) : Bool := decide (c.toNat ≤ 32) == b
def skipB (b : Bool) (l : List UInt8) (k : Nat) : Nat := k + ((l.drop k).takeWhile (isB b)).length
theorem skip_step {b : Bool} {l : List UInt8} {k : Nat} (hk : k < l.length) (h : isB b l[k] = true) : skipB b l (k + 1) = skipB b l k := by
  unfold skipB
  rw [List.drop_eq_getElem_cons hk, List.takeWhile_cons, if_pos h, List.length_cons]
  omega
theorem skip_stop {b : Bool} {l : List UInt8} {k : Nat} (hk : k < l.length) (h : isB b l[k] = false) : skipB b l k = k := by
  unfold skipB
  rw [List.drop_eq_getElem_cons hk, List.takeWhile_cons, if_neg (by simp [h])]
  rfl
theorem skip_end {b : Bool} {l : List UInt8} {k : Nat} (hk : l.length ≤ k) : skipB b l k = k := by
  unfold skipB
  rw [List.drop_eq_nil_of_le hk]
  rfl
theorem skip_ge (b : Bool) (l : List UInt8) (k : Nat) : k ≤ skipB b l k := Nat.le_add_right _ _
theorem skip_not {b : Bool} {l : List UInt8} {k : Nat} (hk : skipB b l k < l.length) : isB b l[skipB b l k] = false := by
  have h : ∀ n k, n = l.length - k → (hk : skipB b l k < l.length) → isB b l[skipB b l k] = false := by
    intro n
    induction n with
    | zero => intro k hn hk; have := skip_ge b l k; omega
    | succ n ih =>
      intro k hn hk
      have hk' : k < l.length := by omega
      cases h : isB b l[k]
      · have e := skip_stop hk' h
        simp only [e]
        exact h
      · have e := skip_step hk' h
        have := ih (k + 1) (by omega) (by omega)
        simp only [e] at this
        exact this
  exact h _ k rfl hk
theorem isB_not (b : Bool) (c : UInt8) : isB (!b) c = !isB b c := by
  unfold isB
  cases b <;> cases decide (c.toNat ≤ 32) <;> rfl
def from_ (l : List UInt8) (k : Nat) : Nat := skipB true l k
def to_ (l : List UInt8) (k : Nat) : Nat := skipB false l (from_ l k)
def next_ (l : List UInt8) (k : Nat) : Nat := min (to_ l k + 1) l.length
theorem next_le (l : List UInt8) (k : Nat) : next_ l k ≤ l.length := Nat.min_le_right _ _
theorem to_gt {l : List UInt8} {k : Nat} (h : from_ l k < l.length) : from_ l k < to_ l k := by
  have h1 : isB true l[from_ l k] = false := skip_not h
  have h2 : isB false l[from_ l k] = true := by
    have := isB_not true l[from_ l k]
    rw [h1] at this
    exact this
  have := skip_step (b := false) h h2
  have h3 := skip_ge false l (from_ l k + 1)
  unfold to_
  omega
def findB (c : UInt8) (l : List UInt8) (k : Nat) : Nat := k + ((l.drop k).takeWhile (fun x => x != c)).length
theorem find_ge (c : UInt8) (l : List UInt8) (k : Nat) : k ≤ findB c l k := Nat.le_add_right _ _
end Go.Proofs.YtompdfpjmdnhoabGreatDoor.Src
