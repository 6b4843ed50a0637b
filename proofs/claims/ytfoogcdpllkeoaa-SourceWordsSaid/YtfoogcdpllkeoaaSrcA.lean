/-
  Chapter 8 (source): the plain part: where a run of blanks, or of other bytes, ends.
-/
import Derived.Below
namespace Go.Proofs.Ytfoogcdpllkeoaa.Src

/-- Is this a blank, or not (as b says)? -/
def isB (b : Bool) (c : UInt8) : Bool := decide (c.toNat ≤ 32) == b

/-- Where the run of blanks (b) or of others (not b) that begins at k ends. -/
def skipB (b : Bool) (l : List UInt8) (k : Nat) : Nat := k + ((l.drop k).takeWhile (isB b)).length

theorem skip_step {b : Bool} {l : List UInt8} {k : Nat} (hk : k < l.length) (h : isB b l[k] = true) : skipB b l (k + 1) = skipB b l k := by
  unfold skipB
  rw [List.drop_eq_getElem_cons hk, List.takeWhile_cons, if_pos h, List.length_cons]
  omega
theorem skip_stop {b : Bool} {l : List UInt8} {k : Nat} (hk : k < l.length) (h : isB b l[k] = false) : skipB b l k = k := by
  unfold skipB
  rw [List.drop_eq_getElem_cons hk, List.takeWhile_cons, if_neg (by simp [h])]
  rfl
theorem skip_end {b : Bool} {l : List UInt8} {k : Nat} (hk : l.length ≤ k) : skipB b l k = k := by
  unfold skipB
  rw [List.drop_eq_nil_of_le hk]
  rfl
theorem skip_ge (b : Bool) (l : List UInt8) (k : Nat) : k ≤ skipB b l k := Nat.le_add_right _ _
theorem skip_le {b : Bool} {l : List UInt8} {k : Nat} (hk : k ≤ l.length) : skipB b l k ≤ l.length := by
  unfold skipB
  have := (List.takeWhile_prefix (isB b) (l := l.drop k)).length_le
  rw [List.length_drop] at this
  omega
/-- Behind the run stands no such byte. -/
theorem skip_not {b : Bool} {l : List UInt8} {k : Nat} (hk : skipB b l k < l.length) : isB b l[skipB b l k] = false := by
  have h : ∀ n k, n = l.length - k → (hk : skipB b l k < l.length) → isB b l[skipB b l k] = false := by
    intro n
    induction n with
    | zero => intro k hn hk; have := skip_ge b l k; omega
    | succ n ih =>
      intro k hn hk
      have hk' : k < l.length := by omega
      cases h : isB b l[k]
      · have e := skip_stop hk' h
        simp only [e]
        exact h
      · have e := skip_step hk' h
        have := ih (k + 1) (by omega) (by omega)
        simp only [e] at this
        exact this
  exact h _ k rfl hk
/-- In the run every byte is one. -/
theorem skip_in {b : Bool} {l : List UInt8} {k i : Nat} (h1 : k ≤ i) (h2 : i < skipB b l k) (hi : i < l.length) : isB b l[i] = true := by
  have h : ∀ n k, n = l.length - k → k ≤ i → i < skipB b l k → isB b l[i] = true := by
    intro n
    induction n with
    | zero => intro k hn h1 h2; omega
    | succ n ih =>
      intro k hn h1 h2
      have hk' : k < l.length := by omega
      cases h : isB b l[k]
      · have e := skip_stop hk' h
        omega
      · by_cases e : i = k
        · subst e; exact h
        · exact ih (k + 1) (by omega) (by omega) (by rw [skip_step hk' h]; exact h2)
  exact h _ k rfl h1 h2

theorem isB_not (b : Bool) (c : UInt8) : isB (!b) c = !isB b c := by
  unfold isB
  cases b <;> cases decide (c.toNat ≤ 32) <;> rfl

/-- The next word: where it begins, where it ends, how far the text is read then. -/
def from_ (l : List UInt8) (k : Nat) : Nat := skipB true l k
def to_ (l : List UInt8) (k : Nat) : Nat := skipB false l (from_ l k)
def next_ (l : List UInt8) (k : Nat) : Nat := min (to_ l k + 1) l.length

theorem from_ge (l : List UInt8) (k : Nat) : k ≤ from_ l k := skip_ge _ _ _
theorem from_le {l : List UInt8} {k : Nat} (h : k ≤ l.length) : from_ l k ≤ l.length := skip_le h
theorem to_ge (l : List UInt8) (k : Nat) : from_ l k ≤ to_ l k := skip_ge _ _ _
theorem to_le {l : List UInt8} {k : Nat} (h : k ≤ l.length) : to_ l k ≤ l.length := skip_le (from_le h)
theorem next_le (l : List UInt8) (k : Nat) : next_ l k ≤ l.length := Nat.min_le_right _ _
theorem next_ge {l : List UInt8} {k : Nat} (h : k ≤ l.length) : k ≤ next_ l k := by
  have h1 := from_ge l k
  have h2 := to_ge l k
  unfold next_
  omega
/-- There is a word just if its beginning is not the end. -/
theorem to_gt {l : List UInt8} {k : Nat} (h : from_ l k < l.length) : from_ l k < to_ l k := by
  have h1 : isB true l[from_ l k] = false := skip_not h
  have h2 : isB false l[from_ l k] = true := by
    have := isB_not true l[from_ l k]
    rw [h1] at this
    exact this
  have := skip_step (b := false) h h2
  have h3 := skip_ge false l (from_ l k + 1)
  unfold to_
  omega
theorem to_end {l : List UInt8} {k : Nat} (h : l.length ≤ from_ l k) : to_ l k = from_ l k := skip_end h

/-- Where the byte c stands first, from k on; the end if nowhere. -/
def findB (c : UInt8) (l : List UInt8) (k : Nat) : Nat := k + ((l.drop k).takeWhile (fun x => x != c)).length
theorem find_step {c : UInt8} {l : List UInt8} {k : Nat} (hk : k < l.length) (h : l[k] ≠ c) : findB c l (k + 1) = findB c l k := by
  unfold findB
  rw [List.drop_eq_getElem_cons hk, List.takeWhile_cons, if_pos (by simpa using h), List.length_cons]
  omega
theorem find_stop {c : UInt8} {l : List UInt8} {k : Nat} (hk : k < l.length) (h : l[k] = c) : findB c l k = k := by
  unfold findB
  rw [List.drop_eq_getElem_cons hk, List.takeWhile_cons, if_neg (by simpa using h)]
  rfl
theorem find_end {c : UInt8} {l : List UInt8} {k : Nat} (hk : l.length ≤ k) : findB c l k = k := by
  unfold findB
  rw [List.drop_eq_nil_of_le hk]
  rfl
theorem find_ge (c : UInt8) (l : List UInt8) (k : Nat) : k ≤ findB c l k := Nat.le_add_right _ _
theorem find_le {c : UInt8} {l : List UInt8} {k : Nat} (hk : k ≤ l.length) : findB c l k ≤ l.length := by
  unfold findB
  have := (List.takeWhile_prefix (fun x => x != c) (l := l.drop k)).length_le
  rw [List.length_drop] at this
  omega
theorem find_is {c : UInt8} {l : List UInt8} {k : Nat} (hk : findB c l k < l.length) : l[findB c l k] = c := by
  have h : ∀ n k, n = l.length - k → (hk : findB c l k < l.length) → l[findB c l k] = c := by
    intro n
    induction n with
    | zero => intro k hn hk; have := find_ge c l k; omega
    | succ n ih =>
      intro k hn hk
      have hk' : k < l.length := by omega
      by_cases h : l[k] = c
      · have e := find_stop hk' h
        simp only [e]
        exact h
      · have e := find_step hk' h
        have := ih (k + 1) (by omega) (by omega)
        simp only [e] at this
        exact this
  exact h _ k rfl hk

end Go.Proofs.Ytfoogcdpllkeoaa.Src
