/-
  Chapter 8 (source): the plain part of SourceWords: words with a blank behind each are read as they are.
-/
import Derived.Test.YtfoogcdpllkeoaaSrcE
namespace Go.Proofs.Ytfoogcdpllkeoaa.Src
open Go.RowKit

/-- Words, a blank behind each. -/
def cat (ws : List ByteArray) : List UInt8 := ws.flatMap fun w => w.data.toList ++ [32]

/-- A word: not empty, no byte a blank. -/
def IsWord (w : ByteArray) : Prop := 0 < w.size ∧ ∀ c ∈ w.data.toList, isB false c = true

theorem cat_snoc (ws : List ByteArray) (w : ByteArray) : cat (ws ++ [w]) = cat ws ++ (w.data.toList ++ [32]) := by simp [cat]

theorem cat_mid (a : List ByteArray) (b : ByteArray) (c : List ByteArray) : cat (a ++ b :: c) = cat a ++ (b.data.toList ++ 32 :: cat c) := by simp [cat]

theorem takeWhile_all {α : Type} (p : α → Bool) (l r : List α) (x : α) (h : ∀ c ∈ l, p c = true) (hx : p x = false) : (l ++ x :: r).takeWhile p = l := by
  induction l with
  | nil => simp [hx]
  | cons a l ih => simp [h a (by simp), ih (fun c hc => h c (by simp [hc]))]

theorem b32 : isB false 32 = false := by decide

theorem cat_read (ws : List ByteArray) (j : Nat) (hj : j < ws.length) (hw : ∀ w ∈ ws, IsWord w) :
    from_ (cat ws) (cat (ws.take j)).length = (cat (ws.take j)).length ∧ to_ (cat ws) (cat (ws.take j)).length = (cat (ws.take j)).length + ws[j].size ∧
      next_ (cat ws) (cat (ws.take j)).length = (cat (ws.take (j + 1))).length ∧ (cat (ws.take j)).length + ws[j].size < (cat ws).length ∧
      ((cat ws).drop (cat (ws.take j)).length).take ws[j].size = ws[j].data.toList := by
  have hsplit : ws = ws.take j ++ (ws[j] :: ws.drop (j + 1)) := by rw [← List.drop_eq_getElem_cons hj, List.take_append_drop]
  have hcat : cat ws = cat (ws.take j) ++ (ws[j].data.toList ++ 32 :: cat (ws.drop (j + 1))) := (congrArg cat hsplit).trans (cat_mid _ _ _)
  have hdrop : (cat ws).drop (cat (ws.take j)).length = ws[j].data.toList ++ 32 :: cat (ws.drop (j + 1)) := by rw [hcat, List.drop_left]
  have hsz : ws[j].data.toList.length = ws[j].size := rfl
  obtain ⟨h0, h1⟩ := hw ws[j] (List.getElem_mem hj)
  have hlen : (cat ws).length = (cat (ws.take j)).length + (ws[j].size + 1 + (cat (ws.drop (j + 1))).length) := by
    rw [hcat]
    simp only [List.length_append, List.length_cons, hsz]
    omega
  have hf : from_ (cat ws) (cat (ws.take j)).length = (cat (ws.take j)).length := by
    unfold from_ skipB
    rw [hdrop]
    obtain ⟨c, r, hc⟩ : ∃ c r, ws[j].data.toList = c :: r := by
      cases hl : ws[j].data.toList with
      | nil => rw [hl] at hsz; simp at hsz; omega
      | cons c r => exact ⟨c, r, rfl⟩
    have hcB : isB true c = false := by
      have := isB_not false c
      rw [h1 c (by rw [hc]; simp)] at this
      exact this
    rw [hc]
    simp [hcB]
  have ht : to_ (cat ws) (cat (ws.take j)).length = (cat (ws.take j)).length + ws[j].size := by
    unfold to_
    rw [hf]
    unfold skipB
    rw [hdrop, takeWhile_all _ _ _ _ h1 b32, hsz]
  have hn : (cat (ws.take (j + 1))).length = (cat (ws.take j)).length + ws[j].size + 1 := by
    rw [List.take_succ_eq_append_getElem hj, cat_snoc]
    simp only [List.length_append, List.length_cons, List.length_nil, hsz]
    omega
  refine ⟨hf, ht, ?_, by omega, ?_⟩
  · unfold next_
    rw [ht, hn]
    omega
  · rw [hdrop, List.take_append_of_le_length (by omega)]
    rw [List.take_of_length_le (by omega)]

theorem cat_end (ws : List ByteArray) : from_ (cat ws) (cat ws).length = (cat ws).length := skip_end (Nat.le_refl _)

/-- What the text's own word is. -/
theorem word_is (t : ByteArray) (k : Nat) (hk : k ≤ t.size) (h : from_ t.data.toList k < t.size) : IsWord (t.extract (from_ t.data.toList k) (to_ t.data.toList k)) := by
  have hsz : t.data.toList.length = t.size := rfl
  have hle := to_le (l := t.data.toList) (k := k) (by omega)
  have hgt := to_gt (l := t.data.toList) (k := k) (by omega)
  refine ⟨by rw [ByteArray.size_extract]; omega, fun c hc => ?_⟩
  obtain ⟨i, hi, rfl⟩ := List.getElem_of_mem hc
  have hi' : i < (t.extract (from_ t.data.toList k) (to_ t.data.toList k)).size := hi
  have := word_byte t k i hk hi'
  unfold isB
  have h2 : ¬ (t.extract (from_ t.data.toList k) (to_ t.data.toList k)).data.toList[i].toNat ≤ 32 := by
    intro h3
    apply this
    have : ((t.extract (from_ t.data.toList k) (to_ t.data.toList k))[i]) = (t.extract (from_ t.data.toList k) (to_ t.data.toList k)).data.toList[i] := rfl
    rw [this]
    omega
  rw [decide_eq_false h2]
  rfl

/-- How far a word brings the text. -/
theorem word_far (t : ByteArray) (k : Nat) (hk : k ≤ t.size) (h : from_ t.data.toList k < t.size) :
    k + 1 ≤ next_ t.data.toList k ∧ (t.extract (from_ t.data.toList k) (to_ t.data.toList k)).size + 1 ≤ 2 * (next_ t.data.toList k - k) := by
  have hsz : t.data.toList.length = t.size := rfl
  have hle := to_le (l := t.data.toList) (k := k) (by omega)
  have hgt := to_gt (l := t.data.toList) (k := k) (by omega)
  have hge := from_ge t.data.toList k
  rw [ByteArray.size_extract]
  unfold next_
  omega

theorem last_far (t : ByteArray) (k : Nat) (hk : k ≤ t.size) (h : ¬ from_ t.data.toList k < t.size) : next_ t.data.toList k = t.size := by
  have hsz : t.data.toList.length = t.size := rfl
  have hle := from_le (l := t.data.toList) (k := k) (by omega)
  have := to_end (l := t.data.toList) (k := k) (by omega)
  unfold next_
  omega

end Go.Proofs.Ytfoogcdpllkeoaa.Src
