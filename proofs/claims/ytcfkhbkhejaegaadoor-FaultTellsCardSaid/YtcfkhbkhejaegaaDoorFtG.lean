/-
  Chapter 2 (fault): a number's digits to ten; the texts of codes; what the texts are, and that they are apart.
-/
import Derived.Test.YtcfkhbkhejaegaaDoorFtF
import Derived.Test.YtcfkhbkhejaegaaDoorDgC
import Derived.Lib.ItoaNum
import Derived.Lib.ItoaLen
import Derived.Lib.AppendIntMem
import Derived.Test.YtcfkhbkhejaegaaDoorShelf
namespace Go.Proofs.YtcfkhbkhejaegaaDoor.Ft
open Go.RowKit Go.Extern.Stop Go.Stop Go.Extern

theorem dec_put (n : Nat) : Lib.decDigits n = Dg.putL 10 n := by
  induction n using Nat.strongRecOn with
  | _ n ih =>
    rw [Lib.decDigits]
    by_cases h : n < 10
    · rw [dif_pos h, Dg.putL_small _ _ h]
      simp [Dg.dig, h]
    · rw [dif_neg h, Dg.putL_step _ _ (by omega) (by omega), ih (n / 10) (by omega)]
      have h2 : n % 10 < 10 := Nat.mod_lt _ (by omega)
      simp [Dg.dig, h2]
theorem itoa_put (n : Int) : Lib.itoa n = Dg.putV n 10 := by
  unfold Lib.itoa Dg.putV
  rw [if_neg (show ¬ ((10 : Int) < 2 ∨ 36 < (10 : Int)) by omega)]
  by_cases h : n < 0
  · rw [if_pos h, if_pos h, dec_put]; rfl
  · rw [if_neg h, if_neg h, dec_put, show n.toNat = n.natAbs by omega]; rfl
theorem itoa_inj {a b : Int} (a1 : -9223372036854775808 ≤ a) (a2 : a ≤ 9223372036854775807) (b1 : -9223372036854775808 ≤ b) (b2 : b ≤ 9223372036854775807) (h : Lib.itoa a = Lib.itoa b) : a = b := by
  rw [itoa_put, itoa_put] at h
  have ha := Dg.get_put a 10 (by omega) (by omega) a1 a2
  have hb := Dg.get_put b 10 (by omega) (by omega) b1 b2
  rw [h, hb] at ha
  injection ha with ha
  exact ha.symm

theorem below_grow {B : Nat} {a w : World} (h : Below B a w) (hB : B ≤ a.heap.size) (k : Nat) (os : Array Obj) : Below B a (Go.Sort.grow (w.drewN k) os) := by
  refine ⟨h.os, h.tape, h.output, Nat.le_trans h.size (by simp [Go.Sort.grow]), fun i hi => ?_⟩
  have := h.size
  have e : i < w.heap.size := by omega
  show (w.heap ++ os)[i]? = _
  rw [Array.getElem?_append_left e]
  exact h.block i hi

/-- What a call here finds: errors' handle, and the table of powers of ten. -/
structure St (w : World) : Prop where
  handle : HandleIs w
  tab : Lib.TabIs Tryd.prog w "internal/strconv.uint64pow10" .u64 Lib.pow10Tab
theorem St.below {w w' : World} (h : St w) (hb : Below w.heap.size w w') : St w' := ⟨h.handle.below hb, Lib.tabBelow_of_tabIs h.tab w' hb⟩

theorem itoa_any (n : Int) (h0 : -9223372036854775808 ≤ n) (h1 : n ≤ 9223372036854775807) (w : World) (hs : St w) :
    Calls Tryd.prog 39 #[.int .i64 n] w fun e w' => e = .returned (.string ⟨(Lib.itoa n).toArray⟩) ∧ Below w.heap.size w w' :=
  (Tryd.strconv_Itoa n h0 h1 w hs.tab).mono fun _ _ ⟨he, k, os, hw⟩ => ⟨he, by rw [hw]; exact below_grow (Below.refl _ _) (Nat.le_refl _) k os⟩

def texts : List (Int × List UInt8) := [
  (-3, [115, 116, 97, 99, 107, 32, 111, 118, 101, 114, 102, 108, 111, 119]),
  (-4, [115, 116, 97, 99, 107, 32, 117, 110, 100, 101, 114, 102, 108, 111, 119]),
  (-5, [114, 101, 116, 117, 114, 110, 32, 115, 116, 97, 99, 107, 32, 111, 118, 101, 114, 102, 108, 111, 119]),
  (-6, [114, 101, 116, 117, 114, 110, 32, 115, 116, 97, 99, 107, 32, 117, 110, 100, 101, 114, 102, 108, 111, 119]),
  (-8, [100, 105, 99, 116, 105, 111, 110, 97, 114, 121, 32, 111, 118, 101, 114, 102, 108, 111, 119]),
  (-9, [105, 110, 118, 97, 108, 105, 100, 32, 97, 100, 100, 114, 101, 115, 115]),
  (-10, [100, 105, 118, 105, 115, 105, 111, 110, 32, 98, 121, 32, 122, 101, 114, 111]),
  (-13, [117, 110, 100, 101, 102, 105, 110, 101, 100, 32, 119, 111, 114, 100]),
  (-14, [99, 111, 109, 112, 105, 108, 101, 45, 111, 110, 108, 121, 32, 119, 111, 114, 100]),
  (-16, [110, 111, 32, 110, 97, 109, 101]),
  (-22, [99, 111, 110, 116, 114, 111, 108, 32, 109, 105, 115, 109, 97, 116, 99, 104]),
  (-25, [98, 114, 111, 107, 101, 110, 32, 99, 97, 116, 99, 104]),
  (-57, [111, 117, 116, 112, 117, 116, 32, 102, 117, 108, 108])]
def throwB : List UInt8 := [116, 104, 114, 111, 119, 32]
def textV (code : Int) : List UInt8 := match texts.find? (·.1 == code) with | some p => p.2 | none => throwB ++ Lib.itoa code

theorem texts_apart : ∀ p ∈ texts, ∀ q ∈ texts, p.2 = q.2 → p.1 = q.1 := by decide
theorem texts_throw : ∀ p ∈ texts, p.2.take 6 ≠ throwB := by decide
theorem texts_full : ∀ p ∈ texts, p.2 ≠ [] ∧ p.2.length ≤ 22 := by decide
theorem textV_cases (code : Int) : (∃ p ∈ texts, p.1 = code ∧ textV code = p.2) ∨ (∀ p ∈ texts, p.1 ≠ code) ∧ textV code = throwB ++ Lib.itoa code := by
  unfold textV
  cases h : texts.find? (·.1 == code) with
  | some p =>
    exact .inl ⟨p, List.mem_of_find?_eq_some h, by simpa using List.find?_some h, rfl⟩
  | none =>
    refine .inr ⟨fun p hp e => ?_, rfl⟩
    have := List.find?_eq_none.1 h p hp
    simp [e] at this
theorem textV_inj {a b : Int} (a1 : -9223372036854775808 ≤ a) (a2 : a ≤ 9223372036854775807) (b1 : -9223372036854775808 ≤ b) (b2 : b ≤ 9223372036854775807) (h : textV a = textV b) : a = b := by
  have tk : ∀ x : Int, (throwB ++ Lib.itoa x).take 6 = throwB := fun x => by
    have : throwB.length = 6 := rfl
    rw [List.take_append_of_le_length (by omega), List.take_of_length_le (by omega)]
  rcases textV_cases a with ⟨p, hp, e1, e2⟩ | ⟨e1, e2⟩ <;> rcases textV_cases b with ⟨q, hq, f1, f2⟩ | ⟨f1, f2⟩
  · rw [← e1, ← f1]; exact texts_apart p hp q hq (by rw [← e2, ← f2, h])
  · refine absurd ?_ (texts_throw p hp)
    rw [← e2, h, f2, tk]
  · refine absurd ?_ (texts_throw q hq)
    rw [← f2, ← h, e2, tk]
  · rw [e2, f2] at h
    exact itoa_inj a1 a2 b1 b2 (List.append_cancel_left h)
theorem textV_ne (a : Int) : textV a ≠ [] := by
  rcases textV_cases a with ⟨p, hp, e1, e2⟩ | ⟨e1, e2⟩
  · rw [e2]; exact (texts_full p hp).1
  · rw [e2]; intro h; cases h
theorem textV_len (a : Int) (a1 : -9223372036854775808 ≤ a) (a2 : a ≤ 9223372036854775807) : (textV a).length ≤ 40 := by
  rcases textV_cases a with ⟨p, hp, e1, e2⟩ | ⟨e1, e2⟩
  · rw [e2]; have := (texts_full p hp).2; omega
  · rw [e2, List.length_append]; have := Lib.itoa_length_le a a1 a2; have : throwB.length = 6 := rfl; omega
end Go.Proofs.YtcfkhbkhejaegaaDoor.Ft
