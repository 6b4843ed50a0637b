/-
  Chapter 3 (digits): what Put and Get come to; the plain laws.
-/
import Derived.RowKit
namespace Go.Proofs.YtoaidcjjjoafjaaGreatDoor.Dg
open Go.RowKit

/-- A digit's byte. -/
def dig (k : Nat) : UInt8 := UInt8.ofNat (if k < 10 then 48 + k else 55 + k)

/-- A number's digits, the least one last. -/
def putL (b n : Nat) : List UInt8 :=
  if h : 2 ≤ b ∧ b ≤ n then putL b (n / b) ++ [dig (n % b)] else [dig n]
termination_by n
decreasing_by exact Nat.div_lt_self (by omega) (by omega)

def putV (v b : Int) : List UInt8 :=
  if b < 2 ∨ 36 < b then [] else (if v < 0 then [45] else []) ++ putL b.toNat v.natAbs

/-- What a digit is worth; -1: it is none. -/
def worth (c : UInt8) : Int :=
  if 48 ≤ c.toNat ∧ c.toNat ≤ 57 then (c.toNat : Int) - 48 else if 65 ≤ c.toNat ∧ c.toNat ≤ 90 then (c.toNat : Int) - 55 else if 97 ≤ c.toNat ∧ c.toNat ≤ 122 then (c.toNat : Int) - 87 else -1

/-- The digits, one by one. -/
def foldG (b : Int) : List UInt8 → Int → Option Int
  | [], v => some v
  | c :: r, v => if worth c < 0 ∨ b ≤ worth c then none else foldG b r (wrap64 (wrap64 (v * b) + worth c))

def signS : List UInt8 → Int → List UInt8 × Int
  | [], b => ([], b)
  | c :: r, b => if c = 36 then (r, 16) else if c = 37 then (r, 2) else if c = 35 then (r, 10) else (c :: r, b)

def minusS : List UInt8 → List UInt8 × Bool
  | [] => ([], false)
  | c :: r => if c = 45 then (r, true) else (c :: r, false)

def quoted (s : List UInt8) : Bool := s.length == 3 && s.getD 0 0 == 39 && s.getD 2 0 == 39

def numV (t : List UInt8) (neg : Bool) (b : Int) : Int × Bool :=
  if t = [] ∨ 70 < t.length then (0, false)
  else match foldG b t 0 with
    | none => (0, false)
    | some v => (if neg then wrap64 (-v) else v, true)

def getV (s : List UInt8) (b : Int) : Int × Bool :=
  if b < 2 ∨ 36 < b then (0, false)
  else if quoted s then (((s.getD 1 0).toNat : Int), true)
  else numV (minusS (signS s b).1).1 (minusS (signS s b).1).2 (signS s b).2

theorem w64_add (x y : Int) : wrap64 (wrap64 x + y) = wrap64 (x + y) := by unfold wrap64; omega
theorem w64_mul (x y : Int) : wrap64 (wrap64 x * y) = wrap64 (x * y) := by
  unfold wrap64
  have h : ((x + 9223372036854775808) % 18446744073709551616 - 9223372036854775808) * y = x * y + 18446744073709551616 * (-((x + 9223372036854775808) / 18446744073709551616) * y) := by
    have := Int.emod_add_mul_ediv (x + 9223372036854775808) 18446744073709551616
    generalize (x + 9223372036854775808) % 18446744073709551616 = r at *
    generalize (x + 9223372036854775808) / 18446744073709551616 = q at *
    have e : r - 9223372036854775808 = x - 18446744073709551616 * q := by omega
    rw [e, Int.sub_mul, Int.mul_assoc, Int.neg_mul, Int.mul_neg, Int.sub_eq_add_neg]
  rw [h]
  generalize x * y = p
  generalize -((x + 9223372036854775808) / 18446744073709551616) * y = m
  omega
theorem w64_neg (x : Int) : wrap64 (-(wrap64 x)) = wrap64 (-x) := by unfold wrap64; omega
theorem w64_in (x : Int) (h1 : -9223372036854775808 ≤ x) (h2 : x ≤ 9223372036854775807) : wrap64 x = x := by unfold wrap64; omega

theorem dig_worth (k : Nat) (h : k < 36) : worth (dig k) = k := by
  have : ∀ k : Fin 36, worth (dig k.1) = k.1 := by decide
  exact this ⟨k, h⟩
theorem dig_not (k : Nat) (h : k < 36) : dig k ≠ 35 ∧ dig k ≠ 36 ∧ dig k ≠ 37 ∧ dig k ≠ 39 ∧ dig k ≠ 45 := by
  have : ∀ k : Fin 36, dig k.1 ≠ 35 ∧ dig k.1 ≠ 36 ∧ dig k.1 ≠ 37 ∧ dig k.1 ≠ 39 ∧ dig k.1 ≠ 45 := by decide
  exact this ⟨k, h⟩

theorem putL_small (b n : Nat) (h : n < b) : putL b n = [dig n] := by
  rw [putL, dif_neg (by omega)]
theorem putL_step (b n : Nat) (h : 2 ≤ b) (h' : b ≤ n) : putL b n = putL b (n / b) ++ [dig (n % b)] := by
  rw [putL, dif_pos ⟨h, h'⟩]

theorem putL_mem (b n : Nat) (hb : 2 ≤ b) (hb' : b ≤ 36) : ∀ c ∈ putL b n, ∃ k, k < 36 ∧ c = dig k := by
  induction n using Nat.strongRecOn with
  | _ n ih =>
    by_cases h : b ≤ n
    · rw [putL_step b n hb h]
      intro c hc
      rcases List.mem_append.1 hc with hc | hc
      · exact ih (n / b) (Nat.div_lt_self (by omega) (by omega)) c hc
      · simp at hc
        exact ⟨n % b, by have := Nat.mod_lt n (show 0 < b by omega); omega, hc⟩
    · rw [putL_small b n (by omega)]
      intro c hc
      simp at hc
      exact ⟨n, by omega, hc⟩

theorem putL_pos (b n : Nat) : putL b n ≠ [] := by
  rw [putL]
  split <;> simp

theorem putL_len (b : Nat) (hb : 2 ≤ b) (k n : Nat) (h : n < 2 ^ k) : (putL b n).length ≤ max k 1 := by
  induction k generalizing n with
  | zero =>
    have : n = 0 := by simpa using h
    subst this
    rw [putL_small b 0 (by omega)]
    simp
  | succ k ih =>
    by_cases hn : b ≤ n
    · rw [putL_step b n hb hn]
      have hlt : n / b < 2 ^ k := by
        apply Nat.div_lt_of_lt_mul
        calc n < 2 ^ (k + 1) := h
          _ = 2 * 2 ^ k := by rw [Nat.pow_succ, Nat.mul_comm]
          _ ≤ b * 2 ^ k := Nat.mul_le_mul_right _ hb
      have h1 := ih (n / b) hlt
      have hk : k ≠ 0 := by
        intro e
        subst e
        simp at h
        omega
      simp
      omega
    · rw [putL_small b n (by omega)]
      simp

theorem foldG_snoc (b : Int) (l : List UInt8) (c : UInt8) (v : Int) :
    foldG b (l ++ [c]) v = (foldG b l v).bind fun x => if worth c < 0 ∨ b ≤ worth c then none else some (wrap64 (wrap64 (x * b) + worth c)) := by
  induction l generalizing v with
  | nil => simp [foldG]
  | cons d r ih =>
    simp only [List.cons_append, foldG]
    split
    · rfl
    · exact ih _

theorem fold_put (b n : Nat) (hb : 2 ≤ b) (hb' : b ≤ 36) : foldG b (putL b n) 0 = some (wrap64 n) := by
  induction n using Nat.strongRecOn with
  | _ n ih =>
    by_cases h : b ≤ n
    · rw [putL_step b n hb h, foldG_snoc, ih (n / b) (Nat.div_lt_self (by omega) (by omega))]
      have hm := Nat.mod_lt n (show 0 < b by omega)
      simp only [Option.bind_some]
      rw [dig_worth _ (by omega), if_neg (by omega), w64_mul, w64_add]
      congr 2
      have := Nat.div_add_mod n b
      calc (((n / b : Nat) : Int) * b + ((n % b : Nat) : Int)) = ((b * (n / b) + n % b : Nat) : Int) := by rw [Int.mul_comm]; push_cast; rfl
        _ = n := by rw [this]
    · rw [putL_small b n (by omega)]
      simp only [foldG]
      rw [dig_worth _ (by omega), if_neg (by omega), w64_add]
      congr 2
      omega

/-- A digit that is not below the base: no number. -/
theorem fold_none (b : Int) (l : List UInt8) (v : Int) (c : UInt8) (hc : c ∈ l) (hw : worth c < 0 ∨ b ≤ worth c) : foldG b l v = none := by
  induction l generalizing v with
  | nil => cases hc
  | cons d r ih =>
    simp only [foldG]
    rcases List.mem_cons.1 hc with h | h
    · subst h; rw [if_pos hw]
    · split
      · rfl
      · exact ih _ h

theorem num_put (v b : Int) (hb : 2 ≤ b) (hb' : b ≤ 36) (h1 : -9223372036854775808 ≤ v) (h2 : v ≤ 9223372036854775807) (s : List UInt8) (hs : s = putV v b) :
    numV (minusS s).1 (minusS s).2 b = (v, true) := by
  subst hs
  have hp := putL_pos b.toNat v.natAbs
  have hl := putL_len b.toNat (by omega) 64 v.natAbs (by omega)
  have hf := fold_put b.toNat v.natAbs (by omega) (by omega)
  have hbb : ((b.toNat : Nat) : Int) = b := by omega
  rw [hbb] at hf
  have hm := putL_mem b.toNat v.natAbs (by omega) (by omega)
  unfold putV
  rw [if_neg (by omega)]
  have key : ∀ neg : Bool, numV (putL b.toNat v.natAbs) neg b = (if neg then wrap64 (-(wrap64 v.natAbs)) else wrap64 v.natAbs, true) := by
    intro neg
    unfold numV
    rw [if_neg (by rintro (h | h); exact hp h; omega), hf]
  by_cases hv : v < 0
  · rw [if_pos hv]
    simp only [List.singleton_append, minusS, if_true]
    rw [key true, if_pos rfl, w64_neg]
    have : -((v.natAbs : Nat) : Int) = v := by omega
    rw [this, w64_in v h1 h2]
  · rw [if_neg hv]
    have e : minusS ([] ++ putL b.toNat v.natAbs) = (putL b.toNat v.natAbs, false) := by
      rw [List.nil_append]
      generalize hg : putL b.toNat v.natAbs = l at *
      cases l with
      | nil => exact absurd rfl hp
      | cons c r =>
        obtain ⟨k, hk, rfl⟩ := hm c (by simp)
        simp only [minusS]
        rw [if_neg (dig_not k hk).2.2.2.2]
    rw [e, key false]
    have : ((v.natAbs : Nat) : Int) = v := by omega
    simp only [Bool.false_eq_true, if_false]
    rw [this, w64_in v h1 h2]

theorem putV_head (v b : Int) (hb : 2 ≤ b) (hb' : b ≤ 36) : ∃ c r, putV v b = c :: r ∧ c ≠ 35 ∧ c ≠ 36 ∧ c ≠ 37 ∧ c ≠ 39 := by
  unfold putV
  rw [if_neg (by omega)]
  by_cases hv : v < 0
  · rw [if_pos hv]
    exact ⟨45, _, rfl, by decide, by decide, by decide, by decide⟩
  · rw [if_neg hv, List.nil_append]
    have hm := putL_mem b.toNat v.natAbs (by omega) (by omega)
    have hp := putL_pos b.toNat v.natAbs
    generalize putL b.toNat v.natAbs = l at *
    cases l with
    | nil => exact absurd rfl hp
    | cons c r =>
      obtain ⟨k, hk, rfl⟩ := hm c (by simp)
      have := dig_not k hk
      exact ⟨_, _, rfl, this.1, this.2.1, this.2.2.1, this.2.2.2.1⟩

theorem quoted_no (c : UInt8) (r : List UInt8) (h : c ≠ 39) : quoted (c :: r) = false := by
  unfold quoted
  simp [h]

/-- Digits that are read again are the number. -/
theorem get_put (v b : Int) (hb : 2 ≤ b) (hb' : b ≤ 36) (h1 : -9223372036854775808 ≤ v) (h2 : v ≤ 9223372036854775807) : getV (putV v b) b = (v, true) := by
  obtain ⟨c, r, e, n1, n2, n3, n4⟩ := putV_head v b hb hb'
  have hn := num_put v b hb hb' h1 h2 (c :: r) e.symm
  rw [e]
  unfold getV
  rw [if_neg (by omega), quoted_no c r n4]
  simp only [Bool.false_eq_true, if_false, signS]
  rw [if_neg n2, if_neg n3, if_neg n1]
  exact hn

/-- .. with another base's sign ahead. -/
theorem get_sign (v b b' : Int) (c : UInt8) (hb : 2 ≤ b) (hb' : b ≤ 36) (hc : c = 36 ∧ b' = 16 ∨ c = 37 ∧ b' = 2 ∨ c = 35 ∧ b' = 10) (h1 : -9223372036854775808 ≤ v) (h2 : v ≤ 9223372036854775807) :
    getV (c :: putV v b') b = (v, true) := by
  have hn := num_put v b' (by omega) (by omega) h1 h2 _ rfl
  unfold getV
  rw [if_neg (by omega), quoted_no c _ (by rcases hc with ⟨rfl, _⟩ | ⟨rfl, _⟩ | ⟨rfl, _⟩ <;> decide)]
  simp only [Bool.false_eq_true, if_false]
  rcases hc with ⟨rfl, rfl⟩ | ⟨rfl, rfl⟩ | ⟨rfl, rfl⟩ <;> simpa [signS] using hn

/-- Letters great and small. -/
def low (c : UInt8) : UInt8 := if 65 ≤ c.toNat ∧ c.toNat ≤ 90 then c + 32 else c
theorem low_all : ∀ c : UInt8, worth (low c) = worth c ∧ (low c = 36 ↔ c = 36) ∧ (low c = 37 ↔ c = 37) ∧ (low c = 35 ↔ c = 35) ∧ (low c = 45 ↔ c = 45) ∧ (low c = 39 ↔ c = 39) := by
  have h : ∀ k : Fin 256, worth (low (UInt8.ofNat k.1)) = worth (UInt8.ofNat k.1) ∧ (low (UInt8.ofNat k.1) = 36 ↔ UInt8.ofNat k.1 = 36) ∧ (low (UInt8.ofNat k.1) = 37 ↔ UInt8.ofNat k.1 = 37) ∧ (low (UInt8.ofNat k.1) = 35 ↔ UInt8.ofNat k.1 = 35) ∧ (low (UInt8.ofNat k.1) = 45 ↔ UInt8.ofNat k.1 = 45) ∧ (low (UInt8.ofNat k.1) = 39 ↔ UInt8.ofNat k.1 = 39) := by decide +kernel
  intro c
  have := h ⟨c.toNat, c.toNat_lt⟩
  simpa using this
theorem fold_low (b : Int) (l : List UInt8) (v : Int) : foldG b (l.map low) v = foldG b l v := by
  induction l generalizing v with
  | nil => rfl
  | cons c r ih => simp only [List.map_cons, foldG, (low_all c).1, ih]
theorem sign_low (l : List UInt8) (b : Int) : signS (l.map low) b = ((signS l b).1.map low, (signS l b).2) := by
  cases l with
  | nil => rfl
  | cons c r =>
    have := low_all c
    simp only [List.map_cons, signS, this.2.1, this.2.2.1, this.2.2.2.1]
    split
    · rfl
    · split
      · rfl
      · split <;> rfl
theorem minus_low (l : List UInt8) : minusS (l.map low) = ((minusS l).1.map low, (minusS l).2) := by
  cases l with
  | nil => rfl
  | cons c r =>
    simp only [List.map_cons, minusS, (low_all c).2.2.2.2.1]
    split <;> rfl
theorem num_low (t : List UInt8) (neg : Bool) (b : Int) : numV (t.map low) neg b = numV t neg b := by
  unfold numV
  simp only [List.map_eq_nil_iff, List.length_map, fold_low]
theorem get_low (s : List UInt8) (b : Int) (h : ¬ (s.length = 3 ∧ s.getD 0 0 = 39)) : getV (s.map low) b = getV s b := by
  have q : ∀ t : List UInt8, ¬ (t.length = 3 ∧ t.getD 0 0 = 39) → quoted t = false := by
    intro t ht
    unfold quoted
    cases h1 : t.length == 3
    · rfl
    · cases h2 : t.getD 0 0 == 39
      · rfl
      · exact absurd ⟨by simpa using h1, by simpa using h2⟩ ht
  have h' : ¬ ((s.map low).length = 3 ∧ (s.map low).getD 0 0 = 39) := by
    rintro ⟨a1, a2⟩
    apply h
    refine ⟨by simpa using a1, ?_⟩
    cases s with
    | nil => simp at a1
    | cons c r =>
      simp only [List.map_cons, List.getD_cons_zero] at a2 ⊢
      exact (low_all c).2.2.2.2.2.1 a2
  unfold getV
  rw [q s h, q _ h', sign_low]
  simp only [minus_low, num_low, Bool.false_eq_true, if_false]

/-- A digit that is not below its base, wherever it stands. -/
theorem get_other (v b : Int) (d k : Nat) (hb : 2 ≤ b) (hd : b ≤ d) (hd' : d < 36) (hk : (putV v b).head? = some 45 → k ≠ 0) :
    (getV ((putV v b).take k ++ [dig d] ++ (putV v b).drop k) b).2 = false := by
  have hw : worth (dig d) = d := dig_worth d hd'
  have dn := dig_not d hd'
  obtain ⟨c, r, e, n1, n2, n3, n4⟩ := putV_head v b hb (by omega)
  rw [e] at hk ⊢
  have hno : ∀ t neg, dig d ∈ t → (numV t neg b).2 = false := by
    intro t neg ht
    unfold numV
    split
    · rfl
    · rw [fold_none b t 0 (dig d) ht (by omega)]
  cases k with
  | zero =>
    have hc : c ≠ 45 := fun h => hk (by simp [h]) rfl
    simp only [List.take_zero, List.nil_append, List.drop_zero, List.singleton_append]
    unfold getV
    rw [if_neg (by omega), quoted_no _ _ dn.2.2.2.1]
    simp only [Bool.false_eq_true, if_false, signS]
    rw [if_neg dn.2.1, if_neg dn.2.2.1, if_neg dn.1]
    simp only [minusS]
    rw [if_neg dn.2.2.2.2]
    exact hno _ _ (by simp)
  | succ k =>
    simp only [List.take_succ_cons, List.drop_succ_cons, List.cons_append, List.append_assoc]
    unfold getV
    rw [if_neg (by omega), quoted_no c _ n4]
    simp only [Bool.false_eq_true, if_false, signS]
    rw [if_neg n2, if_neg n3, if_neg n1]
    simp only [minusS]
    split
    · exact hno _ _ (by simp)
    · exact hno _ _ (by simp)

theorem get_empty (b : Int) : (getV [] b).2 = false := by
  unfold getV
  split
  · rfl
  · rfl
theorem get_minus (b : Int) : (getV [45] b).2 = false := by
  unfold getV
  split
  · rfl
  · rfl
theorem get_quote (c : UInt8) (b : Int) (hb : 2 ≤ b) (hb' : b ≤ 36) : getV [39, c, 39] b = ((c.toNat : Int), true) := by
  unfold getV
  rw [if_neg (by omega)]
  rfl
end Go.Proofs.YtoaidcjjjoafjaaGreatDoor.Dg
