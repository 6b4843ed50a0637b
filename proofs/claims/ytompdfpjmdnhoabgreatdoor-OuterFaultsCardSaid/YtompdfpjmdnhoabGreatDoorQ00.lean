/-
  Lemmas on the way, for every input that they name: DgA, McA.
-/
import Derived.RowKit
set_option linter.unusedVariables false
set_option linter.unusedSimpArgs false
set_option linter.deprecated false
namespace Go.Proofs.YtompdfpjmdnhoabGreatDoor.Dg
open Go.RowKit
def dig (k : Nat) : UInt8 := UInt8.ofNat (if k < 10 then 48 + k else 55 + k)
def putL (b n : Nat) : List UInt8 :=
  if h : 2 ≤ b ∧ b ≤ n then putL b (n / b) ++ [dig (n % b)] else [dig n]
termination_by n
decreasing_by exact Nat.div_lt_self (by omega) (by omega)
def putV (v b : Int) : List UInt8 :=
  if b < 2 ∨ 36 < b then [] else (if v < 0 then [45] else []) ++ putL b.toNat v.natAbs
def worth (c : UInt8) : Int :=
  if 48 ≤ c.toNat ∧ c.toNat ≤ 57 then (c.toNat : Int) - 48 else if 65 ≤ c.toNat ∧ c.toNat ≤ 90 then (c.toNat : Int) - 55 else if 97 ≤ c.toNat ∧ c.toNat ≤ 122 then (c.toNat : Int) - 87 else -1
def foldG (b : Int) : List UInt8 → Int → Option Int
  | [], v => some v
  | c :: r, v => if worth c < 0 ∨ b ≤ worth c then none else foldG b r (wrap64 (wrap64 (v * b) + worth c))
def signS : List UInt8 → Int → List UInt8 × Int
  | [], b => ([], b)
  | c :: r, b => if c = 36 then (r, 16) else if c = 37 then (r, 2) else if c = 35 then (r, 10) else (c :: r, b)
def minusS : List UInt8 → List UInt8 × Bool
  | [] => ([], false)
  | c :: r => if c = 45 then (r, true) else (c :: r, false)
def quoted (s : List UInt8) : Bool := s.length == 3 && s.getD 0 0 == 39 && s.getD 2 0 == 39
def numV (t : List UInt8) (neg : Bool) (b : Int) : Int × Bool :=
  if t = [] ∨ 70 < t.length then (0, false)
  else match foldG b t 0 with
    | none => (0, false)
    | some v => (if neg then wrap64 (-v) else v, true)
def getV (s : List UInt8) (b : Int) : Int × Bool :=
  if b < 2 ∨ 36 < b then (0, false)
  else if quoted s then (((s.getD 1 0).toNat : Int), true)
  else numV (minusS (signS s b).1).1 (minusS (signS s b).1).2 (signS s b).2
theorem w64_add (x y : Int) : wrap64 (wrap64 x + y) = wrap64 (x + y) := by unfold wrap64; omega
theorem w64_mul (x y : Int) : wrap64 (wrap64 x * y) = wrap64 (x * y) := by
  unfold wrap64
  have h : ((x + 9223372036854775808) % 18446744073709551616 - 9223372036854775808) * y = x * y + 18446744073709551616 * (-((x + 9223372036854775808) / 18446744073709551616) * y) := by
    have := Int.emod_add_mul_ediv (x + 9223372036854775808) 18446744073709551616
    generalize (x + 9223372036854775808) % 18446744073709551616 = r at *
    generalize (x + 9223372036854775808) / 18446744073709551616 = q at *
    have e : r - 9223372036854775808 = x - 18446744073709551616 * q := by omega
    rw [e, Int.sub_mul, Int.mul_assoc, Int.neg_mul, Int.mul_neg, Int.sub_eq_add_neg]
  rw [h]
  generalize x * y = p
  generalize -((x + 9223372036854775808) / 18446744073709551616) * y = m
  omega
theorem w64_neg (x : Int) : wrap64 (-(wrap64 x)) = wrap64 (-x) := by unfold wrap64; omega
theorem w64_in (x : Int) (h1 : -9223372036854775808 ≤ x) (h2 : x ≤ 9223372036854775807) : wrap64 x = x := by unfold wrap64; omega
theorem dig_worth (k : Nat) (h : k < 36) : worth (dig k) = k := by
  have : ∀ k : Fin 36, worth (dig k.1) = k.1 := by decide
  exact this ⟨k, h⟩
theorem dig_not (k : Nat) (h : k < 36) : dig k ≠ 35 ∧ dig k ≠ 36 ∧ dig k ≠ 37 ∧ dig k ≠ 39 ∧ dig k ≠ 45 := by
  have : ∀ k : Fin 36, dig k.1 ≠ 35 ∧ dig k.1 ≠ 36 ∧ dig k.1 ≠ 37 ∧ dig k.1 ≠ 39 ∧ dig k.1 ≠ 45 := by decide
  exact this ⟨k, h⟩
theorem putL_small (b n : Nat) (h : n < b) : putL b n = [dig n] := by
  rw [putL, dif_neg (by omega)]
theorem putL_step (b n : Nat) (h : 2 ≤ b) (h' : b ≤ n) : putL b n = putL b (n / b) ++ [dig (n % b)] := by
  rw [putL, dif_pos ⟨h, h'⟩]
theorem putL_mem (b n : Nat) (hb : 2 ≤ b) (hb' : b ≤ 36) : ∀ c ∈ putL b n, ∃ k, k < 36 ∧ c = dig k := by
  induction n using Nat.strongRecOn with
  | _ n ih =>
    by_cases h : b ≤ n
    · rw [putL_step b n hb h]
      intro c hc
      rcases List.mem_append.1 hc with hc | hc
      · exact ih (n / b) (Nat.div_lt_self (by omega) (by omega)) c hc
      · simp at hc
        exact ⟨n % b, by have := Nat.mod_lt n (show 0 < b by omega); omega, hc⟩
    · rw [putL_small b n (by omega)]
      intro c hc
      simp at hc
      exact ⟨n, by omega, hc⟩
theorem putL_pos (b n : Nat) : putL b n ≠ [] := by
  rw [putL]
  split <;> simp
theorem putL_len (b : Nat) (hb : 2 ≤ b) (k n : Nat) (h : n < 2 ^ k) : (putL b n).length ≤ max k 1 := by
  induction k generalizing n with
  | zero =>
    have : n = 0 := by simpa using h
    subst this
    rw [putL_small b 0 (by omega)]
    simp
  | succ k ih =>
    by_cases hn : b ≤ n
    · rw [putL_step b n hb hn]
      have hlt : n / b < 2 ^ k := by
        apply Nat.div_lt_of_lt_mul
        calc n < 2 ^ (k + 1) := h
          _ = 2 * 2 ^ k := by rw [Nat.pow_succ, Nat.mul_comm]
          _ ≤ b * 2 ^ k := Nat.mul_le_mul_right _ hb
      have h1 := ih (n / b) hlt
      have hk : k ≠ 0 := by
        intro e
        subst e
        simp at h
        omega
      simp
      omega
    · rw [putL_small b n (by omega)]
      simp
theorem foldG_snoc (b : Int) (l : List UInt8) (c : UInt8) (v : Int) :
    foldG b (l ++ [c]) v = (foldG b l v).bind fun x => if worth c < 0 ∨ b ≤ worth c then none else some (wrap64 (wrap64 (x * b) + worth c)) := by
  induction l generalizing v with
  | nil => simp [foldG]
  | cons d r ih =>
    simp only [List.cons_append, foldG]
    split
    · rfl
    · exact ih _
theorem fold_put (b n : Nat) (hb : 2 ≤ b) (hb' : b ≤ 36) : foldG b (putL b n) 0 = some (wrap64 n) := by
  induction n using Nat.strongRecOn with
  | _ n ih =>
    by_cases h : b ≤ n
    · rw [putL_step b n hb h, foldG_snoc, ih (n / b) (Nat.div_lt_self (by omega) (by omega))]
      have hm := Nat.mod_lt n (show 0 < b by omega)
      simp only [Option.bind_some]
      rw [dig_worth _ (by omega), if_neg (by omega), w64_mul, w64_add]
      congr 2
      have := Nat.div_add_mod n b
      calc (((n / b : Nat) : Int) * b + ((n % b : Nat) : Int)) = ((b * (n / b) + n % b : Nat) : Int) := by rw [Int.mul_comm]; push_cast; rfl
        _ = n := by rw [this]
    · rw [putL_small b n (by omega)]
      simp only [foldG]
      rw [dig_worth _ (by omega), if_neg (by omega), w64_add]
      congr 2
      omega
theorem num_put (v b : Int) (hb : 2 ≤ b) (hb' : b ≤ 36) (h1 : -9223372036854775808 ≤ v) (h2 : v ≤ 9223372036854775807) (s : List UInt8) (hs : s = putV v b) :
    numV (minusS s).1 (minusS s).2 b = (v, true) := by
  subst hs
  have hp := putL_pos b.toNat v.natAbs
  have hl := putL_len b.toNat (by omega) 64 v.natAbs (by omega)
  have hf := fold_put b.toNat v.natAbs (by omega) (by omega)
  have hbb : ((b.toNat : Nat) : Int) = b := by omega
  rw [hbb] at hf
  have hm := putL_mem b.toNat v.natAbs (by omega) (by omega)
  unfold putV
  rw [if_neg (by omega)]
  have key : ∀ neg : Bool, numV (putL b.toNat v.natAbs) neg b = (if neg then wrap64 (-(wrap64 v.natAbs)) else wrap64 v.natAbs, true) := by
    intro neg
    unfold numV
    rw [if_neg (by rintro (h | h); exact hp h; omega), hf]
  by_cases hv : v < 0
  · rw [if_pos hv]
    simp only [List.singleton_append, minusS, if_true]
    rw [key true, if_pos rfl, w64_neg]
    have : -((v.natAbs : Nat) : Int) = v := by omega
    rw [this, w64_in v h1 h2]
  · rw [if_neg hv]
    have e : minusS ([] ++ putL b.toNat v.natAbs) = (putL b.toNat v.natAbs, false) := by
      rw [List.nil_append]
      generalize hg : putL b.toNat v.natAbs = l at *
      cases l with
      | nil => exact absurd rfl hp
      | cons c r =>
        obtain ⟨k, hk, rfl⟩ := hm c (by simp)
        simp only [minusS]
        rw [if_neg (dig_not k hk).2.2.2.2]
    rw [e, key false]
    have : ((v.natAbs : Nat) : Int) = v := by omega
    simp only [Bool.false_eq_true, if_false]
    rw [this, w64_in v h1 h2]
theorem putV_head (v b : Int) (hb : 2 ≤ b) (hb' : b ≤ 36) : ∃ c r, putV v b = c :: r ∧ c ≠ 35 ∧ c ≠ 36 ∧ c ≠ 37 ∧ c ≠ 39 := by
  unfold putV
  rw [if_neg (by omega)]
  by_cases hv : v < 0
  · rw [if_pos hv]
    exact ⟨45, _, rfl, by decide, by decide, by decide, by decide⟩
  · rw [if_neg hv, List.nil_append]
    have hm := putL_mem b.toNat v.natAbs (by omega) (by omega)
    have hp := putL_pos b.toNat v.natAbs
    generalize putL b.toNat v.natAbs = l at *
    cases l with
    | nil => exact absurd rfl hp
    | cons c r =>
      obtain ⟨k, hk, rfl⟩ := hm c (by simp)
      have := dig_not k hk
      exact ⟨_, _, rfl, this.1, this.2.1, this.2.2.1, this.2.2.2.1⟩
theorem quoted_no (c : UInt8) (r : List UInt8) (h : c ≠ 39) : quoted (c :: r) = false := by
  unfold quoted
  simp [h]
theorem get_put (v b : Int) (hb : 2 ≤ b) (hb' : b ≤ 36) (h1 : -9223372036854775808 ≤ v) (h2 : v ≤ 9223372036854775807) : getV (putV v b) b = (v, true) := by
  obtain ⟨c, r, e, n1, n2, n3, n4⟩ := putV_head v b hb hb'
  have hn := num_put v b hb hb' h1 h2 (c :: r) e.symm
  rw [e]
  unfold getV
  rw [if_neg (by omega), quoted_no c r n4]
  simp only [Bool.false_eq_true, if_false, signS]
  rw [if_neg n2, if_neg n3, if_neg n1]
  exact hn
theorem get_sign (v b b' : Int) (c : UInt8) (hb : 2 ≤ b) (hb' : b ≤ 36) (hc : c = 36 ∧ b' = 16 ∨ c = 37 ∧ b' = 2 ∨ c = 35 ∧ b' = 10) (h1 : -9223372036854775808 ≤ v) (h2 : v ≤ 9223372036854775807) :
    getV (c :: putV v b') b = (v, true) := by
  have hn := num_put v b' (by omega) (by omega) h1 h2 _ rfl
  unfold getV
  rw [if_neg (by omega), quoted_no c _ (by rcases hc with ⟨rfl, _⟩ | ⟨rfl, _⟩ | ⟨rfl, _⟩ <;> decide)]
  simp only [Bool.false_eq_true, if_false]
  rcases hc with ⟨rfl, rfl⟩ | ⟨rfl, rfl⟩ | ⟨rfl, rfl⟩ <;> simpa [signS] using hn
def low (c : UInt8) : UInt8 := if 65 ≤ c.toNat ∧ c.toNat ≤ 90 then c + 32 else c
end Go.Proofs.YtompdfpjmdnhoabGreatDoor.Dg
namespace Go.Proofs.YtompdfpjmdnhoabGreatDoor.Mc
open Go.RowKit
def wr (x : Int) : Int := wrap64 x
def flag (b : Bool) : Int := if b then -1 else 0
structure S where
  ip : Int
  handler : Int
  stack : List Int
  back : List Int
  mem : List Int
  out : ByteArray
  inp : ByteArray
  read : Int
  status : Int
  code : Int
def moves (c : Int) : Nat × Nat × Nat × Nat :=
  (([(0,0,0,0),(0,0,0,0),(0,0,1,0),(0,0,0,0),(1,0,0,0),(0,1,0,0),(1,0,2,0),(1,0,0,0),(2,0,2,0),(2,0,3,0),(3,0,3,0),
    (2,0,1,0),(2,0,1,0),(2,0,1,0),(2,0,1,0),(2,0,1,0),(1,0,1,0),(2,0,1,0),(2,0,1,0),(2,0,1,0),(1,0,1,0),(2,0,1,0),(2,0,1,0),(2,0,1,0),(2,0,1,0),(2,0,1,0),(1,0,1,0),(1,0,1,0),(2,0,1,0),(2,0,1,0),
    (1,0,1,0),(2,0,0,0),(2,0,0,0),(1,0,0,1),(0,1,1,0),(0,1,1,1),(2,0,0,2),(0,2,0,2),(1,2,0,2),(0,3,1,3),(0,2,0,0),(1,0,0,0),(1,0,0,0),(0,0,1,0),(1,0,0,1),(1,0,0,0),(1,0,0,4),(0,0,0,0)] : List (Nat × Nat × Nat × Nat))).getD c.toNat (0, 0, 0, 0)
def isOp (c : Int) : Bool := decide (0 ≤ c) && decide (c < 48)
def hasArg (o : Int) : Bool := o == 2 || o == 3 || o == 4 || o == 37 || o == 38
def load (s : S) (a : Int) : Option Int := if 0 ≤ a ∧ a < s.mem.length then some (s.mem.getD a.toNat 0) else none
inductive Rslt where
  | ok (s : S)
  | bad (code : Int) (threw : Bool)
def push (s : S) (l : List Int) : S := { s with stack := s.stack ++ l }
def lay (s : S) (l : List Int) : S := { s with back := s.back ++ l }
def top (l : List Int) : Int := l.getD (l.length - 1) 0
def pop (s : S) : S := { s with stack := s.stack.dropLast }
def popBack (s : S) : S := { s with back := s.back.dropLast }
def room (s : S) (c : Int) : Int :=
  let m := moves c
  if s.stack.length < m.1 then -4 else if s.back.length < m.2.1 then -6
  else if 48 < s.stack.length - m.1 + m.2.2.1 then -3 else if 48 < s.back.length - m.2.1 + m.2.2.2 then -5 else 0
def floor (a b : Int) : Option (Int × Int) :=
  if b = 0 then none else if b = -1 then some (wr (-a), 0)
  else if a.tmod b ≠ 0 ∧ ((a.tmod b < 0) ≠ (b < 0)) then some (wr (wr (a.tdiv b) - 1), wr (a.tmod b + b)) else some (wr (a.tdiv b), a.tmod b)
def band (a b : Int) : Int := IntKind.i64.wrap ((BitVec.ofInt 64 a &&& BitVec.ofInt 64 b).toNat : Int)
def bor (a b : Int) : Int := IntKind.i64.wrap ((BitVec.ofInt 64 a ||| BitVec.ofInt 64 b).toNat : Int)
def bxor (a b : Int) : Int := IntKind.i64.wrap ((BitVec.ofInt 64 a ^^^ BitVec.ofInt 64 b).toNat : Int)
def u64 (x : Int) : Int := IntKind.u64.wrap x
def shl (a b : Int) : Int := if b < 0 ∨ 64 ≤ b then 0 else wr (a * 2 ^ b.toNat)
def shr (a b : Int) : Int := if b < 0 ∨ 64 ≤ b then 0 else wr (u64 a / 2 ^ b.toNat)
def two (c a b : Int) : Option Int :=
  if c = 11 then some (wr (a + b)) else if c = 12 then some (wr (a - b)) else if c = 13 then some (wr (a * b))
  else if c = 14 then (floor a b).map (·.1) else if c = 15 then (floor a b).map (·.2)
  else if c = 17 then some (band a b) else if c = 18 then some (bor a b) else if c = 19 then some (bxor a b)
  else if c = 21 then some (shl a b) else if c = 22 then some (shr a b)
  else if c = 23 then some (flag (decide (a = b))) else if c = 24 then some (flag (decide (a < b))) else if c = 25 then some (flag (decide (u64 a < u64 b)))
  else if c = 28 then some (min a b) else if c = 29 then some (max a b) else none
def one (c a : Int) : Option Int :=
  if c = 16 then some (wr (-a)) else if c = 20 then some (bxor (-1) a) else if c = 26 then some (flag (decide (a = 0))) else if c = 27 then some (flag (decide (a < 0))) else none
def crosses (x n : Int) : Bool := decide (band (bxor x (wr (x + n))) (bxor x n) < 0)
def write (s : S) (t : ByteArray) : Rslt := if 2000 < s.out.size + t.size then .bad (-57) false else .ok { s with out := s.out ++ t }
def reckon (s : S) (c : Int) : Rslt :=
  match one c (top s.stack) with
  | some v => .ok (push (pop s) [v])
  | none => match two c (top (pop s).stack) (top s.stack) with
    | some v => .ok (push (pop (pop s)) [v])
    | none => .bad (-10) false
def shuffle (s : S) (c : Int) : S :=
  let x := top s.stack
  let s1 := pop s
  let y := top s1.stack
  if c = 6 then push s1 [x, x] else if c = 8 then push (pop s1) [x, y] else if c = 9 then push (pop s1) [y, x, y]
  else if c = 10 then push (pop (pop s1)) [y, x, top (pop s1).stack] else s1
def memory (s : S) (c : Int) : Rslt :=
  let a := top s.stack
  match load s a with
  | none => .bad (-9) false
  | some v =>
    if c = 30 then .ok (push (pop s) [v])
    else .ok { pop (pop s) with mem := s.mem.set a.toNat (wr ((if c = 31 then 0 else v) + top (pop s).stack)) }
def backs (s : S) (c : Int) : S :=
  if c = 33 then lay (pop s) [top s.stack] else if c = 34 then push (popBack s) [top s.back] else if c = 35 then push s [top s.back]
  else if c = 36 then lay (pop (pop s)) [top (pop s).stack, top s.stack] else if c = 39 then push s [s.back.getD (s.back.length - 3) 0]
  else { s with back := s.back.take (s.back.length - 2) }
def loop (s : S) (c arg : Int) : S :=
  let index := top s.back
  let limit := top (popBack s).back
  let s2 := popBack (popBack s)
  if c = 38 then
    if crosses (wr (index - limit)) (top s.stack) = true then pop s2 else { lay (pop s2) [limit, wr (index + top s.stack)] with ip := arg }
  else if wr (index + 1) = limit then s2 else { lay s2 [limit, wr (index + 1)] with ip := arg }
def key (s : S) : S := if s.inp.size ≤ s.read then push s [-1] else { push s [((s.inp.data.toList.getD s.read.toNat 0).toNat : Int)] with read := wr (s.read + 1) }
def endCatch (s : S) : Rslt :=
  if s.handler < 3 ∨ (s.back.length : Int) ≠ s.handler then .bad (-25) false else if 48 ≤ s.stack.length then .bad (-3) false
  else .ok (push { popBack (popBack (popBack s)) with handler := top (popBack s).back, ip := top (popBack (popBack s)).back } [0])
def flow (s : S) (c : Int) : Rslt :=
  if c = 44 then (if top s.stack < 64 ∨ (s.mem.length : Int) ≤ top s.stack then .bad (-13) false else .ok { lay (pop s) [s.ip] with ip := top s.stack })
  else if c = 45 then (if top s.stack = 0 then .ok (pop s) else .bad (top s.stack) true)
  else if c = 46 then .ok { lay (pop s) [s.ip, s.handler, (s.stack.length : Int) - 1, 1] with handler := (s.back.length : Int) + 3, ip := top s.stack }
  else endCatch s
def act (s : S) (c arg was : Int) : Rslt :=
  if c = 0 then .ok { s with ip := was, status := 1 } else if c = 2 then .ok (push s [arg])
  else if c = 4 then .ok (if top s.stack = 0 then { pop s with ip := arg } else pop s) else if c = 3 then .ok { s with ip := arg }
  else if c = 5 then .ok { popBack s with ip := top s.back } else if 6 ≤ c ∧ c ≤ 10 then .ok (shuffle s c) else if 30 ≤ c ∧ c ≤ 32 then memory s c
  else if (33 ≤ c ∧ c ≤ 36) ∨ c = 39 ∨ c = 40 then .ok (backs s c) else if c = 37 ∨ c = 38 then .ok (loop s c arg)
  else if c = 41 then write (pop s) ⟨#[UInt8.ofNat ((top s.stack).emod 256).toNat]⟩ else if c = 42 then write (pop s) (⟨(Dg.putV (top s.stack) 10).toArray⟩ ++ ⟨#[32]⟩)
  else if c = 43 then .ok (key s) else if (44 ≤ c ∧ c ≤ 46) ∨ c = 1 then flow s c else if c = 47 then .ok s else reckon s c
def exec (s : S) : Rslt :=
  match load s s.ip with
  | none => .bad (-9) false
  | some c =>
    if 64 ≤ c then (if 48 ≤ s.back.length then .bad (-5) false else .ok { lay s [s.ip + 1] with ip := c })
    else if isOp c = false then .bad (-13) false
    else if hasArg c = true then
      match load s (s.ip + 1) with
      | none => .bad (-9) false
      | some arg => if room s c = 0 then act { s with ip := s.ip + 2 } c arg s.ip else .bad (room s c) false
    else if room s c = 0 then act { s with ip := s.ip + 1 } c 0 s.ip else .bad (room s c) false
def caught (s : S) : Option Nat :=
  if s.handler < 3 ∨ (s.back.length : Int) < s.handler then none
  else if 0 ≤ s.back.getD (s.handler.toNat - 1) 0 ∧ s.back.getD (s.handler.toNat - 1) 0 < 48 then some (s.back.getD (s.handler.toNat - 1) 0).toNat else none
def faulty (s : S) (code : Int) : S :=
  match caught s with
  | none => { s with status := 2, code := code }
  | some n =>
    let at_ := s.handler.toNat - 3
    { s with ip := s.back.getD at_ 0, handler := s.back.getD (at_ + 1) 0, back := s.back.take at_, stack := s.stack.take n ++ List.replicate (n - s.stack.length) 0 ++ [code] }
def advance (s : S) : S :=
  match exec s with
  | .ok s' => s'
  | .bad code threw => faulty (if threw then pop s else s) code
def run : Nat → S → S × Nat
  | 0, s => (s, 0)
  | n + 1, s => if s.status = 0 then run n (advance s) else (s, n + 1)
def enter (s : S) (xt : Int) : S := { s with ip := xt, handler := 0, back := [0], status := 0, code := 0 }
def bootMem (n : Nat) : List Int := (List.range n).map fun k => if k = 1 then 1 else if 64 ≤ k ∧ k < 160 then (if k % 2 = 0 then ((k - 64) / 2 : Nat) else 5) else (0 : Int)
def boot (n : Nat) (inp : ByteArray) : S := ⟨0, 0, [], [], bootMem n, ByteArray.empty, inp, 0, 1, 0⟩
end Go.Proofs.YtompdfpjmdnhoabGreatDoor.Mc
