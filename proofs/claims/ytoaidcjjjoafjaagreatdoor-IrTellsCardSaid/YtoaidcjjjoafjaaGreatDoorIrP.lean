/-
  Chapter 14 (ir): traces as data; which may be.
-/
import Derived.Below
set_option linter.unusedVariables false
set_option linter.unusedSimpArgs false
set_option linter.unnecessarySimpa false
set_option linter.deprecated false
namespace Go.Proofs.YtoaidcjjjoafjaaGreatDoor.Ir
open Go.RowKit

structure Ins where
  op : Int
  a : Int
  b : Int
  c : Int
  x : Int
structure Ou where
  ip : Int
  steps : Int
  ns : Nat
  st : Nat → Int
  nb : Nat
  bk : Nat → Int
structure Tr where
  start : Int
  slots : Int
  backs : Int
  grow : Int
  growBack : Int
  ni : Nat
  ins : Nat → Ins
  no : Nat
  outs : Nat → Ou
  last : Int
  nc : Nat
  cells : Nat → Int

/-! Which traces may be -/
def isTwo (o : Int) : Bool := [11, 12, 13, 14, 15, 17, 18, 19, 21, 22, 23, 24, 25, 28, 29].contains o
def isOne (o : Int) : Bool := [16, 20, 26, 27].contains o
def gives (o : Int) : Bool := [1, 2, 3, 4, 5, 12].contains o
def usesL (i : Ins) : List Int :=
  if i.op = 4 then (if isTwo i.a then [i.b, i.c] else [i.b]) else if i.op = 6 ∨ i.op = 9 then [i.b, i.c] else if i.op = 5 ∨ i.op = 7 ∨ i.op = 8 ∨ i.op = 10 ∨ i.op = 11 then [i.b] else []
def outsL (i : Ins) : List Int :=
  if i.op = 4 then (if i.a = 14 ∨ i.a = 15 then [i.x] else []) else if i.op = 5 ∨ i.op = 7 ∨ i.op = 8 ∨ i.op = 9 ∨ i.op = 10 ∨ i.op = 11 then [i.x] else if i.op = 6 then [i.x, i.a] else []
def Btw (n l m : Int) : Prop := l ≤ n ∧ n ≤ m
/-- Places that give, ahead of one. -/
def Place (T : Tr) (p at_ : Int) : Prop := 0 ≤ p ∧ p < at_ ∧ gives (T.ins p.toNat).op = true
def Places (T : Tr) (n : Nat) (f : Nat → Int) (at_ : Int) : Prop := ∀ i, i < n → Place T (f i) at_
def Named (T : Tr) (x at_ : Int) : Prop := 0 ≤ x ∧ x < T.no ∧ Places T (T.outs x.toNat).ns (T.outs x.toNat).st at_ ∧ Places T (T.outs x.toNat).nb (T.outs x.toNat).bk at_
def Single (T : Tr) (i : Ins) : Prop :=
  if i.op = 4 then isTwo i.a = true ∨ isOne i.a = true else if i.op = 2 then Btw i.a 0 (T.slots - 1) else if i.op = 3 then Btw i.a 0 (T.backs - 1) else Btw i.op 1 12
def OutOk (T : Tr) (o : Ou) : Prop := Btw o.steps 0 120 ∧ Btw o.ip 0 2999 ∧ (o.ns : Int) ≤ T.slots + T.grow ∧ (o.nb : Int) ≤ T.backs + T.growBack
def Head (T : Tr) : Prop := Btw T.slots 0 48 ∧ Btw T.grow 0 48 ∧ Btw T.backs 0 48 ∧ Btw T.growBack 0 48 ∧ T.ni ≤ 1000 ∧ T.no ≤ 300 ∧ Btw T.start 0 2999
def CellsOk (n : Nat) (f : Nat → Int) : Prop := ∀ i, i < n → 0 ≤ f i ∧ f i < 3000 ∧ (0 < i → f (i - 1) < f i)
def UsesOk (T : Tr) (k : Nat) : Prop := ∀ p ∈ usesL (T.ins k), Place T p k
def OutsOk (T : Tr) (k : Nat) : Prop := ∀ x ∈ outsL (T.ins k), Named T x k
def Right (T : Tr) : Prop :=
  Head T ∧ CellsOk T.nc T.cells ∧ Named T T.last T.ni ∧ 1 ≤ (T.outs T.last.toNat).steps ∧ (∀ k, k < T.no → OutOk T (T.outs k)) ∧ ∀ k, k < T.ni → Single T (T.ins k) ∧ UsesOk T k ∧ OutsOk T k
end Go.Proofs.YtoaidcjjjoafjaaGreatDoor.Ir
