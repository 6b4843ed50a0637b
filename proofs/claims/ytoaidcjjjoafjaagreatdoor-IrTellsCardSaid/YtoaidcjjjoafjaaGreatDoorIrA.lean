/-
  Chapter 14 (ir): traces, as the memory holds them.
-/
import Derived.Test.YtoaidcjjjoafjaaGreatDoorProg
import Derived.Test.YtoaidcjjjoafjaaGreatDoorBase
import Derived.Test.YtoaidcjjjoafjaaGreatDoorIrP
import Derived.Deep.LoopGhost
import Derived.Deep.DeepCutAuto
import Derived.Deep.CutBlock
import Derived.Deep.RegionHeld3
import Derived.BigQuiet
import Derived.WalkKit
import Derived.RowKitTokens
set_option linter.unusedVariables false
set_option linter.unusedSimpArgs false
set_option linter.unnecessarySimpa false
set_option linter.deprecated false
namespace Go.Proofs.YtoaidcjjjoafjaaGreatDoor.Ir
open Go.RowKit

def IntsAt (W : World) (B : Nat) (A : Option Addr) (n : Nat) (f : Nat → Int) : Prop :=
  n = 0 ∨ ∃ b off, A = some ⟨b, off, none⟩ ∧ b < B ∧ ∀ i, i < n → W.cell? ⟨b, off + i, none⟩ = some (.int .i64 (f i))
def InsAt (W : World) (B : Nat) (A : Option Addr) (n : Nat) (f : Nat → Ins) : Prop :=
  n = 0 ∨ ∃ b off, A = some ⟨b, off, none⟩ ∧ b < B ∧ ∀ i, i < n → W.cell? ⟨b, off + i * 5, none⟩ = some (.int .i64 (f i).op) ∧ W.cell? ⟨b, off + i * 5 + 1, none⟩ = some (.int .i64 (f i).a) ∧
    W.cell? ⟨b, off + i * 5 + 2, none⟩ = some (.int .i64 (f i).b) ∧ W.cell? ⟨b, off + i * 5 + 3, none⟩ = some (.int .i64 (f i).c) ∧ W.cell? ⟨b, off + i * 5 + 4, none⟩ = some (.int .i64 (f i).x)
/-- An exit as a value. -/
def OuIs (W : World) (B : Nat) (v0 v1 v2 v3 : Value) (o : Ou) : Prop :=
  v0 = .int .i64 o.ip ∧ v1 = .int .i64 o.steps ∧ (∃ A c, v2 = .slice A o.ns c ∧ IntsAt W B A o.ns o.st) ∧ (∃ A c, v3 = .slice A o.nb c ∧ IntsAt W B A o.nb o.bk) ∧ o.ns ≤ 300000 ∧ o.nb ≤ 300000
def OutsAt (W : World) (B : Nat) (A : Option Addr) (n : Nat) (f : Nat → Ou) : Prop :=
  n = 0 ∨ ∃ b off, A = some ⟨b, off, none⟩ ∧ b < B ∧ ∀ i, i < n → ∃ v0 v1 v2 v3, OuIs W B v0 v1 v2 v3 (f i) ∧ W.cell? ⟨b, off + i * 4, none⟩ = some v0 ∧ W.cell? ⟨b, off + i * 4 + 1, none⟩ = some v1 ∧
    W.cell? ⟨b, off + i * 4 + 2, none⟩ = some v2 ∧ W.cell? ⟨b, off + i * 4 + 3, none⟩ = some v3
def trCells (T : Tr) (Ai : Option Addr) (ci : Nat) (Ao : Option Addr) (co : Nat) (Ac : Option Addr) (cc : Nat) : Array Value :=
  #[.int .i64 T.start, .int .i64 T.slots, .int .i64 T.backs, .int .i64 T.grow, .int .i64 T.growBack, .slice Ai T.ni ci, .slice Ao T.no co, .int .i64 T.last, .slice Ac T.nc cc]
/-- A trace's cells stand for T. -/
structure TrAt (W : World) (B : Nat) (T : Tr) (Ai Ao Ac : Option Addr) : Prop where
  ins : InsAt W B Ai T.ni T.ins
  outs : OutsAt W B Ao T.no T.outs
  cells : IntsAt W B Ac T.nc T.cells
  fewI : T.ni ≤ 300000
  fewO : T.no ≤ 300000
  fewC : T.nc ≤ 300000

section
variable {W W' : World} {B n : Nat} {A : Option Addr}
theorem IntsAt.below {f : Nat → Int} (h : IntsAt W B A n f) (hb : Below B W W') : IntsAt W' B A n f := by
  rcases h with h | ⟨b, off, h1, h2, h3⟩
  · exact .inl h
  · exact .inr ⟨b, off, h1, h2, fun i hi => (hb.cell (p := ⟨b, off + i, none⟩) h2).trans (h3 i hi)⟩
theorem InsAt.below {f : Nat → Ins} (h : InsAt W B A n f) (hb : Below B W W') : InsAt W' B A n f := by
  rcases h with h | ⟨b, off, h1, h2, h3⟩
  · exact .inl h
  · refine .inr ⟨b, off, h1, h2, fun i hi => ?_⟩
    obtain ⟨x0, x1, x2, x3, x4⟩ := h3 i hi
    exact ⟨(hb.cell (p := ⟨b, _, none⟩) h2).trans x0, (hb.cell (p := ⟨b, _, none⟩) h2).trans x1, (hb.cell (p := ⟨b, _, none⟩) h2).trans x2, (hb.cell (p := ⟨b, _, none⟩) h2).trans x3, (hb.cell (p := ⟨b, _, none⟩) h2).trans x4⟩
theorem OuIs.below {v0 v1 v2 v3 : Value} {o : Ou} (h : OuIs W B v0 v1 v2 v3 o) (hb : Below B W W') : OuIs W' B v0 v1 v2 v3 o := by
  obtain ⟨h0, h1, ⟨A, c, h2, h3⟩, ⟨A', c', h4, h5⟩, h6, h7⟩ := h
  exact ⟨h0, h1, ⟨A, c, h2, h3.below hb⟩, ⟨A', c', h4, h5.below hb⟩, h6, h7⟩
theorem OutsAt.below {f : Nat → Ou} (h : OutsAt W B A n f) (hb : Below B W W') : OutsAt W' B A n f := by
  rcases h with h | ⟨b, off, h1, h2, h3⟩
  · exact .inl h
  · refine .inr ⟨b, off, h1, h2, fun i hi => ?_⟩
    obtain ⟨v0, v1, v2, v3, x, x0, x1, x2, x3⟩ := h3 i hi
    exact ⟨v0, v1, v2, v3, x.below hb, (hb.cell (p := ⟨b, _, none⟩) h2).trans x0, (hb.cell (p := ⟨b, _, none⟩) h2).trans x1, (hb.cell (p := ⟨b, _, none⟩) h2).trans x2, (hb.cell (p := ⟨b, _, none⟩) h2).trans x3⟩
theorem TrAt.below {T : Tr} {Ai Ao Ac : Option Addr} (h : TrAt W B T Ai Ao Ac) (hb : Below B W W') : TrAt W' B T Ai Ao Ac :=
  ⟨h.ins.below hb, h.outs.below hb, h.cells.below hb, h.fewI, h.fewO, h.fewC⟩
end

end Go.Proofs.YtoaidcjjjoafjaaGreatDoor.Ir
