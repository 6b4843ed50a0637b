/-
  Chapter 14 (ir): numbers of a trace that is handed in are within their bounds.
-/
import Derived.Test.YtoaidcjjjoafjaaGreatDoorIrR
import Derived.Test.YtoaidcjjjoafjaaGreatDoorIrM
set_option linter.unusedVariables false
set_option linter.unusedSimpArgs false
set_option linter.unnecessarySimpa false
set_option linter.deprecated false
namespace Go.Proofs.YtoaidcjjjoafjaaGreatDoor.Ir
open Go.RowKit Go.ChangeShapes Go.WideShapes Go.ChangeAt Go.Deep

def In64 (x : Int) : Prop := -9223372036854775808 ≤ x ∧ x ≤ 9223372036854775807
def InR (T : Tr) : Prop := In64 T.start ∧ ∀ i, i < T.ni → In64 (T.ins i).a ∧ In64 (T.ins i).x
theorem in64_of {x : Int} (h : (Lit.int .i64 x).wf = true) : In64 x := by
  simp only [Lit.wf, IntKind.min, IntKind.max, IntKind.signed, IntKind.bits, Bool.and_eq_true, decide_eq_true_eq, if_true] at h
  unfold In64
  omega
section
variable {H : Type} {enc : TypeId × Value → H} {W : World} {A : Option Addr} {len cap fuel : Nat} {x : DataW H × List MemPlace} {base B : Nat} {spare : Nat → Bool} {held : Bool}
set_option maxRecDepth 100000 in
theorem rng_ins {f : Nat → Ins} (h : DataW.trod enc Tryz.prog W base spare held fuel 22 [.slice A len cap] = some x) (hA : InsAt W B A len f) : ∀ i, i < len → In64 (f i).a ∧ In64 (f i).x := by
  intro i hi
  obtain ⟨b, off, rfl, _, hc⟩ := hA.resolve_left (by omega)
  obtain ⟨x0, x1, x2, x3, x4⟩ := hc i hi
  rcases open_fields Tryz.underlying22 Tryz.underlying42 (by kernel_rfl) (by kernel_rfl) h with hcs | ⟨a, l, c, hcs, hm, hl, hi'⟩
  · simp at hcs
  · simp at hcs
    obtain ⟨rfl, rfl, rfl⟩ := hcs
    obtain ⟨n, hf⟩ := hi' i hi
    obtain ⟨v1, y1, c1, t1⟩ := hf 1 _ rfl
    obtain ⟨v4, y4, c4, t4⟩ := hf 4 _ rfl
    obtain ⟨z1, e1, _, w1⟩ := DataW.trod_int Tryz.underlying3 t1
    obtain ⟨z4, e4, _, w4⟩ := DataW.trod_int Tryz.underlying3 t4
    simp at e1 e4
    subst e1 e4
    rw [add_plain] at c1 c4
    have c1' : W.cell? ⟨b, off + (i * 5 + 1), none⟩ = some (.int .i64 z1) := c1
    have c4' : W.cell? ⟨b, off + (i * 5 + 4), none⟩ = some (.int .i64 z4) := c4
    rw [← Nat.add_assoc, x1] at c1'
    rw [← Nat.add_assoc, x4] at c4'
    injection c1' with c1'
    injection c1' with _ c1'
    injection c4' with c4'
    injection c4' with _ c4'
    rw [c1', c4']
    exact ⟨in64_of w1, in64_of w4⟩
set_option maxRecDepth 100000 in
theorem rng_of {T : Tr} {Ai Ao Ac : Option Addr} {ci co cc : Nat} {d : DataW H} {p : List MemPlace} (h : DataW.Trod enc Tryz.prog W 0 (fun _ => true) true 26 (.agg (trCells T Ai ci Ao co Ac cc)) d p) (hB : TrBig W B T Ai Ao Ac) : InR T := by
  obtain ⟨fuel, hf⟩ := h
  obtain ⟨ys, n', hn', hy, hlen, hyl, hf⟩ := DataW.trod_struct Tryz.underlying26 hf
  have t0 := hf 0 _ rfl
  have t5 := hf 5 _ rfl
  have g : ∀ (i : Nat), i < 9 → ∃ y, ys[i]? = some y := fun i hi => ⟨ys[i]'(by rw [hyl]; exact hi), List.getElem?_eq_getElem (by rw [hyl]; exact hi)⟩
  obtain ⟨y0, g0⟩ := g 0 (by omega)
  obtain ⟨y5, g5⟩ := g 5 (by omega)
  rw [g0] at t0
  rw [g5] at t5
  have u0 : DataW.trod enc Tryz.prog W 0 (fun _ => true) true n' 3 [.int .i64 T.start] = some y0 := t0
  have u5 : DataW.trod enc Tryz.prog W 0 (fun _ => true) true n' 22 [.slice Ai T.ni ci] = some y5 := t5
  obtain ⟨z0, e0, _, w0⟩ := DataW.trod_int Tryz.underlying3 u0
  simp at e0
  rw [← e0] at w0
  exact ⟨in64_of w0, rng_ins u5 hB.ins⟩
end
theorem alike_refl (o : Ou) : Alike o o := ⟨rfl, rfl, ⟨rfl, fun _ _ => rfl⟩, ⟨rfl, fun _ _ => rfl⟩⟩
theorem same_refl (T : Tr) : SameT T T := ⟨rfl, rfl, rfl, rfl, rfl, rfl, ⟨rfl, fun _ _ => rfl⟩, ⟨rfl, fun i _ => alike_refl _⟩, ⟨rfl, fun _ _ => rfl⟩⟩
theorem wrap_same {a v : Int} (ha : In64 a) (hv : In64 v) : wrap64 (a + v) = a ↔ v = 0 := by
  unfold In64 at ha hv
  unfold wrap64
  omega
end Go.Proofs.YtoaidcjjjoafjaaGreatDoor.Ir
