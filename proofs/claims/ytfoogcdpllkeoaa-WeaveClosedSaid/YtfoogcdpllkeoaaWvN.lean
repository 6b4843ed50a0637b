/-
  Chapter 10 (weave): a Weave beside a list of words of one's own (WeaveClosed's frame).
-/
import Derived.Test.YtfoogcdpllkeoaaWvK
import Derived.Test.YtfoogcdpllkeoaaWvM
import Derived.Laws.OwnMore
namespace Go.Proofs.Ytfoogcdpllkeoaa.Wv
open Go.RowKit

theorem info9 : (Try.prog.info? 9).map (fun i => (i.zero, i.size, i.bytes)) = some (some (.string ByteArray.empty), 1, 16) := by kernel_rfl

def strs (P : List ByteArray) : List Value := P.map Value.string
theorem ownBlock_slice (A : Option Addr) (n c : Nat) : (Value.slice A n c).ownBlock = A.map (·.block) := by cases A <;> rfl

/-- The Weave, and the list P of words that lies at A; all of it above w0. -/
structure Pen (w0 w : World) (B sb : Nat) (s : St) (A : Option Addr) (cap : Nat) (P : List ByteArray) (a : At) : Prop where
  hsb : a.sb = sb
  wv : WvIs w B a s.M s.h s.O
  ok : OkO s
  low : ∀ k, a.blocks k → w0.heap.size ≤ k
  row : w.ownsRow w0.heap.size 9 1 (.slice A P.length cap) P.length (strs P)
  apart : ∀ k, A.map (·.block) = some k → ¬ a.blocks k
  bel : Below w0.heap.size w0 w

section
variable {w0 w : World} {B sb : Nat} {s : St} {A : Option Addr} {cap : Nat} {P : List ByteArray} {a : At}
theorem Pen.call (H : Pen w0 w B sb s A cap P a) {w' : World} {s' : St} {a' : At} (h1 : a'.sb = sb) (h2 : WvIs w' B a' s'.M s'.h s'.O) (T : Touch w w' a.blocks) (h3 : ∀ k, a'.blocks k → a.blocks k ∨ w.heap.size ≤ k) (h4 : OkO s') : Pen w0 w' B sb s' A cap P a' := by
  obtain ⟨hb, hl⟩ := step_low H.bel T H.low h3
  refine ⟨h1, h2, h4, hl, own_touch H.row T H.apart, fun k hk hk' => ?_, hb⟩
  rcases h3 k hk' with h | h
  · exact H.apart k hk h
  · have := (own_block H.row hk).2; omega

theorem Pen.below (H : Pen w0 w B sb s A cap P a) {w' : World} (hb : Below w.heap.size w w') : Pen w0 w' B sb s A cap P a :=
  H.call H.hsb (H.wv.below hb (Nat.le_refl _)) (Touch.of_below hb _) (fun _ h => Or.inl h) H.ok

theorem Pen.push (H : Pen w0 w B sb s A cap P a) {o : Obj} {x : ByteArray} {A' : Option Addr} {cap' : Nat} {w2 : World}
    (ho : w2.ownsRow w0.heap.size 9 1 (.slice A' (P.length + 1) cap') (P.length + 1) (strs P ++ [.string x])) (hg : (w.alloc o).grownBy w2 (Value.slice A P.length cap).ownBlock)
    (hl : (Value.slice A' (P.length + 1) cap').ownBlock = (Value.slice A P.length cap).ownBlock ∨ (Value.slice A' (P.length + 1) cap').ownBlock = some (w.heap.size + 1)) :
    Pen w0 w2 B sb s A' cap' (P ++ [x]) a := by
  rw [ownBlock_slice] at hg
  rw [ownBlock_slice, ownBlock_slice] at hl
  have T : Touch w w2 (fun k => A.map (·.block) = some k) :=
    (alloc_touch w o _).trans (Touch.of_grown (S := fun k => A.map (·.block) = some k) hg (fun k hk => Or.inl hk)) (fun k hk => Or.inl hk)
  refine ⟨H.hsb, H.wv.touch T (fun k hk hk' => H.apart k hk' hk), H.ok, H.low, ?_, fun k hk hk' => ?_, ?_⟩
  · have e : strs (P ++ [x]) = strs P ++ [.string x] := by simp [strs]
    rw [e]
    simpa using ho
  · rcases hl with h | h
    · exact H.apart k (h ▸ hk) hk'
    · rw [h] at hk
      simp at hk
      have := (H.wv.low hk').2
      omega
  · exact H.bel.trans (T.below (fun k hk => (own_block H.row hk).1) H.bel.size)

theorem Pen.put {x : ByteArray} (H : Pen w0 w B sb s A cap (P ++ [x]) a) (y : ByteArray) {g : Nat} (hA : A = some ⟨g, 0, none⟩) :
    Pen w0 (w.setCell ⟨g, P.length, none⟩ (.string y)) B sb s A cap (P ++ [y]) a := by
  subst hA
  have hr := H.row
  obtain ⟨h1, h2⟩ := hr.stored P.length (.string y)
  have T : Touch w (w.setCell ⟨g, P.length, none⟩ (.string y)) (fun k => k = g) := Touch.of_grown h2 (fun k hk => Or.inl (by injection hk with hk; exact hk.symm))
  have hg : (some (⟨g, 0, none⟩ : Addr)).map (·.block) = some g := rfl
  refine ⟨H.hsb, H.wv.touch T (fun k hk hk' => H.apart g hg (hk' ▸ hk)), H.ok, H.low, ?_, H.apart, H.bel.trans (T.below (fun k hk => by rw [hk]; exact (own_block H.row hg).1) H.bel.size)⟩
  have e : (strs (P ++ [x])).set P.length (.string y) = strs (P ++ [y]) := by
    apply List.ext_getElem?
    intro i
    simp [strs, List.getElem?_set, List.getElem?_append]
    try split <;> rename_i h <;> simp_all <;> omega
  rw [← e]
  simpa using h1

theorem Pen.cell (H : Pen w0 w B sb s A cap P a) (j : Nat) (hj : j < P.length) : ∃ g, A = some ⟨g, 0, none⟩ ∧ w.cell? ⟨g, j, none⟩ = some (.string (P.getD j ByteArray.empty)) ∧ w.frozen? ⟨g, j, none⟩ = false := by
  obtain ⟨g, cap', hA, _⟩ := World.ownsRow.form H.row (by omega)
  injection hA with hA _ _
  refine ⟨g, hA, ?_⟩
  have hr := H.row
  rw [hA] at hr
  refine ⟨?_, hr.frozenAt j⟩
  rw [hr.cellAt j (by omega)]
  simp [strs, hj]
end

theorem here_q (B sb : Nat) (a : At) (ha : a.sb = sb) (s : St) (w : World) (H : WvIs w B a s.M s.h s.O) :
    Calls Try.prog 34 #[.pointer (some ⟨sb, 0, none⟩)] w fun e w' => e = .returned (.int .i64 s.h) ∧ w' = w :=
  (here_sb B sb a ha s w H).mono fun _ _ ⟨h1, h2⟩ => ⟨h1, h2.symm⟩

end Go.Proofs.Ytfoogcdpllkeoaa.Wv
