/-
  Lemmas on the way, for every input that they name: RvN.
-/
import Derived.Test.YtndjbjhgkggeiaaQ16
import Derived.Test.YtndjbjhgkggeiaaQ26
import Derived.Test.YtndjbjhgkggeiaaQ27
set_option linter.unusedVariables false
set_option linter.unusedSimpArgs false
set_option linter.deprecated false
namespace Go.Proofs.Ytndjbjhgkggeiaa.Rv
open Go.RowKit Go.Proofs.Ytndjbjhgkggeiaa.Wv
theorem book_cut {w : World} {B b : Nat} {F : Nat → Prop} (H : BkI.Is w B b F) : BkI.Is w B b (fun k => F k ∧ k < w.heap.size) := by
  obtain ⟨v, v', n, R, R', L, h⟩ := H
  have o1 : ∀ k, v.ownBlock = some k → k < w.heap.size := fun k hk => (h.rows.out.lt k hk).2
  have o2 : ∀ k, v'.ownBlock = some k → k < w.heap.size := fun k hk => (h.copies.out.lt k hk).2
  exact ⟨v, v', n, R, R', L, { h with
    fb := ⟨h.fb, h.blk.lt⟩
    fv := fun k hk => ⟨h.fv k hk, o1 k hk⟩
    fv' := fun k hk => ⟨h.fv' k hk, o2 k hk⟩
    fr := fun i hi k hk => ⟨h.fr i hi k hk, ((h.rows.inn i hi).lt hk).2⟩
    fr' := fun i hi k hk => ⟨h.fr' i hi k hk, ((h.copies.inn i hi).lt hk).2⟩ }⟩
structure All (w0 wr : World) (b : Nat) (Am : Option Addr) (cm : Nat) (mem : List Int) (s1 s2 : St) (a ra : At) (F : Nat → Prop) : Prop where
  wv : WvIs wr w0.heap.size a s1.M s1.h s1.O
  rv : RvIs wr w0.heap.size ra s2.M s2.h s2.O
  bk : BkI.Is wr w0.heap.size b F
  lt : wr.ownsRow w0.heap.size 3 1 (.slice Am (mem.length + 1) cm) (mem.length + 1) (ints mem ++ [.int .i64 (-77)])
  d1 : ∀ k, a.blocks k → ¬ ra.blocks k
  d2 : ∀ k, a.blocks k → ¬ F k
  d3 : ∀ k, a.blocks k → Am.map (·.block) ≠ some k
  d4 : ∀ k, ra.blocks k → ¬ F k
  d5 : ∀ k, ra.blocks k → Am.map (·.block) ≠ some k
  d6 : ∀ k, F k → Am.map (·.block) ≠ some k
  lo : ∀ k, F k → w0.heap.size ≤ k ∧ k < wr.heap.size
  bel : Below w0.heap.size w0 wr
section
variable {w0 wr w1 : World} {b : Nat} {Am : Option Addr} {cm : Nat} {mem : List Int} {s1 s2 s' : St} {a ra a' : At} {F : Nat → Prop}
theorem All.weave (A : All w0 wr b Am cm mem s1 s2 a ra F) (H : WvIs w1 w0.heap.size a' s'.M s'.h s'.O) (T : Touch wr w1 a.blocks) (nk : ∀ k, a'.blocks k → a.blocks k ∨ wr.heap.size ≤ k) : All w0 w1 b Am cm mem s' s2 a' ra F where
  wv := H
  rv := A.rv.touch T (fun k hk h => A.d1 k h hk)
  bk := A.bk.touch T (fun k hk h => A.d2 k h hk)
  lt := own_touch A.lt T (fun k hk h => A.d3 k h hk)
  d1 := fun k hk hr => (nk k hk).elim (fun h => A.d1 k h hr) (fun h => absurd (A.rv.low hr).2 (Nat.not_lt.2 h))
  d2 := fun k hk hr => (nk k hk).elim (fun h => A.d2 k h hr) (fun h => absurd (A.lo k hr).2 (Nat.not_lt.2 h))
  d3 := fun k hk hr => (nk k hk).elim (fun h => A.d3 k h hr) (fun h => absurd (own_block A.lt hr).2 (Nat.not_lt.2 h))
  d4 := A.d4
  d5 := A.d5
  d6 := A.d6
  lo := fun k hk => ⟨(A.lo k hk).1, Nat.lt_of_lt_of_le (A.lo k hk).2 T.size⟩
  bel := A.bel.trans (T.below (fun k hk => (A.wv.low hk).1) A.bel.size)
theorem All.ref (A : All w0 wr b Am cm mem s1 s2 a ra F) (H : RvIs w1 w0.heap.size a' s'.M s'.h s'.O) (T : Touch wr w1 ra.blocks) (nk : ∀ k, a'.blocks k → ra.blocks k ∨ wr.heap.size ≤ k) : All w0 w1 b Am cm mem s1 s' a a' F where
  wv := A.wv.touch T (fun k hk h => A.d1 k hk h)
  rv := H
  bk := A.bk.touch T (fun k hk h => A.d4 k h hk)
  lt := own_touch A.lt T (fun k hk h => A.d5 k h hk)
  d1 := fun k hr hk => (nk k hk).elim (fun h => A.d1 k hr h) (fun h => absurd (A.wv.low hr).2 (Nat.not_lt.2 h))
  d2 := A.d2
  d3 := A.d3
  d4 := fun k hk hr => (nk k hk).elim (fun h => A.d4 k h hr) (fun h => absurd (A.lo k hr).2 (Nat.not_lt.2 h))
  d5 := fun k hk hr => (nk k hk).elim (fun h => A.d5 k h hr) (fun h => absurd (own_block A.lt hr).2 (Nat.not_lt.2 h))
  d6 := A.d6
  lo := fun k hk => ⟨(A.lo k hk).1, Nat.lt_of_lt_of_le (A.lo k hk).2 T.size⟩
  bel := A.bel.trans (T.below (fun k hk => (A.rv.low hk).1) A.bel.size)
theorem All.quiet (A : All w0 wr b Am cm mem s1 s2 a ra F) (hb : Below wr.heap.size wr w1) : All w0 w1 b Am cm mem s1 s2 a ra F where
  wv := A.wv.below hb (Nat.le_refl _)
  rv := A.rv.below hb (Nat.le_refl _)
  bk := A.bk.below hb
  lt := own_touch A.lt (Touch.of_below hb (fun _ => False)) (fun _ _ h => h)
  d1 := A.d1
  d2 := A.d2
  d3 := A.d3
  d4 := A.d4
  d5 := A.d5
  d6 := A.d6
  lo := fun k hk => ⟨(A.lo k hk).1, Nat.lt_of_lt_of_le (A.lo k hk).2 hb.size⟩
  bel := A.bel.trans (hb.mono A.bel.size)
theorem own_int {w : World} {B n c : Nat} {A : Option Addr} {xs : List Value} (h : w.ownsRow B 3 1 (.slice A n c) n xs) {k : Nat} (hk : A.map (·.block) = some k) : ∃ cs, Blk w k 3 cs := by
  rcases h.2 with ⟨h0, _⟩ | ⟨g, cap, cur, hv, _, hh, _⟩
  · injection h0 with h0; rw [h0] at hk; cases hk
  · injection hv with h1
    rw [h1] at hk
    injection hk with hk
    subst hk
    exact ⟨cur, hh⟩
theorem All.keep {w2 : World} {n c : Nat} {A' : Option Addr} {xs : List Value} {F' : Nat → Prop} (A : All w0 wr b Am cm mem s1 s2 a ra F) (hb : Below wr.heap.size wr w1) (hl : w1.ownsRow wr.heap.size 3 1 (.slice A' n c) n xs)
    (I : BkI.Is w2 w0.heap.size b F') (hF : ∀ k, F' k → F k ∨ (Value.slice A' n c).ownBlock = some k ∨ w1.heap.size ≤ k) (T : Touch w1 w2 (fun k => F k ∧ ∀ cs, ¬ Blk w1 k 3 cs)) :
    All w0 w2 b Am cm mem s1 s2 a ra (fun k => F' k ∧ k < w2.heap.size) ∧ w2.ownsRow wr.heap.size 3 1 (.slice A' n c) n xs := by
  have A1 := A.quiet hb
  have hob : ∀ k, (Value.slice A' n c).ownBlock = some k → wr.heap.size ≤ k := fun k hk => (hl.lt k hk).1
  have hle := hb.size
  refine ⟨{ wv := A1.wv.touch T (fun k hk h => A1.d2 k hk h.1), rv := A1.rv.touch T (fun k hk h => A1.d4 k hk h.1), bk := book_cut I, lt := own_touch A1.lt T (fun k hk h => A1.d6 k h.1 hk), d1 := A.d1, d2 := ?_, d3 := A.d3, d4 := ?_, d5 := A.d5, d6 := ?_, lo := ?_, bel := A1.bel.trans (T.below (fun k hk => (A1.lo k hk.1).1) A1.bel.size) }, own_touch hl T (fun k hk h => by obtain ⟨cs, hc⟩ := own_int hl hk; exact h.2 cs hc)⟩
  · intro k hk h
    have := (A.wv.low hk).2
    rcases hF k h.1 with h1 | h1 | h1
    · exact A.d2 k hk h1
    · have := hob k h1; omega
    · omega
  · intro k hk h
    have := (A.rv.low hk).2
    rcases hF k h.1 with h1 | h1 | h1
    · exact A.d4 k hk h1
    · have := hob k h1; omega
    · omega
  · intro k h hk
    have := (own_block A.lt hk).2
    rcases hF k h.1 with h1 | h1 | h1
    · exact A.d6 k h1 hk
    · have := hob k h1; omega
    · omega
  · intro k h
    refine ⟨?_, h.2⟩
    rcases hF k h.1 with h1 | h1 | h1
    · exact (A.lo k h1).1
    · exact Nat.le_trans A.bel.size (hob k h1)
    · exact Nat.le_trans A1.bel.size h1
end
def stepR (s : St) (k n v : Int) (t : ByteArray) : Int × St :=
  if k = 1 then opR s n else if k = 2 then argR s n v else if k = 3 then callR s n else formR s ⟨(ups t).toArray⟩
theorem stepR_good (s : St) (k n v : Int) (t : ByteArray) : Wv.Good s (stepR s k n v t) := by
  unfold stepR
  split
  · exact Wv.opR_good s n
  split
  · exact Wv.argR_good s n v
  split
  · exact Wv.callR_good s n
  · exact Wv.formR_good s _
structure OpV where
  k : Int
  n : Int
  v : Int
  s : ByteArray
instance : Inhabited OpV := ⟨⟨0, 0, 0, ByteArray.empty⟩⟩
def OpsAt (w : World) (A : Option Addr) (len : Nat) (f : Nat → OpV) : Prop :=
  len = 0 ∨ ∃ b off, A = some ⟨b, off, none⟩ ∧ b < w.heap.size ∧ ∀ i, i < len → w.cell? ⟨b, off + i * 4, none⟩ = some (.int .i64 (f i).k) ∧ w.cell? ⟨b, off + i * 4 + 1, none⟩ = some (.int .i64 (f i).n) ∧
    w.cell? ⟨b, off + i * 4 + 2, none⟩ = some (.int .i64 (f i).v) ∧ w.cell? ⟨b, off + i * 4 + 3, none⟩ = some (.string (f i).s) ∧ (f i).s.size ≤ maxLen
theorem wv_mono {w : World} {B B2 : Nat} {a : At} {M : List Int} {h : Nat} {O : List (Int × Int)} (H : WvIs w B a M h O) (hb : B2 ≤ B) : WvIs w B2 a M h O :=
  ⟨H.blk, Nat.le_trans hb H.base, ⟨H.mem.1, H.mem.2.imp id fun ⟨g, cap, cur, h1, hb1, rest⟩ => ⟨g, cap, cur, h1, Nat.le_trans hb hb1, rest⟩⟩, ⟨H.opn.1, H.opn.2.imp id fun ⟨g, cap, cur, h1, hb1, rest⟩ => ⟨g, cap, cur, h1, Nat.le_trans hb hb1, rest⟩⟩, H.here, H.small, H.few⟩
theorem rv_mono {w : World} {B B2 : Nat} {a : At} {M : List Int} {h : Nat} {O : List (Int × Int)} (H : RvIs w B a M h O) (hb : B2 ≤ B) : RvIs w B2 a M h O :=
  ⟨H.blk, Nat.le_trans hb H.base, ⟨H.mem.1, H.mem.2.imp id fun ⟨g, cap, cur, h1, hb1, rest⟩ => ⟨g, cap, cur, h1, Nat.le_trans hb hb1, rest⟩⟩, ⟨H.opn.1, H.opn.2.imp id fun ⟨g, cap, cur, h1, hb1, rest⟩ => ⟨g, cap, cur, h1, Nat.le_trans hb hb1, rest⟩⟩, H.here, H.small, H.few⟩
theorem All.start {w w1 w2 w3 w4 : World} {Am : Option Addr} {cm : Nat} {mem M : List Int} {h : Nat} {a ra : At} (hb1 : Below w.heap.size w w1)
    (ho2 : w2.ownsRow w1.heap.size 3 1 (.slice Am (mem.length + 1) cm) (mem.length + 1) (ints mem ++ [.int .i64 (-77)])) (hb2 : Below w1.heap.size w1 w2)
    (H3 : WvIs w3 w2.heap.size a M h []) (hb3 : Below w2.heap.size w2 w3) (H4 : RvIs w4 w3.heap.size ra M h []) (hb4 : Below w3.heap.size w3 w4) :
    All w (w4.alloc (.cells (BkI.cells (.slice none 0 0) (.slice none 0 0)) 38)) w4.heap.size Am cm mem ⟨M, h, []⟩ ⟨M, h, []⟩ a ra (fun k => k = w4.heap.size) := by
  have l1 := hb1.size
  have l2 := hb2.size
  have l3 := hb3.size
  have l4 := hb4.size
  have H3' := (H3.below hb4 (Nat.le_refl _))
  have ho4 : w4.ownsRow w.heap.size 3 1 (.slice Am (mem.length + 1) cm) (mem.length + 1) (ints mem ++ [.int .i64 (-77)]) := by
    have h1 := own_touch (own_touch ho2 (Touch.of_below hb3 (fun _ => False)) (fun _ _ h => h)) (Touch.of_below hb4 (fun _ => False)) (fun _ _ h => h)
    exact ⟨h1.1, h1.2.imp id fun ⟨g, cap, cur, e1, hb, rest⟩ => ⟨g, cap, cur, e1, Nat.le_trans l1 hb, rest⟩⟩
  have hlm : ∀ k, Am.map (·.block) = some k → k < w2.heap.size := fun k hk => (own_block ho2 hk).2
  exact {
    wv := wv_mono (H3'.alloc _) (by omega)
    rv := rv_mono (H4.alloc _) (by omega)
    bk := BkI.Is.new w4 w.heap.size (by omega)
    lt := own_touch ho4 (alloc_touch w4 _ (fun _ => False)) (fun _ _ h => h)
    d1 := fun k hk hr => by have := (H3.low hk).2; have := (H4.low hr).1; omega
    d2 := fun k hk hr => by have := (H3.low hk).2; omega
    d3 := fun k hk hr => by have := (H3.low hk).1; have := hlm k hr; omega
    d4 := fun k hk hr => by have := (H4.low hk).2; omega
    d5 := fun k hk hr => by have := (H4.low hk).1; have := hlm k hr; omega
    d6 := fun k hk hr => by have := hlm k hr; omega
    lo := fun k hk => ⟨by omega, by simp; omega⟩
    bel := (hb1.trans ((hb2.trans ((hb3.trans (hb4.mono l3)).mono l2)).mono l1)).alloc (by omega) _ }
theorem reads_below {w w1 : World} {A : Option Addr} {n : Nat} {xs : List Value} (h : Reads w w.heap.size 1 A n xs) (hb : Below w.heap.size w w1) : Reads w1 w1.heap.size 1 A n xs := by
  refine ⟨h.1, fun hp => ?_⟩
  obtain ⟨ad, e, hlt, hc⟩ := h.2 hp
  exact ⟨ad, e, Nat.lt_of_lt_of_le hlt hb.size, fun j u hj => (hb.cell (p := ad.add j) (by unfold Addr.add; split <;> exact hlt)).trans (hc j u hj)⟩
end Go.Proofs.Ytndjbjhgkggeiaa.Rv
