/-
  Lemmas on the way, for every input that they name: RvA.
-/
import Derived.Test.YtndjbjhgkggeiaaQ07
set_option linter.unusedVariables false
set_option linter.unusedSimpArgs false
set_option linter.deprecated false
namespace Go.Proofs.Ytndjbjhgkggeiaa.Rv
open Go.RowKit Go.Proofs.Ytndjbjhgkggeiaa.Wv
structure RvIs (w : World) (B : Nat) (a : At) (M : List Int) (h : Nat) (O : List (Int × Int)) : Prop where
  blk : w.heap[a.sb]? = some (.cells #[.slice a.MA M.length a.mcap, .int .i64 h, .slice a.OA O.length a.ocap] 49 (0, 0))
  base : B ≤ a.sb
  mem : w.ownsRow B 3 1 (.slice a.MA M.length a.mcap) M.length (M.map (Value.int .i64))
  opn : w.ownsRow B 63 2 (.slice a.OA O.length a.ocap) O.length (flat O)
  here : h ≤ M.length
  small : M.length ≤ 5000
  few : O.length ≤ 5000
section
variable {w w' : World} {B : Nat} {a : At} {M : List Int} {h : Nat} {O : List (Int × Int)}
theorem RvIs.c0 (H : RvIs w B a M h O) : w.cell? ⟨a.sb, 0, none⟩ = some (.slice a.MA M.length a.mcap) := by simp [World.cell?, H.blk]
theorem RvIs.c1 (H : RvIs w B a M h O) : w.cell? ⟨a.sb, 1, none⟩ = some (.int .i64 h) := by simp [World.cell?, H.blk]
theorem RvIs.c2 (H : RvIs w B a M h O) : w.cell? ⟨a.sb, 2, none⟩ = some (.slice a.OA O.length a.ocap) := by simp [World.cell?, H.blk]
theorem RvIs.f1 (H : RvIs w B a M h O) : w.frozen? ⟨a.sb, 1, none⟩ = false := by simp [World.frozen?, H.blk]
theorem RvIs.f0 (H : RvIs w B a M h O) : w.frozen? ⟨a.sb, 0, none⟩ = false := by simp [World.frozen?, H.blk]
theorem RvIs.f2 (H : RvIs w B a M h O) : w.frozen? ⟨a.sb, 2, none⟩ = false := by simp [World.frozen?, H.blk]
theorem RvIs.lt (H : RvIs w B a M h O) : a.sb < w.heap.size := (Array.getElem?_eq_some_iff.1 H.blk).1
theorem RvIs.low (H : RvIs w B a M h O) {k : Nat} (hk : a.blocks k) : B ≤ k ∧ k < w.heap.size := by
  rcases hk with rfl | hk | hk
  · exact ⟨H.base, H.lt⟩
  · exact own_block H.mem hk
  · exact own_block H.opn hk
theorem RvIs.touch {S : Nat → Prop} (H : RvIs w B a M h O) (T : Touch w w' S) (hS : ∀ k, a.blocks k → ¬ S k) : RvIs w' B a M h O :=
  { blk := (T.block a.sb H.lt (hS _ (Or.inl rfl))).trans H.blk
    base := H.base
    mem := own_touch H.mem T (fun k hk => hS k (Or.inr (Or.inl hk)))
    opn := own_touch H.opn T (fun k hk => hS k (Or.inr (Or.inr hk)))
    here := H.here
    small := H.small
    few := H.few }
theorem RvIs.below {N : Nat} (H : RvIs w B a M h O) (hb : Below N w w') (hN : w.heap.size ≤ N) : RvIs w' B a M h O :=
  H.touch (S := fun _ => False) ⟨hb.os, hb.tape, hb.output, hb.size, fun k hk _ => hb.block k (by omega)⟩ (fun _ _ => id)
theorem RvIs.drewN (H : RvIs w B a M h O) (m : Nat) : RvIs (w.drewN m) B a M h O :=
  { blk := H.blk, base := H.base, mem := H.mem, opn := H.opn, here := H.here, small := H.small, few := H.few }
theorem RvIs.ne_mem (H : RvIs w B a M h O) {k : Nat} (hk : a.MA.map (·.block) = some k) : k ≠ a.sb := by
  rintro rfl
  rcases H.mem.2 with ⟨h0, _⟩ | ⟨g, cap, cur, hv, _, hh, _⟩
  · injection h0 with h0; rw [h0] at hk; cases hk
  · injection hv with hA
    rw [hA] at hk
    simp at hk
    subst hk
    rw [H.blk] at hh
    injection hh with hh
    injection hh with _ ht
    cases ht
theorem RvIs.ne_opn (H : RvIs w B a M h O) {k : Nat} (hk : a.OA.map (·.block) = some k) : k ≠ a.sb := by
  rintro rfl
  rcases H.opn.2 with ⟨h0, _⟩ | ⟨g, cap, cur, hv, _, hh, _⟩
  · injection h0 with h0; rw [h0] at hk; cases hk
  · injection hv with hA
    rw [hA] at hk
    simp at hk
    subst hk
    rw [H.blk] at hh
    injection hh with hh
    injection hh with _ ht
    cases ht
theorem RvIs.ne_both (H : RvIs w B a M h O) {k : Nat} (hk : a.MA.map (·.block) = some k) : a.OA.map (·.block) ≠ some k := by
  intro hk2
  rcases H.mem.2 with ⟨h0, _⟩ | ⟨g, cap, cur, hv, _, hh, _⟩
  · injection h0 with h0; rw [h0] at hk; cases hk
  · rcases H.opn.2 with ⟨h0, _⟩ | ⟨g', cap', cur', hv', _, hh', _⟩
    · injection h0 with h0; rw [h0] at hk2; cases hk2
    · injection hv with hA
      injection hv' with hA'
      rw [hA] at hk
      rw [hA'] at hk2
      simp at hk hk2
      subst hk
      subst hk2
      rw [hh] at hh'
      injection hh' with hh'
      injection hh' with _ ht
      cases ht
end
def Next (w : World) (B : Nat) (a : At) (M : List Int) (h : Nat) (O : List (Int × Int)) (w' : World) : Prop :=
  ∃ a' : At, a'.sb = a.sb ∧ RvIs w' B a' M h O ∧ Touch w w' a.blocks ∧ ∀ k, a'.blocks k → a.blocks k ∨ w.heap.size ≤ k
theorem Next.same {w w' : World} {B : Nat} {a : At} {M : List Int} {h : Nat} {O : List (Int × Int)} (H : RvIs w' B a M h O) (T : Touch w w' a.blocks) : Next w B a M h O w' :=
  ⟨a, rfl, H, T, fun _ hk => Or.inl hk⟩
theorem Next.trans {w w1 w2 : World} {B : Nat} {a a1 : At} {M : List Int} {h : Nat} {O : List (Int × Int)} (hs : a1.sb = a.sb) (T : Touch w w1 a.blocks) (hk : ∀ k, a1.blocks k → a.blocks k ∨ w.heap.size ≤ k) (N : Next w1 B a1 M h O w2) : Next w B a M h O w2 := by
  obtain ⟨a2, e2, H2, T2, k2⟩ := N
  exact ⟨a2, e2.trans hs, H2, T.trans T2 hk, fun k h2 => by
    rcases k2 k h2 with h3 | h3
    · exact hk k h3
    · exact Or.inr (Nat.le_trans T.size h3)⟩
theorem RvIs.alloc {M : List Int} {h : Nat} {O : List (Int × Int)} {w : World} {B : Nat} {a : At} (H : RvIs w B a M h O) (o : Obj) : RvIs (w.alloc o) B a M h O :=
  H.touch (alloc_touch w o (fun _ => False)) (fun _ _ => id)
theorem push_done {w w2 : World} {B : Nat} {a : At} {s : St} {k v : Int} {OA' : Option Addr} {ocap' : Nat} {o : Obj} (H : RvIs w B a s.M s.h s.O)
    (ho : w2.ownsRow B 63 2 (.slice OA' (s.O.length + 1) ocap') (s.O.length + 1) (flat s.O ++ [.int .i64 k, .int .i64 v])) (hg : (w.alloc o).grownBy w2 (Value.slice a.OA s.O.length a.ocap).ownBlock)
    (hloc : (Value.slice OA' (s.O.length + 1) ocap').ownBlock = (Value.slice a.OA s.O.length a.ocap).ownBlock ∨ (Value.slice OA' (s.O.length + 1) ocap').ownBlock = some (w.heap.size + 1))
    (hsb : w2.heap[a.sb]? = w.heap[a.sb]?) (hO : s.O.length < 5000) :
    Next w B a s.M s.h (s.O ++ [(k, v)]) (w2.setCell ⟨a.sb, 2, none⟩ (.slice OA' (s.O.length + 1) ocap')) := by
  have hob : ∀ (A : Option Addr) (n c : Nat), (Value.slice A n c).ownBlock = A.map (·.block) := by intro A n c; cases A <;> rfl
  rw [hob] at hg
  rw [hob, hob] at hloc
  have T1 : Touch w w2 (fun i => a.OA.map (·.block) = some i) :=
    (alloc_touch w o _).trans (Touch.of_grown (S := fun i => a.OA.map (·.block) = some i) hg (fun i hi => Or.inl hi)) (fun i hi => Or.inl hi)
  have T2 : Touch w2 (w2.setCell ⟨a.sb, 2, none⟩ (.slice OA' (s.O.length + 1) ocap')) (fun i => i = a.sb) :=
    ⟨rfl, rfl, rfl, by simp [World.setCell], fun i _ hi => Below.heap_setCell w2 ⟨a.sb, 2, none⟩ _ i hi⟩
  have T : Touch w (w2.setCell ⟨a.sb, 2, none⟩ (.slice OA' (s.O.length + 1) ocap')) (fun i => a.OA.map (·.block) = some i ∨ i = a.sb) :=
    (T1.mono (T := fun i => a.OA.map (·.block) = some i ∨ i = a.sb) (fun i hi => Or.inl (Or.inl hi))).trans T2 (fun i hi => Or.inl (Or.inr hi))
  have hnew : ∀ i, OA'.map (·.block) = some i → a.OA.map (·.block) = some i ∨ w.heap.size ≤ i := by
    intro i hi
    rcases hloc with h | h
    · exact Or.inl (h ▸ hi)
    · rw [h] at hi
      simp at hi
      exact Or.inr (by omega)
  have hne : ∀ i, OA'.map (·.block) = some i → i ≠ a.sb := by
    intro i hi e
    subst e
    rcases hnew a.sb hi with h | h
    · exact H.ne_opn h rfl
    · have := H.lt; omega
  refine ⟨⟨a.sb, a.MA, a.mcap, OA', ocap'⟩, rfl, { blk := ?_, base := H.base, mem := ?_, opn := ?_, here := H.here, small := H.small, few := by simp; omega }, ?_, ?_⟩
  · have hb := hsb.trans H.blk
    simp [World.setCell, Array.getElem?_modify, hb]
  · exact own_touch H.mem T (fun i hi => by
      rintro (h | h)
      · exact H.ne_both hi h
      · exact H.ne_mem hi h)
  · rw [flat_snoc]
    have := own_touch ho T2 (fun i hi => hne i hi)
    simpa using this
  · exact T.mono (fun i hi => Or.inl (by rcases hi with h | h; exact Or.inr (Or.inr h); exact Or.inl h))
  · rintro i (h | h | h)
    · exact Or.inl (Or.inl h)
    · exact Or.inl (Or.inr (Or.inl h))
    · rcases hnew i h with h1 | h1
      · exact Or.inl (Or.inr (Or.inr h1))
      · exact Or.inr h1
theorem pop_done {w : World} {B : Nat} {a : At} {M : List Int} {h : Nat} {O : List (Int × Int)} {p : Int × Int} (H : RvIs w B a M h (O ++ [p])) :
    RvIs (w.setCell ⟨a.sb, 2, none⟩ (.slice a.OA O.length a.ocap)) B a M h O ∧ Touch w (w.setCell ⟨a.sb, 2, none⟩ (.slice a.OA O.length a.ocap)) a.blocks := by
  have T2 : Touch w (w.setCell ⟨a.sb, 2, none⟩ (.slice a.OA O.length a.ocap)) (fun i => i = a.sb) :=
    ⟨rfl, rfl, rfl, by simp [World.setCell], fun i _ hi => Below.heap_setCell w ⟨a.sb, 2, none⟩ _ i hi⟩
  refine ⟨{ blk := ?_, base := H.base, mem := ?_, opn := ?_, here := H.here, small := H.small, few := by have := H.few; simp at this; omega }, T2.mono (fun i hi => Or.inl (Or.inl hi))⟩
  · simp [World.setCell, Array.getElem?_modify, H.blk]
  · exact own_touch H.mem T2 (fun i hi => H.ne_mem hi)
  · have ho := own_touch H.opn T2 (fun i hi => H.ne_opn hi)
    rw [flat_snoc, List.length_append, List.length_singleton] at ho
    obtain ⟨g, cap, hA, _⟩ := World.ownsRow.form ho (by omega)
    injection hA with hA _ hc
    rw [hA] at ho ⊢
    exact ownsRow_pop (flat_length O) ho
theorem last_cell {w : World} {B : Nat} {a : At} {M : List Int} {h : Nat} {O : List (Int × Int)} (H : RvIs w B a M h O) (n : Nat) (hn : n < O.length) :
    ∃ g, a.OA = some ⟨g, 0, none⟩ ∧ w.cell? ⟨g, n * 2, none⟩ = some (.int .i64 (O.getD n (0, 0)).1) ∧ w.cell? ⟨g, n * 2 + 1, none⟩ = some (.int .i64 (O.getD n (0, 0)).2) := by
  obtain ⟨g, cap, hA, _⟩ := World.ownsRow.form H.opn (by omega)
  injection hA with hA _ _
  have ho := H.opn
  rw [hA] at ho
  refine ⟨g, hA, ?_, ?_⟩
  · rw [ho.cellAt (n * 2) (by omega), flat_get O n hn]
  · rw [ho.cellAt (n * 2 + 1) (by omega), flat_get2 O n hn]
theorem set_done {w : World} {B : Nat} {a : At} {M : List Int} {h : Nat} {O : List (Int × Int)} {g : Nat} (H : RvIs w B a M h O) (hA : a.MA = some ⟨g, 0, none⟩) (i : Nat) (v : Int) :
    RvIs (w.setCell ⟨g, i, none⟩ (.int .i64 v)) B a (M.set i v) h O ∧ Touch w (w.setCell ⟨g, i, none⟩ (.int .i64 v)) a.blocks := by
  have T : Touch w (w.setCell ⟨g, i, none⟩ (.int .i64 v)) (fun k => k = g) := ⟨rfl, rfl, rfl, by simp [World.setCell], fun k _ hk => Below.heap_setCell w ⟨g, i, none⟩ _ k hk⟩
  have hg : a.MA.map (·.block) = some g := by rw [hA]; rfl
  have hm := H.mem
  rw [hA] at hm
  refine ⟨{ blk := ?_, base := H.base, mem := ?_, opn := ?_, here := by simpa using H.here, small := by simpa using H.small, few := H.few }, T.mono (fun k hk => Or.inl (by subst hk; exact Or.inr (Or.inl hg)))⟩
  · rw [List.length_set]
    exact (T.block a.sb H.lt (fun e => H.ne_mem hg e.symm)).trans H.blk
  · rw [hA, List.length_set, List.map_set]
    exact (hm.stored i (.int .i64 v)).1
  · exact own_touch H.opn T (fun k hk => by rintro rfl; exact H.ne_both hg hk)
theorem mem_cell {w : World} {B : Nat} {a : At} {M : List Int} {h : Nat} {O : List (Int × Int)} (H : RvIs w B a M h O) {g : Nat} (hA : a.MA = some ⟨g, 0, none⟩) (q : Nat) (hq : q < M.length) :
    w.cell? ⟨g, q, none⟩ = some (.int .i64 (M.getD q 0)) ∧ w.frozen? ⟨g, q, none⟩ = false := by
  have hm := H.mem
  rw [hA] at hm
  refine ⟨?_, hm.frozenAt q⟩
  rw [hm.cellAt q (by omega)]
  simp [hq]
theorem mem_addr {w : World} {B : Nat} {a : At} {M : List Int} {h : Nat} {O : List (Int × Int)} (H : RvIs w B a M h O) (hp : 0 < M.length) : ∃ g, a.MA = some ⟨g, 0, none⟩ := by
  obtain ⟨g, cap, hA, _⟩ := World.ownsRow.form H.mem hp
  injection hA with hA _ _
  exact ⟨g, hA⟩
theorem opn_addr {w : World} {B : Nat} {a : At} {M : List Int} {h : Nat} {O : List (Int × Int)} (H : RvIs w B a M h O) (hp : 0 < O.length) : ∃ g, a.OA = some ⟨g, 0, none⟩ := by
  obtain ⟨g, cap, hA, _⟩ := World.ownsRow.form H.opn hp
  injection hA with hA _ _
  exact ⟨g, hA⟩
theorem here_done {w : World} {B : Nat} {a : At} {M : List Int} {h : Nat} {O : List (Int × Int)} (H : RvIs w B a M h O) (h' : Nat) (hh : h' ≤ M.length) :
    RvIs (w.setCell ⟨a.sb, 1, none⟩ (.int .i64 h')) B a M h' O ∧ Touch w (w.setCell ⟨a.sb, 1, none⟩ (.int .i64 h')) a.blocks := by
  have T : Touch w (w.setCell ⟨a.sb, 1, none⟩ (.int .i64 h')) (fun k => k = a.sb) := ⟨rfl, rfl, rfl, by simp [World.setCell], fun k _ hk => Below.heap_setCell w ⟨a.sb, 1, none⟩ _ k hk⟩
  refine ⟨{ blk := ?_, base := H.base, mem := ?_, opn := ?_, here := hh, small := H.small, few := H.few }, T.mono (fun k hk => Or.inl (Or.inl hk))⟩
  · have hb := H.blk
    simp [World.setCell, Array.getElem?_modify, hb]
  · exact own_touch H.mem T (fun k hk => H.ne_mem hk)
  · exact own_touch H.opn T (fun k hk => H.ne_opn hk)
theorem lay_zero (M : List Int) (h : Nat) : lay M h [] = M := by
  unfold lay
  simp
theorem lay_step (M : List Int) (h : Nat) (L : List Int) (i : Nat) (hi : i < L.length) (hr : h + L.length ≤ M.length) : (lay M h (L.take i)).set (h + i) (L.getD i 0) = lay M h (L.take (i + 1)) := by
  have ht : L.take (i + 1) = L.take i ++ [L.getD i 0] := by
    rw [List.take_add_one, List.getElem?_eq_getElem hi]
    simp [hi]
  have hl : (L.take i).length = i := by simp; omega
  have hM : (M.take h).length = h := by simp; omega
  unfold lay
  rw [ht, hl]
  have hd : M.drop (h + i) = M.getD (h + i) 0 :: M.drop (h + i + 1) := by
    rw [List.drop_eq_getElem_cons (by omega)]
    simp [show h + i < M.length by omega]
  rw [hd, ← List.append_assoc, List.set_append_right _ _ (by rw [List.length_append, hM, hl]; omega), List.length_append, hM, hl, show h + i - (h + i) = 0 by omega]
  simp only [List.set_cons_zero, List.length_append, List.length_cons, List.length_nil, hl]
  simp [Nat.add_assoc]
end Go.Proofs.Ytndjbjhgkggeiaa.Rv
