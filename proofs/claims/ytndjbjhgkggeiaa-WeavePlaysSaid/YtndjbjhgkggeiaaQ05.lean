/-
  Lemmas on the way, for every input that they name: WvC.
-/
import Derived.Maps.AppendAt
import Derived.Test.YtndjbjhgkggeiaaQ04
set_option linter.unusedVariables false
set_option linter.unusedSimpArgs false
set_option linter.deprecated false
namespace Go.Proofs.Ytndjbjhgkggeiaa.Wv
open Go.RowKit
structure St where
  M : List Int
  h : Nat
  O : List (Int × Int)
def layR (s : St) (L : List Int) : Int × St :=
  if s.h + L.length ≤ s.M.length then (0, ⟨lay s.M s.h L, s.h + L.length, s.O⟩) else (-8, s)
def Did (w : World) (B : Nat) (a : At) (r : Int × St) (e : Ending) (w' : World) : Prop :=
  e = .returned (.int .i64 r.1) ∧ Next w B a r.2.M r.2.h r.2.O w'
theorem Next.same {w w' : World} {B : Nat} {a : At} {M : List Int} {h : Nat} {O : List (Int × Int)} (H : WvIs w' B a M h O) (T : Touch w w' a.blocks) : Next w B a M h O w' :=
  ⟨a, rfl, H, T, fun _ hk => Or.inl hk⟩
theorem Next.trans {w w1 w2 : World} {B : Nat} {a a1 : At} {M : List Int} {h : Nat} {O : List (Int × Int)} (hs : a1.sb = a.sb) (T : Touch w w1 a.blocks) (hk : ∀ k, a1.blocks k → a.blocks k ∨ w.heap.size ≤ k) (N : Next w1 B a1 M h O w2) : Next w B a M h O w2 := by
  obtain ⟨a2, e2, H2, T2, k2⟩ := N
  exact ⟨a2, e2.trans hs, H2, T.trans T2 hk, fun k h2 => by
    rcases k2 k h2 with h3 | h3
    · exact hk k h3
    · exact Or.inr (Nat.le_trans T.size h3)⟩
section
variable {w : World} {B : Nat} {a : At} {s : St}
theorem WvIs.alloc {M : List Int} {h : Nat} {O : List (Int × Int)} (H : WvIs w B a M h O) (o : Obj) : WvIs (w.alloc o) B a M h O :=
  H.touch (alloc_touch w o (fun _ => False)) (fun _ _ => id)
end
theorem lay_own (B : Nat) (a : At) (s : St) (w : World) (H : WvIs w B a s.M s.h s.O) (L : List Int) (hpos : 0 < L.length) (hL : L.length ≤ 10) (c : Nat) :
    Calls Try.prog 27 #[.pointer (some ⟨a.sb, 0, none⟩), .slice (some ⟨w.heap.size, 0, none⟩) L.length c] (w.alloc (.cells (L.map (Value.int .i64)).toArray 3)) (Did w B a (layR s L)) := by
  have H1 := H.alloc (.cells (L.map (Value.int .i64)).toArray 3)
  have T1 := alloc_touch w (.cells (L.map (Value.int .i64)).toArray 3) a.blocks
  have hc : ∀ j v, (L.map (Value.int .i64))[j]? = some v → (w.alloc (.cells (L.map (Value.int .i64)).toArray 3)).cell? ((⟨w.heap.size, 0, none⟩ : Addr).add j) = some v := by
    intro j v hj
    rw [Go.WideShapes.add_plain, World.cell?, heap_alloc_new]
    simpa using hj
  unfold Did layR
  split
  · rename_i hr
    refine (lay_room B a s.M s.h s.O _ H1 w.heap.size L c hc hpos hr).mono ?_
    rintro e w' ⟨rfl, H2, T2⟩
    exact ⟨rfl, Next.same H2 (T1.trans T2 (fun _ h => Or.inl h))⟩
  · rename_i hr
    refine (lay_full B a s.M s.h s.O _ H1 _ L.length c (by omega) (by omega)).mono ?_
    rintro e w' ⟨rfl, q, rfl⟩
    exact ⟨rfl, Next.same (H1.drewN q) (T1.drewN q)⟩
theorem lay1 (B : Nat) (a : At) (s : St) (w : World) (H : WvIs w B a s.M s.h s.O) (o : Int) (c : Nat) :
    Calls Try.prog 27 #[.pointer (some ⟨a.sb, 0, none⟩), .slice (some ⟨w.heap.size, 0, none⟩) 1 c] (w.alloc (.cells #[.int .i64 o] 3)) (Did w B a (layR s [o])) :=
  lay_own B a s w H [o] (by simp) (by simp) c
theorem lay2 (B : Nat) (a : At) (s : St) (w : World) (H : WvIs w B a s.M s.h s.O) (o v : Int) (c : Nat) :
    Calls Try.prog 27 #[.pointer (some ⟨a.sb, 0, none⟩), .slice (some ⟨w.heap.size, 0, none⟩) 2 c] (w.alloc (.cells #[.int .i64 o, .int .i64 v] 3)) (Did w B a (layR s [o, v])) :=
  lay_own B a s w H [o, v] (by simp) (by simp) c
def rightB (o : Int) : Bool := decide (0 ≤ o) && decide (o < 48)
def argB (o : Int) : Bool := o == 2 || o == 3 || o == 4 || o == 37 || o == 38
theorem right_any (o : Int) (w : World) : Calls Try.prog 25 #[.int .i64 o] w fun e w' => e = .returned (.bool (rightB o)) ∧ w = w' := by
  unfold rightB
  go_enter Try.func25, Try.ntmps25
  go_wp2
  all_goals
    go_ret
    exact ⟨by first | (simp_all; done) | (simp_all; omega), rfl⟩
theorem arg_any (o : Int) (w : World) : Calls Try.prog 26 #[.int .i64 o] w fun e w' => e = .returned (.bool (argB o)) ∧ w = w' := by
  have hb : ∀ b, argB o = b → (Calls Try.prog 26 #[.int .i64 o] w fun e w' => e = .returned (.bool b) ∧ w = w') := by
    intro b h
    by_cases h2 : o = 2
    · subst h2; subst h
      go_enter Try.func26, Try.ntmps26
      go_wp2
      go_ret
      exact ⟨rfl, rfl⟩
    by_cases h3 : o = 3
    · subst h3; subst h
      go_enter Try.func26, Try.ntmps26
      go_wp2
      go_ret
      exact ⟨rfl, rfl⟩
    by_cases h4 : o = 4
    · subst h4; subst h
      go_enter Try.func26, Try.ntmps26
      go_wp2
      go_ret
      exact ⟨rfl, rfl⟩
    by_cases h5 : o = 37
    · subst h5; subst h
      go_enter Try.func26, Try.ntmps26
      go_wp2
      go_ret
      exact ⟨rfl, rfl⟩
    by_cases h6 : o = 38
    · subst h6; subst h
      go_enter Try.func26, Try.ntmps26
      go_wp2
      go_ret
      exact ⟨rfl, rfl⟩
    have hf : b = false := by rw [← h]; simp [argB, h2, h3, h4, h5, h6]
    subst hf
    clear h
    go_enter Try.func26, Try.ntmps26
    go_wp2
    go_ret
    exact ⟨rfl, rfl⟩
  exact hb _ rfl
def opR (s : St) (o : Int) : Int × St := if rightB o = true ∧ argB o = false then layR s [o] else (-13, s)
def argR (s : St) (o v : Int) : Int × St := if argB o = true then layR s [o, v] else (-13, s)
def callR (s : St) (x : Int) : Int × St := if x < 64 then (-9, s) else layR s [x]
theorem op_any (B : Nat) (a : At) (s : St) (w : World) (H : WvIs w B a s.M s.h s.O) (o : Int) :
    Calls Try.prog 8 #[.pointer (some ⟨a.sb, 0, none⟩), .int .i64 o] w (Did w B a (opR s o)) := by
  unfold opR
  cases hr : rightB o
  · have H0 : Hid (Did w B a (-13, s) (.returned (.int .i64 (-13))) w) := ⟨rfl, Next.same H (Touch.refl _ _)⟩
    simp only [Bool.false_eq_true, false_and, if_false]
    go_enter Try.func8, Try.ntmps8
    go_wp2_with fail
    refine (right_any o _).mono ?_
    rintro e w' ⟨rfl, rfl⟩
    rw [hr]
    go_wp2_with fail
    go_ret
    exact H0.out
  · cases ha : argB o
    · simp only [and_self, if_true]
      have hl := Lib.hid (lay1 B a s w H o 1)
      go_enter Try.func8, Try.ntmps8
      go_wp2_with fail
      refine (right_any o _).mono ?_
      rintro e w' ⟨rfl, rfl⟩
      rw [hr]
      go_wp2_with fail
      refine (arg_any o _).mono ?_
      rintro e w' ⟨rfl, rfl⟩
      rw [ha]
      go_wp2_with fail
      refine hl.out.mono ?_
      rintro e w' ⟨rfl, N⟩
      go_wp2_with fail
      go_ret
      exact ⟨rfl, N⟩
    · have H0 : Hid (Did w B a (-13, s) (.returned (.int .i64 (-13))) w) := ⟨rfl, Next.same H (Touch.refl _ _)⟩
      simp only [Bool.true_eq_false, and_false, if_false]
      go_enter Try.func8, Try.ntmps8
      go_wp2_with fail
      refine (right_any o _).mono ?_
      rintro e w' ⟨rfl, rfl⟩
      rw [hr]
      go_wp2_with fail
      refine (arg_any o _).mono ?_
      rintro e w' ⟨rfl, rfl⟩
      rw [ha]
      go_wp2_with fail
      go_ret
      exact H0.out
theorem argm_any (B : Nat) (a : At) (s : St) (w : World) (H : WvIs w B a s.M s.h s.O) (o v : Int) :
    Calls Try.prog 10 #[.pointer (some ⟨a.sb, 0, none⟩), .int .i64 o, .int .i64 v] w (Did w B a (argR s o v)) := by
  unfold argR
  cases ha : argB o
  · have H0 : Hid (Did w B a (-13, s) (.returned (.int .i64 (-13))) w) := ⟨rfl, Next.same H (Touch.refl _ _)⟩
    simp only [Bool.false_eq_true, if_false]
    go_enter Try.func10, Try.ntmps10
    go_wp2_with fail
    refine (arg_any o _).mono ?_
    rintro e w' ⟨rfl, rfl⟩
    rw [ha]
    go_wp2_with fail
    go_ret
    exact H0.out
  · simp only [if_true]
    have hl := Lib.hid (lay2 B a s w H o v 2)
    go_enter Try.func10, Try.ntmps10
    go_wp2_with fail
    refine (arg_any o _).mono ?_
    rintro e w' ⟨rfl, rfl⟩
    rw [ha]
    go_wp2_with fail
    refine hl.out.mono ?_
    rintro e w' ⟨rfl, N⟩
    go_wp2_with fail
    go_ret
    exact ⟨rfl, N⟩
theorem call_any (B : Nat) (a : At) (s : St) (w : World) (H : WvIs w B a s.M s.h s.O) (x : Int) :
    Calls Try.prog 12 #[.pointer (some ⟨a.sb, 0, none⟩), .int .i64 x] w (Did w B a (callR s x)) := by
  unfold callR
  by_cases hx : x < 64
  · have H0 : Hid (Did w B a (-9, s) (.returned (.int .i64 (-9))) w) := ⟨rfl, Next.same H (Touch.refl _ _)⟩
    rw [if_pos hx]
    go_enter Try.func12, Try.ntmps12
    go_wp2_with fail
    go_ret
    exact H0.out
  · rw [if_neg hx]
    have hl := Lib.hid (lay1 B a s w H x 1)
    go_enter Try.func12, Try.ntmps12
    go_wp2_with fail
    refine hl.out.mono ?_
    rintro e w' ⟨rfl, N⟩
    go_wp2_with fail
    go_ret
    exact ⟨rfl, N⟩
theorem info118 : (Try.prog.info? 87).map (fun i => (i.zero, i.size, i.bytes)) = some (some (.agg #[.int .i64 0, .int .i64 0]), 2, 16) := by kernel_rfl
theorem push_done {w w2 : World} {B : Nat} {a : At} {s : St} {k v : Int} {OA' : Option Addr} {ocap' : Nat} {o : Obj} (H : WvIs w B a s.M s.h s.O)
    (ho : w2.ownsRow B 87 2 (.slice OA' (s.O.length + 1) ocap') (s.O.length + 1) (flat s.O ++ [.int .i64 k, .int .i64 v])) (hg : (w.alloc o).grownBy w2 (Value.slice a.OA s.O.length a.ocap).ownBlock)
    (hloc : (Value.slice OA' (s.O.length + 1) ocap').ownBlock = (Value.slice a.OA s.O.length a.ocap).ownBlock ∨ (Value.slice OA' (s.O.length + 1) ocap').ownBlock = some (w.heap.size + 1))
    (hsb : w2.heap[a.sb]? = w.heap[a.sb]?) (hO : s.O.length < 5000) :
    Next w B a s.M s.h (s.O ++ [(k, v)]) (w2.setCell ⟨a.sb, 2, none⟩ (.slice OA' (s.O.length + 1) ocap')) := by
  have hob : ∀ (A : Option Addr) (n c : Nat), (Value.slice A n c).ownBlock = A.map (·.block) := by intro A n c; cases A <;> rfl
  rw [hob] at hg
  rw [hob, hob] at hloc
  have T1 : Touch w w2 (fun i => a.OA.map (·.block) = some i) :=
    (alloc_touch w o _).trans (Touch.of_grown (S := fun i => a.OA.map (·.block) = some i) hg (fun i hi => Or.inl hi)) (fun i hi => Or.inl hi)
  have T2 : Touch w2 (w2.setCell ⟨a.sb, 2, none⟩ (.slice OA' (s.O.length + 1) ocap')) (fun i => i = a.sb) :=
    ⟨rfl, rfl, rfl, by simp [World.setCell], fun i _ hi => Below.heap_setCell w2 ⟨a.sb, 2, none⟩ _ i hi⟩
  have T : Touch w (w2.setCell ⟨a.sb, 2, none⟩ (.slice OA' (s.O.length + 1) ocap')) (fun i => a.OA.map (·.block) = some i ∨ i = a.sb) :=
    (T1.mono (T := fun i => a.OA.map (·.block) = some i ∨ i = a.sb) (fun i hi => Or.inl (Or.inl hi))).trans T2 (fun i hi => Or.inl (Or.inr hi))
  have hnew : ∀ i, OA'.map (·.block) = some i → a.OA.map (·.block) = some i ∨ w.heap.size ≤ i := by
    intro i hi
    rcases hloc with h | h
    · exact Or.inl (h ▸ hi)
    · rw [h] at hi
      simp at hi
      exact Or.inr (by omega)
  have hne : ∀ i, OA'.map (·.block) = some i → i ≠ a.sb := by
    intro i hi e
    subst e
    rcases hnew a.sb hi with h | h
    · exact H.ne_opn h rfl
    · have := H.lt; omega
  refine ⟨⟨a.sb, a.MA, a.mcap, OA', ocap'⟩, rfl, { blk := ?_, base := H.base, mem := ?_, opn := ?_, here := H.here, small := H.small, few := by simp; omega }, ?_, ?_⟩
  · have hb := hsb.trans H.blk
    simp [World.setCell, Array.getElem?_modify, hb]
  · exact own_touch H.mem T (fun i hi => by
      rintro (h | h)
      · exact H.ne_both hi h
      · exact H.ne_mem hi h)
  · rw [flat_snoc]
    have := own_touch ho T2 (fun i hi => hne i hi)
    simpa using this
  · exact T.mono (fun i hi => Or.inl (by rcases hi with h | h; exact Or.inr (Or.inr h); exact Or.inl h))
  · rintro i (h | h | h)
    · exact Or.inl (Or.inl h)
    · exact Or.inl (Or.inr (Or.inl h))
    · rcases hnew i h with h1 | h1
      · exact Or.inl (Or.inr (Or.inr h1))
      · exact Or.inr h1
set_option maxHeartbeats 1000000 in
set_option maxRecDepth 100000 in
theorem push_any (B : Nat) (a : At) (s : St) (w : World) (H : WvIs w B a s.M s.h s.O) (k v : Int) (hO : s.O.length < 5000) :
    Calls Try.prog 37 #[.pointer (some ⟨a.sb, 0, none⟩), .int .i64 k, .int .i64 v] w fun e w' => e = .returned (.tuple #[]) ∧ Next w B a s.M s.h (s.O ++ [(k, v)]) w' := by
  obtain ⟨i0, hi, hz0, hz1, hz2⟩ := info_parts info118
  have c2 := H.c2
  have f2 := H.f2
  go_enter Try.func37, Try.ntmps37
  go_wp2_with (at_builtin; refine wpList_append_own_at _ rfl _ _ 52 rfl B 87 i0 (.agg #[.int .i64 0, .int .i64 0]) 2 16 Try.underlying52 hi hz0 hz1 hz2 rfl (by decide) _ _ _ rfl (H.opn.alloc _) ⟨w.heap.size, 0, none⟩ 1 1 [.int .i64 k, .int .i64 v] rfl rfl ?c1 ?c2 ?c3 ?c4 ?c5 ?_)
  case c1 =>
    intro j u hj
    rw [Go.WideShapes.add_plain, World.cell?, heap_alloc_new]
    simpa using hj
  case c2 => intro u hu; simp at hu; rcases hu with rfl | rfl <;> rfl
  case c3 => unfold maxLen; omega
  case c4 => omega
  case c5 => have := H.lt; have := H.base; simp; omega
  intro v' w2 hown2 hg2 _ hloc
  obtain ⟨OA', ocap', rfl⟩ := own_slice hown2
  have hsb : w2.heap[a.sb]? = w.heap[a.sb]? := by
    rw [hg2.block a.sb (by have := H.lt; simp; omega) (fun e => by
      have h1 : a.OA.map (·.block) = some a.sb := by cases hoa : a.OA <;> simp_all [Value.ownBlock]
      exact H.ne_opn h1 rfl)]
    exact Below.heap_alloc w _ a.sb H.lt
  have d2 : w2.cell? ⟨a.sb, 2, none⟩ = _ := (World.cell?_of_block (w := w) (a := ⟨a.sb, 2, none⟩) hsb).trans c2
  have g2 : w2.frozen? ⟨a.sb, 2, none⟩ = false := (World.frozen?_of_block (w := w) (a := ⟨a.sb, 2, none⟩) hsb).trans f2
  have N := Lib.hid (push_done H hown2 hg2 hloc hsb hO)
  clear hown2 hg2 hloc hsb c2 f2
  go_wp2
  go_end0
  exact ⟨rfl, N.out⟩
end Go.Proofs.Ytndjbjhgkggeiaa.Wv
