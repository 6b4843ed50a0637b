/-
  Lemmas on the way, for every input that they name: WvB.
-/
import Derived.Laws.CopyOwn
import Derived.Deep.AppendLies
import Derived.Deep.RegionLaw
import Derived.Deep.RegionWith
import Derived.Test.YtndjbjhgkggeiaaQ01
import Derived.Test.YtndjbjhgkggeiaaQ02
set_option linter.unusedVariables false
set_option linter.unusedSimpArgs false
set_option linter.deprecated false
namespace Go.Proofs.Ytndjbjhgkggeiaa.Wv
open Go.RowKit
structure At where
  sb : Nat
  MA : Option Addr
  mcap : Nat
  OA : Option Addr
  ocap : Nat
def At.blocks (a : At) (k : Nat) : Prop := k = a.sb ∨ (a.MA.map (·.block)) = some k ∨ (a.OA.map (·.block)) = some k
def flat (O : List (Int × Int)) : List Value := O.flatMap fun p => [.int .i64 p.1, .int .i64 p.2]
theorem flat_length (O : List (Int × Int)) : (flat O).length = O.length * 2 := by
  induction O with
  | nil => rfl
  | cons p r ih => simp only [flat, List.flatMap_cons, List.length_append, List.length_cons, List.length_nil] at *; omega
theorem flat_snoc (O : List (Int × Int)) (p : Int × Int) : flat (O ++ [p]) = flat O ++ [.int .i64 p.1, .int .i64 p.2] := by simp [flat]
structure WvIs (w : World) (B : Nat) (a : At) (M : List Int) (h : Nat) (O : List (Int × Int)) : Prop where
  blk : w.heap[a.sb]? = some (.cells #[.slice a.MA M.length a.mcap, .int .i64 h, .slice a.OA O.length a.ocap] 54 (0, 0))
  base : B ≤ a.sb
  mem : w.ownsRow B 3 1 (.slice a.MA M.length a.mcap) M.length (M.map (Value.int .i64))
  opn : w.ownsRow B 87 2 (.slice a.OA O.length a.ocap) O.length (flat O)
  here : h ≤ M.length
  small : M.length ≤ 5000
  few : O.length ≤ 5000
section
variable {w w' : World} {B : Nat} {a : At} {M : List Int} {h : Nat} {O : List (Int × Int)}
theorem WvIs.c0 (H : WvIs w B a M h O) : w.cell? ⟨a.sb, 0, none⟩ = some (.slice a.MA M.length a.mcap) := by simp [World.cell?, H.blk]
theorem WvIs.c1 (H : WvIs w B a M h O) : w.cell? ⟨a.sb, 1, none⟩ = some (.int .i64 h) := by simp [World.cell?, H.blk]
theorem WvIs.c2 (H : WvIs w B a M h O) : w.cell? ⟨a.sb, 2, none⟩ = some (.slice a.OA O.length a.ocap) := by simp [World.cell?, H.blk]
theorem WvIs.f1 (H : WvIs w B a M h O) : w.frozen? ⟨a.sb, 1, none⟩ = false := by simp [World.frozen?, H.blk]
theorem WvIs.f2 (H : WvIs w B a M h O) : w.frozen? ⟨a.sb, 2, none⟩ = false := by simp [World.frozen?, H.blk]
theorem WvIs.lt (H : WvIs w B a M h O) : a.sb < w.heap.size := (Array.getElem?_eq_some_iff.1 H.blk).1
theorem WvIs.low (H : WvIs w B a M h O) {k : Nat} (hk : a.blocks k) : B ≤ k ∧ k < w.heap.size := by
  rcases hk with rfl | hk | hk
  · exact ⟨H.base, H.lt⟩
  · exact own_block H.mem hk
  · exact own_block H.opn hk
theorem WvIs.touch {S : Nat → Prop} (H : WvIs w B a M h O) (T : Touch w w' S) (hS : ∀ k, a.blocks k → ¬ S k) : WvIs w' B a M h O :=
  { blk := (T.block a.sb H.lt (hS _ (Or.inl rfl))).trans H.blk
    base := H.base
    mem := own_touch H.mem T (fun k hk => hS k (Or.inr (Or.inl hk)))
    opn := own_touch H.opn T (fun k hk => hS k (Or.inr (Or.inr hk)))
    here := H.here
    small := H.small
    few := H.few }
theorem WvIs.below {N : Nat} (H : WvIs w B a M h O) (hb : Below N w w') (hN : w.heap.size ≤ N) : WvIs w' B a M h O :=
  H.touch (S := fun _ => False) ⟨hb.os, hb.tape, hb.output, hb.size, fun k hk _ => hb.block k (by omega)⟩ (fun _ _ => id)
theorem WvIs.drewN (H : WvIs w B a M h O) (m : Nat) : WvIs (w.drewN m) B a M h O :=
  { blk := H.blk, base := H.base, mem := H.mem, opn := H.opn, here := H.here, small := H.small, few := H.few }
theorem WvIs.ne_mem (H : WvIs w B a M h O) {k : Nat} (hk : a.MA.map (·.block) = some k) : k ≠ a.sb := by
  rintro rfl
  rcases H.mem.2 with ⟨h0, _⟩ | ⟨g, cap, cur, hv, _, hh, _⟩
  · injection h0 with h0; rw [h0] at hk; cases hk
  · injection hv with hA
    rw [hA] at hk
    simp at hk
    subst hk
    rw [H.blk] at hh
    injection hh with hh
    injection hh with _ ht
    cases ht
theorem WvIs.ne_opn (H : WvIs w B a M h O) {k : Nat} (hk : a.OA.map (·.block) = some k) : k ≠ a.sb := by
  rintro rfl
  rcases H.opn.2 with ⟨h0, _⟩ | ⟨g, cap, cur, hv, _, hh, _⟩
  · injection h0 with h0; rw [h0] at hk; cases hk
  · injection hv with hA
    rw [hA] at hk
    simp at hk
    subst hk
    rw [H.blk] at hh
    injection hh with hh
    injection hh with _ ht
    cases ht
theorem WvIs.ne_both (H : WvIs w B a M h O) {k : Nat} (hk : a.MA.map (·.block) = some k) : a.OA.map (·.block) ≠ some k := by
  intro hk2
  rcases H.mem.2 with ⟨h0, _⟩ | ⟨g, cap, cur, hv, _, hh, _⟩
  · injection h0 with h0; rw [h0] at hk; cases hk
  · rcases H.opn.2 with ⟨h0, _⟩ | ⟨g', cap', cur', hv', _, hh', _⟩
    · injection h0 with h0; rw [h0] at hk2; cases hk2
    · injection hv with hA
      injection hv' with hA'
      rw [hA] at hk
      rw [hA'] at hk2
      simp at hk hk2
      subst hk
      subst hk2
      rw [hh] at hh'
      injection hh' with hh'
      injection hh' with _ ht
      cases ht
end
def Next (w : World) (B : Nat) (a : At) (M : List Int) (h : Nat) (O : List (Int × Int)) (w' : World) : Prop :=
  ∃ a' : At, a'.sb = a.sb ∧ WvIs w' B a' M h O ∧ Touch w w' a.blocks ∧ ∀ k, a'.blocks k → a.blocks k ∨ w.heap.size ≤ k
theorem here_any (B : Nat) (a : At) (M : List Int) (h : Nat) (O : List (Int × Int)) (w : World) (H : WvIs w B a M h O) :
    Calls Try.prog 19 #[.pointer (some ⟨a.sb, 0, none⟩)] w fun e w' => e = .returned (.int .i64 h) ∧ w = w' := by
  have c1 := H.c1
  go_enter Try.func19, Try.ntmps19
  go_wp2
  go_ret
  exact ⟨rfl, rfl⟩
theorem open_any (B : Nat) (a : At) (M : List Int) (h : Nat) (O : List (Int × Int)) (w : World) (H : WvIs w B a M h O) :
    Calls Try.prog 20 #[.pointer (some ⟨a.sb, 0, none⟩)] w fun e w' => e = .returned (.int .i64 O.length) ∧ w = w' := by
  have c2 := H.c2
  go_enter Try.func20, Try.ntmps20
  go_wp2
  go_ret
  exact ⟨rfl, rfl⟩
theorem here_nil (w : World) : Calls Try.prog 19 #[.pointer none] w fun e w' => e = .returned (.int .i64 0) ∧ w = w' := by
  go_enter Try.func19, Try.ntmps19
  go_wp2
  go_ret
  exact ⟨rfl, rfl⟩
theorem open_nil (w : World) : Calls Try.prog 20 #[.pointer none] w fun e w' => e = .returned (.int .i64 0) ∧ w = w' := by
  go_enter Try.func20, Try.ntmps20
  go_wp2
  go_ret
  exact ⟨rfl, rfl⟩
theorem own_slice {w : World} {B e sz n : Nat} {v : Value} {xs : List Value} (h : w.ownsRow B e sz v n xs) : ∃ A cap, v = .slice A n cap := by
  rcases h.2 with ⟨rfl, rfl⟩ | ⟨g, cap, cur, hv, _⟩
  · exact ⟨_, _, rfl⟩
  · exact ⟨_, _, hv⟩
theorem clone_own (B : Nat) (A : Option Addr) (cap : Nat) (M : List Int) (w : World) (H : w.ownsRow B 3 1 (.slice A M.length cap) M.length (M.map (Value.int .i64))) (hs : M.length ≤ 5000) :
    Calls Try.prog 24 #[.slice A M.length cap] w fun e w' => ∃ A' cap', e = .returned (.slice A' M.length cap') ∧ w'.ownsRow w.heap.size 3 1 (.slice A' M.length cap') M.length (M.map (Value.int .i64)) ∧ Below w.heap.size w w' := by
  rcases Nat.eq_zero_or_pos M.length with h0 | h0
  · have hM : M = [] := List.eq_nil_of_length_eq_zero h0
    subst hM
    cases A with
    | none =>
      refine (Try.slices_Clone_int_nil _ _ w).mono ?_
      rintro e w' ⟨rfl, rfl⟩
      exact ⟨none, 0, rfl, World.ownsRow_nil _ _ _ _, Below.refl _ _⟩
    | some ad =>
      refine (Try.slices_Clone_int_zero ad cap w).mono ?_
      rintro e w' ⟨v', rfl, ho, _, hb⟩
      obtain ⟨A', cap', rfl⟩ := own_slice ho
      exact ⟨A', cap', rfl, ho, hb⟩
  · obtain ⟨g, cap', hA, _, _⟩ := World.ownsRow.form H h0
    injection hA with hA
    subst hA
    have hc : ∀ j, j < M.length → w.cell? ⟨g, 0 + j, none⟩ = some (.int .i64 (M.getD j 0)) := by
      intro j hj
      have := H.cells (g := g) rfl j (.int .i64 (M.getD j 0)) (by simp [hj])
      rw [Go.WideShapes.add_plain] at this
      exact this
    refine (Try.slices_Clone_int g 0 M.length cap M w (Nat.le_refl _) (by omega) hc).mono ?_
    rintro e w' ⟨v', rfl, ho, _, hb⟩
    rw [List.take_length] at ho
    obtain ⟨A', cap'', rfl⟩ := own_slice ho
    exact ⟨A', cap'', rfl, ho, hb⟩
theorem mem_any (B : Nat) (a : At) (M : List Int) (h : Nat) (O : List (Int × Int)) (w : World) (H : WvIs w B a M h O) :
    Calls Try.prog 16 #[.pointer (some ⟨a.sb, 0, none⟩)] w fun e w' => ∃ A' cap', e = .returned (.slice A' M.length cap') ∧ w'.ownsRow w.heap.size 3 1 (.slice A' M.length cap') M.length (M.map (Value.int .i64)) ∧ Below w.heap.size w w' := by
  have c0 := H.c0
  go_enter Try.func16, Try.ntmps16
  go_wp2_with fail
  refine (clone_own B a.MA a.mcap M _ H.mem H.small).mono ?_
  rintro e w' ⟨A', cap', rfl, ho, hb⟩
  go_wp2_with fail
  go_ret
  exact ⟨A', cap', rfl, ho, hb⟩
theorem infoInt : (Try.prog.info? 3).map (·.size) = some 1 := by kernel_rfl
def lay (M : List Int) (h : Nat) (L : List Int) : List Int := M.take h ++ (L ++ M.drop (h + L.length))
theorem lay_length (M : List Int) (h : Nat) (L : List Int) (hh : h + L.length ≤ M.length) : (lay M h L).length = M.length := by
  unfold lay
  simp
  omega
set_option maxHeartbeats 1000000 in
set_option maxRecDepth 100000 in
theorem lay_full (B : Nat) (a : At) (M : List Int) (h : Nat) (O : List (Int × Int)) (w : World) (H : WvIs w B a M h O) (LA : Option Addr) (m c : Nat) (hm : m ≤ 5000) (hroom : M.length < h + m) :
    Calls Try.prog 27 #[.pointer (some ⟨a.sb, 0, none⟩), .slice LA m c] w fun e w' => e = .returned (.int .i64 (-8)) ∧ ∃ q, w' = w.drewN q := by
  have c0 := H.c0
  have c1 := H.c1
  have hh := H.here
  have hs := H.small
  go_enter Try.func27, Try.ntmps27
  go_wp2
  go_quiet (fail)
  go_wp2
  go_ret
  exact ⟨rfl, _, rfl⟩
theorem touch_setRow (w : World) (g : Nat) (cs : Array Value) : Touch w (w.setRow g cs) (fun k => k = g) :=
  ⟨rfl, rfl, rfl, by simp [World.setRow], fun k _ hne => by
    simp only [World.setRow, Array.getElem?_modify]
    rw [if_neg (fun e => hne e.symm)]⟩
theorem touch_cell {w w' : World} {S : Nat → Prop} (T : Touch w w' S) {p : Addr} {v : Value} (h : w.cell? p = some v) (hn : ¬ S p.block) : w'.cell? p = some v :=
  (World.cell?_of_block (T.block p.block (World.block_lt_of_cell? w p h) hn)).trans h
theorem step_copy_row {P : Program} {ops : Array Oper} {o : Oper} {a : Act} {w : World} {K : Act → World → Prop} {Q : Exit → Act → World → Prop} {E : Prop} (hgd : o.guard = none) (d s : Operand) (dT sT : TypeId)
    (ho : o.op = .call { callee := .builtin .copy, args := #[d, s], argTypes := #[dT, sT] }) (elem : TypeId) (hu : P.underlying dT = some (.slice elem)) (hsz : (P.info? elem).map (·.size) = some 1)
    (g off dLen dCap : Nat) (ad : Addr) (sLen sCap : Nat) (hd : a.eval d = .slice (some ⟨g, off, none⟩) dLen dCap) (hs : a.eval s = .slice (some ad) sLen sCap)
    (cur : Array Value) (t : TypeId) (hg : w.heap[g]? = some (.cells cur t (0, 0))) (cs : List Value) (hn : cs.length = Nat.min sLen dLen)
    (hsrc : ∀ j v, cs[j]? = some v → w.cell? (ad.add j) = some v) (hfit : off + cs.length ≤ cur.size) (h1 : ∀ v ∈ cs, v.oneCell' = true)
    (sb : Nat) (hne : sb ≠ g) (v0 v1 : Value) (c0 : w.cell? ⟨sb, 0, none⟩ = some v0) (c1 : w.cell? ⟨sb, 1, none⟩ = some v1) (f1 : w.frozen? ⟨sb, 1, none⟩ = false)
    (h : ∀ w', w'.cell? ⟨sb, 0, none⟩ = some v0 → w'.cell? ⟨sb, 1, none⟩ = some v1 → w'.frozen? ⟨sb, 1, none⟩ = false →
      Hid (w'.heap[g]? = some (.cells (cur.toList.take off ++ cs ++ cur.toList.drop (off + cs.length)).toArray t (0, 0)) ∧ Touch w w' (fun k => k = g)) → K (a.put o.dst (goInt cs.length)) w') :
    if Region.wanted o (yielded ops a.tmps) = true then Oper.wp P o a w K Q else E := by
  have hw : Region.wanted o (yielded ops a.tmps) = true := by simp [Region.wanted, hgd]
  rw [if_pos hw]
  have hrun := run_copy_row (P := P) w dT sT o.type elem g off dLen dCap ad sLen sCap cur t cs hu hsz hg hn hsrc hfit h1
  unfold Oper.wp
  simp [execOp, ho, resolve, invoke, builtin, hd, hs, hrun, Result.andThen]
  have T := touch_setRow w g (cur.toList.take off ++ cs ++ cur.toList.drop (off + cs.length)).toArray
  have hlt : sb < w.heap.size := World.block_lt_of_cell? w _ c1
  exact h _ (by simpa using touch_cell T c0 hne) (by simpa using touch_cell T c1 hne) (by simpa using (World.frozen?_of_block (w := w) (a := ⟨sb, 1, none⟩) (T.block sb hlt hne)).trans f1) ⟨by simpa using setRow_heap w g cur (cur.toList.take off ++ cs ++ cur.toList.drop (off + cs.length)).toArray t (0, 0) hg, by simpa using T⟩
theorem lay_done {w w2 : World} {B : Nat} {a : At} {M : List Int} {h : Nat} {O : List (Int × Int)} {g : Nat} {cur : Array Value} {L : List Int} {v : Int} (H : WvIs w B a M h O) (hA : a.MA = some ⟨g, 0, none⟩)
    (hcur : w.heap[g]? = some (.cells cur 3 (0, 0))) (hcz : cur.size = a.mcap * 1) (htk : cur.toList.take (M.length * 1) = M.map (Value.int .i64)) (hroom : h + L.length ≤ M.length)
    (Hw : w2.heap[g]? = some (.cells (cur.toList.take (0 + h) ++ L.map (Value.int .i64) ++ cur.toList.drop (0 + h + (L.map (Value.int .i64)).length)).toArray 3 (0, 0)) ∧ Touch w.drew w2 (fun k => k = g)) (hv : v = (h : Int) + (L.length : Int)) :
    WvIs (w2.setCell ⟨a.sb, 1, none⟩ (.int .i64 v)) B a (lay M h L) (h + L.length) O ∧ Touch w (w2.setCell ⟨a.sb, 1, none⟩ (.int .i64 v)) a.blocks := by
  obtain ⟨hg2, T0⟩ := Hw
  have hne : a.sb ≠ g := fun e => H.ne_mem (k := g) (by rw [hA]; rfl) e.symm
  have T1 : Touch w w2 (fun k => k = g) := ⟨T0.os, T0.tape, T0.output, T0.size, T0.block⟩
  have T2 : Touch w2 (w2.setCell ⟨a.sb, 1, none⟩ (.int .i64 v)) (fun k => k = a.sb) :=
    ⟨rfl, rfl, rfl, by simp [World.setCell], fun k _ hk => Below.heap_setCell w2 ⟨a.sb, 1, none⟩ _ k hk⟩
  have T : Touch w (w2.setCell ⟨a.sb, 1, none⟩ (.int .i64 v)) (fun k => k = g ∨ k = a.sb) :=
    (T1.mono (T := fun k => k = g ∨ k = a.sb) (fun i hi => Or.inl (Or.inl hi))).trans T2 (fun i hi => Or.inl (Or.inr hi))
  have hll := lay_length M h L hroom
  have hcs : a.mcap = cur.toList.length := by simp; omega
  have hgb : (w2.setCell ⟨a.sb, 1, none⟩ (.int .i64 v)).heap[g]? = some (.cells (cur.toList.take (0 + h) ++ L.map (Value.int .i64) ++ cur.toList.drop (0 + h + (L.map (Value.int .i64)).length)).toArray 3 (0, 0)) := by
    rw [Below.heap_setCell w2 ⟨a.sb, 1, none⟩ _ g (fun e => hne e.symm)]
    exact hg2
  have hmcap : M.length ≤ a.mcap ∧ a.mcap ≤ maxLen ∧ B ≤ g := by
    rcases H.mem.2 with ⟨h0, _⟩ | ⟨g', cap, cur', hv', hb', _, hnc, hcm, _⟩
    · injection h0 with h0; rw [hA] at h0; cases h0
    · injection hv' with h1 _ h2
      rw [hA] at h1
      injection h1 with h1
      injection h1 with h1
      subst h1
      rw [← h2] at hnc hcm
      exact ⟨hnc, hcm, hb'⟩
  have htake : (cur.toList.take (0 + h) ++ L.map (Value.int .i64) ++ cur.toList.drop (0 + h + (L.map (Value.int .i64)).length)).take (M.length * 1) = (lay M h L).map (Value.int .i64) := by
    have hcl : M.length ≤ cur.toList.length := by omega
    rw [Nat.mul_one] at htk ⊢
    have e1 : cur.toList = M.map (Value.int .i64) ++ cur.toList.drop M.length := by rw [← htk, List.take_append_drop]
    have e2 : cur.toList.take (0 + h) = (M.take h).map (Value.int .i64) := by
      rw [Nat.zero_add, e1, List.take_append_of_le_length (by simp; exact H.here), List.map_take]
    have e3 : cur.toList.drop (0 + h + (L.map (Value.int .i64)).length) = (M.drop (h + L.length)).map (Value.int .i64) ++ cur.toList.drop M.length := by
      conv => lhs; rw [e1]
      rw [List.length_map, Nat.zero_add, List.drop_append_of_le_length (by simp; omega), List.map_drop]
    rw [e2, e3, ← List.append_assoc]
    have e4 : ((M.take h).map (Value.int .i64) ++ L.map (Value.int .i64) ++ (M.drop (h + L.length)).map (Value.int .i64)) = (lay M h L).map (Value.int .i64) := by
      unfold lay
      simp
    rw [e4, List.take_append_of_le_length (by simp [hll]), List.take_of_length_le (by simp [hll])]
  refine ⟨{ blk := ?_, base := H.base, mem := ?_, opn := ?_, here := by omega, small := by rw [hll]; exact H.small, few := H.few }, ?_⟩
  · have hb : w2.heap[a.sb]? = some (.cells #[.slice a.MA M.length a.mcap, .int .i64 h, .slice a.OA O.length a.ocap] 54 (0, 0)) := (T1.block a.sb H.lt hne).trans H.blk
    have hv2 : v = ((h + L.length : Nat) : Int) := by omega
    subst hv2
    rw [hll]
    simp [World.setCell, Array.getElem?_modify, hb]
  · rw [hll]
    refine ⟨by simp [hll], Or.inr ⟨g, a.mcap, _, by rw [hA], hmcap.2.2, hgb, hmcap.1, hmcap.2.1, ?_, htake⟩⟩
    simp
    omega
  · exact own_touch H.opn T (fun k hk => by
      rintro (rfl | rfl)
      · exact H.ne_both (k := k) (by rw [hA]; rfl) hk
      · exact H.ne_opn hk rfl)
  · refine T.mono (fun i hi => Or.inl ?_)
    rcases hi with rfl | rfl
    · exact Or.inr (Or.inl (by rw [hA]; rfl))
    · exact Or.inl rfl
set_option maxHeartbeats 1000000 in
set_option maxRecDepth 100000 in
theorem lay_room (B : Nat) (a : At) (M : List Int) (h : Nat) (O : List (Int × Int)) (w : World) (H : WvIs w B a M h O) (lb : Nat) (L : List Int) (c : Nat)
    (hL : ∀ j v, (L.map (Value.int .i64))[j]? = some v → w.cell? ((⟨lb, 0, none⟩ : Addr).add j) = some v) (hpos : 0 < L.length) (hroom : h + L.length ≤ M.length) :
    Calls Try.prog 27 #[.pointer (some ⟨a.sb, 0, none⟩), .slice (some ⟨lb, 0, none⟩) L.length c] w fun e w' => e = .returned (.int .i64 0) ∧ WvIs w' B a (lay M h L) (h + L.length) O ∧ Touch w w' a.blocks := by
  obtain ⟨g, cap', hA, hBg, hgl⟩ := World.ownsRow.form H.mem (by omega)
  obtain ⟨hA, hcap⟩ : a.MA = some ⟨g, 0, none⟩ ∧ a.mcap = cap' := by injection hA with h1 _ h2; exact ⟨h1, h2⟩
  have hne : a.sb ≠ g := fun e => H.ne_mem (k := g) (by rw [hA]; rfl) e.symm
  obtain ⟨cur, hcur, hnc, hcz, htk⟩ : ∃ cur, w.heap[g]? = some (.cells cur 3 (0, 0)) ∧ M.length ≤ a.mcap ∧ cur.size = a.mcap * 1 ∧ cur.toList.take (M.length * 1) = M.map (Value.int .i64) := by
    rcases H.mem.2 with ⟨_, h0⟩ | ⟨g', cap'', cur, hv, _, hh, hnc, _, hsz, htk⟩
    · omega
    · injection hv with h1 _ h2
      rw [hA] at h1
      injection h1 with h1
      injection h1 with h1
      subst h1
      exact ⟨cur, hh, by omega, by rw [h2]; exact hsz, htk⟩
  clear hcap
  have c0 := H.c0
  rw [hA] at c0
  have c1 := H.c1
  have f1 := H.f1
  have hh := H.here
  have hs := H.small
  have hcapne : ¬ a.mcap = h := by omega
  go_enter Try.func27, Try.ntmps27
  go_wp2
  go_quiet (fail)
  go_wp2
  have HH := Lib.hid (H.drewN nq)
  have hL' : ∀ j v, (L.map (Value.int .i64))[j]? = some v → (w.drewN nq).cell? ((⟨lb, 0, none⟩ : Addr).add j) = some v := hL
  have hcur' : (w.drewN nq).heap[g]? = some (.cells cur 3 (0, 0)) := hcur
  have hT : ∀ w', Touch (w.drewN nq) w' a.blocks → Touch w w' a.blocks := fun w' T => T.drewN' nq
  have HT := Lib.hid hT
  have d0 : (w.drewN nq).cell? ⟨a.sb, 0, none⟩ = _ := c0
  have d1 : (w.drewN nq).cell? ⟨a.sb, 1, none⟩ = _ := c1
  have e1 : (w.drewN nq).frozen? ⟨a.sb, 1, none⟩ = _ := f1
  clear hL hcur hT c0 c1 f1
  generalize w.drewN nq = w1 at *
  have hwr : Hid (IntKind.i64.wrap ((h : Int) + (L.length : Int)) = (h : Int) + (L.length : Int)) := IntWalk.i64_in _ (by omega)
  go_region_law (refine step_copy_row rfl (.tmp 30) (.tmp 31) 22 22 rfl 3 Try.underlying22 infoInt g (0 + h) (M.length - h) (a.mcap - h) ⟨lb, 0, none⟩ L.length c (by simp [Act.eval, Act.put]) (by simp [Act.eval, Act.put]) cur 3 hcur' (L.map (Value.int .i64)) (by rw [List.length_map]; exact (Nat.min_eq_left (by omega)).symm) hL' (by simp; omega) (by intro v hv; simp at hv; obtain ⟨x, _, rfl⟩ := hv; rfl) a.sb hne _ _ d0 d1 e1 ?_; intro w2 d0' d1' e1' Hw)
  all_goals
    go_wp2
    go_ret
    rw [hwr.out]
    obtain ⟨r1, r2⟩ := lay_done HH.out hA hcur' hcz htk hroom Hw.out rfl
    exact ⟨rfl, r1, HT.out _ r2⟩
end Go.Proofs.Ytndjbjhgkggeiaa.Wv
