/-
  Lemmas on the way, for every input that they name: WvE.
-/
import Derived.StillTailTactics
import Derived.Test.YtndjbjhgkggeiaaQ06
set_option linter.unusedVariables false
set_option linter.unusedSimpArgs false
set_option linter.deprecated false
namespace Go.Proofs.Ytndjbjhgkggeiaa.Wv
open Go.RowKit
def Laid (w : World) (B : Nat) (a : At) (r : Int × St) (e : Ending) (w' : World) : Prop :=
  e = .returned (.int .i64 r.1) ∧ WvIs w' B a r.2.M r.2.h r.2.O ∧ Touch w w' a.blocks
theorem lay_same (B : Nat) (a : At) (s : St) (w : World) (H : WvIs w B a s.M s.h s.O) (L : List Int) (hpos : 0 < L.length) (hL : L.length ≤ 10) (c : Nat) :
    Calls Try.prog 27 #[.pointer (some ⟨a.sb, 0, none⟩), .slice (some ⟨w.heap.size, 0, none⟩) L.length c] (w.alloc (.cells (L.map (Value.int .i64)).toArray 3)) (Laid w B a (layR s L)) := by
  have H1 := H.alloc (.cells (L.map (Value.int .i64)).toArray 3)
  have T1 := alloc_touch w (.cells (L.map (Value.int .i64)).toArray 3) a.blocks
  have hc : ∀ j v, (L.map (Value.int .i64))[j]? = some v → (w.alloc (.cells (L.map (Value.int .i64)).toArray 3)).cell? ((⟨w.heap.size, 0, none⟩ : Addr).add j) = some v := by
    intro j v hj
    rw [Go.WideShapes.add_plain, World.cell?, heap_alloc_new]
    simpa using hj
  unfold Laid layR
  split
  · rename_i hr
    refine (lay_room B a s.M s.h s.O _ H1 w.heap.size L c hc hpos hr).mono ?_
    rintro e w' ⟨rfl, H2, T2⟩
    exact ⟨rfl, H2, T1.trans T2 (fun _ h => Or.inl h)⟩
  · rename_i hr
    refine (lay_full B a s.M s.h s.O _ H1 _ L.length c (by omega) (by omega)).mono ?_
    rintro e w' ⟨rfl, q, rfl⟩
    exact ⟨rfl, H1.drewN q, T1.drewN q⟩
theorem lay1s (B : Nat) (a : At) (s : St) (w : World) (H : WvIs w B a s.M s.h s.O) (o : Int) (c : Nat) :
    Calls Try.prog 27 #[.pointer (some ⟨a.sb, 0, none⟩), .slice (some ⟨w.heap.size, 0, none⟩) 1 c] (w.alloc (.cells #[.int .i64 o] 3)) (Laid w B a (layR s [o])) :=
  lay_same B a s w H [o] (by simp) (by simp) c
theorem lay2s (B : Nat) (a : At) (s : St) (w : World) (H : WvIs w B a s.M s.h s.O) (o v : Int) (c : Nat) :
    Calls Try.prog 27 #[.pointer (some ⟨a.sb, 0, none⟩), .slice (some ⟨w.heap.size, 0, none⟩) 2 c] (w.alloc (.cells #[.int .i64 o, .int .i64 v] 3)) (Laid w B a (layR s [o, v])) :=
  lay_same B a s w H [o, v] (by simp) (by simp) c
theorem layR_yes {s : St} {L : List Int} (h : s.h + L.length ≤ s.M.length) : layR s L = (0, ⟨lay s.M s.h L, s.h + L.length, s.O⟩) := by unfold layR; rw [if_pos h]
theorem layR_no {s : St} {L : List Int} (h : ¬ s.h + L.length ≤ s.M.length) : layR s L = (-8, s) := by unfold layR; rw [if_neg h]
theorem set_done {w : World} {B : Nat} {a : At} {M : List Int} {h : Nat} {O : List (Int × Int)} {g : Nat} (H : WvIs w B a M h O) (hA : a.MA = some ⟨g, 0, none⟩) (i : Nat) (v : Int) :
    WvIs (w.setCell ⟨g, i, none⟩ (.int .i64 v)) B a (M.set i v) h O ∧ Touch w (w.setCell ⟨g, i, none⟩ (.int .i64 v)) a.blocks := by
  have T : Touch w (w.setCell ⟨g, i, none⟩ (.int .i64 v)) (fun k => k = g) := ⟨rfl, rfl, rfl, by simp [World.setCell], fun k _ hk => Below.heap_setCell w ⟨g, i, none⟩ _ k hk⟩
  have hg : a.MA.map (·.block) = some g := by rw [hA]; rfl
  have hm := H.mem
  rw [hA] at hm
  refine ⟨{ blk := ?_, base := H.base, mem := ?_, opn := ?_, here := by simpa using H.here, small := by simpa using H.small, few := H.few }, T.mono (fun k hk => Or.inl (by subst hk; exact Or.inr (Or.inl hg)))⟩
  · rw [List.length_set]
    exact (T.block a.sb H.lt (fun e => H.ne_mem hg e.symm)).trans H.blk
  · rw [hA, List.length_set, List.map_set]
    exact (hm.stored i (.int .i64 v)).1
  · exact own_touch H.opn T (fun k hk => by rintro rfl; exact H.ne_both hg hk)
def forwardR (s : St) (o k : Int) : Int × St :=
  if s.h + 2 ≤ s.M.length then (0, ⟨lay s.M s.h [o, 0], s.h + 2, s.O ++ [(k, (s.h : Int) + 1)]⟩) else (-8, s)
set_option maxHeartbeats 1000000 in
theorem forward_any (B : Nat) (a : At) (s : St) (w : World) (H : WvIs w B a s.M s.h s.O) (o k : Int) (hO : s.O.length < 5000) :
    Calls Try.prog 34 #[.pointer (some ⟨a.sb, 0, none⟩), .int .i64 o, .int .i64 k] w (Did w B a (forwardR s o k)) := by
  unfold forwardR
  have hl := lay2s B a s w H o 0 2
  have hs := H.small
  by_cases hr : s.h + 2 ≤ s.M.length
  · rw [if_pos hr]
    rw [layR_yes (by simpa using hr)] at hl
    have HL := Lib.hid hl
    clear hl
    go_enter Try.func34, Try.ntmps34
    go_wp2_with fail
    refine HL.out.mono ?_
    rintro e w1 ⟨rfl, H1, T1⟩
    have c1 := H1.c1
    simp only [List.length_cons, List.length_nil, Nat.zero_add] at c1 H1
    have HP := Lib.hid (push_any B a ⟨lay s.M s.h [o, 0], s.h + 2, s.O⟩ w1 H1 k ((s.h : Int) + 2 - 1) hO)
    have HT := Lib.hid T1
    clear H1 T1
    go_wp2_with fail
    refine HP.out.mono ?_
    rintro e w2 ⟨rfl, N⟩
    rw [show (s.h : Int) + 2 - 1 = (s.h : Int) + 1 by omega] at N
    have HN : Hid (Did w B a (0, ⟨lay s.M s.h [o, 0], s.h + 2, s.O ++ [(k, (s.h : Int) + 1)]⟩) (.returned (.int .i64 0)) w2) := ⟨rfl, Next.trans rfl HT.out (fun _ h => Or.inl h) N⟩
    clear N
    go_wp2_with fail
    go_ret
    exact HN.out
  · rw [if_neg hr]
    rw [layR_no (by simpa using hr)] at hl
    have HL := Lib.hid hl
    clear hl
    go_enter Try.func34, Try.ntmps34
    go_wp2_with fail
    refine HL.out.mono ?_
    rintro e w1 ⟨rfl, H1, T1⟩
    have N : Hid (Did w B a (-8, s) (.returned (.int .i64 (-8))) w1) := ⟨rfl, Next.same H1 T1⟩
    go_wp2_with fail
    go_ret
    exact N.out
def doR (s : St) : Int × St :=
  if s.h + 1 ≤ s.M.length then (0, ⟨lay s.M s.h [36], s.h + 1, s.O ++ [(5, (s.h : Int) + 1)]⟩) else (-8, s)
set_option maxHeartbeats 1000000 in
theorem do_any (B : Nat) (a : At) (s : St) (w : World) (H : WvIs w B a s.M s.h s.O) (hO : s.O.length < 5000) :
    Calls Try.prog 40 #[.pointer (some ⟨a.sb, 0, none⟩)] w (Did w B a (doR s)) := by
  unfold doR
  have hl := lay1s B a s w H 36 1
  have hs := H.small
  by_cases hr : s.h + 1 ≤ s.M.length
  · rw [if_pos hr]
    rw [layR_yes (by simpa using hr)] at hl
    have HL := Lib.hid hl
    clear hl
    go_enter Try.func40, Try.ntmps40
    go_wp2_with fail
    refine HL.out.mono ?_
    rintro e w1 ⟨rfl, H1, T1⟩
    have c1 := H1.c1
    simp only [List.length_cons, List.length_nil, Nat.zero_add] at c1 H1
    have HP := Lib.hid (push_any B a ⟨lay s.M s.h [36], s.h + 1, s.O⟩ w1 H1 5 ((s.h : Int) + 1) hO)
    have HT := Lib.hid T1
    clear H1 T1
    go_wp2_with fail
    refine HP.out.mono ?_
    rintro e w2 ⟨rfl, N⟩
    have HN : Hid (Did w B a (0, ⟨lay s.M s.h [36], s.h + 1, s.O ++ [(5, (s.h : Int) + 1)]⟩) (.returned (.int .i64 0)) w2) := ⟨rfl, Next.trans rfl HT.out (fun _ h => Or.inl h) N⟩
    clear N
    go_wp2_with fail
    go_ret
    exact HN.out
  · rw [if_neg hr]
    rw [layR_no (by simpa using hr)] at hl
    have HL := Lib.hid hl
    clear hl
    go_enter Try.func40, Try.ntmps40
    go_wp2_with fail
    refine HL.out.mono ?_
    rintro e w1 ⟨rfl, H1, T1⟩
    have N : Hid (Did w B a (-8, s) (.returned (.int .i64 (-8))) w1) := ⟨rfl, Next.same H1 T1⟩
    go_wp2_with fail
    go_ret
    exact N.out
def backwardR (s : St) (O : List (Int × Int)) (p : Int × Int) (o : Int) : Int × St :=
  if s.h + 2 ≤ s.M.length then (0, ⟨lay s.M s.h [o, p.2], s.h + 2, O⟩) else (-8, s)
theorem flat_get2 (O : List (Int × Int)) (n : Nat) (hn : n < O.length) : (flat O)[n * 2 + 1]? = some (.int .i64 (O.getD n (0, 0)).2) := by
  induction O generalizing n with
  | nil => simp at hn
  | cons p r ih =>
    cases n with
    | zero => simp [flat]
    | succ n =>
      have h1 : flat (p :: r) = .int .i64 p.1 :: .int .i64 p.2 :: flat r := by simp [flat]
      rw [h1, show (n + 1) * 2 + 1 = (n * 2 + 1) + 1 + 1 by omega, List.getElem?_cons_succ, List.getElem?_cons_succ, ih n (by simpa using hn)]
      simp
theorem last_cell {w : World} {B : Nat} {a : At} {M : List Int} {h : Nat} {O : List (Int × Int)} (H : WvIs w B a M h O) (n : Nat) (hn : n < O.length) :
    ∃ g, a.OA = some ⟨g, 0, none⟩ ∧ w.cell? ⟨g, n * 2, none⟩ = some (.int .i64 (O.getD n (0, 0)).1) ∧ w.cell? ⟨g, n * 2 + 1, none⟩ = some (.int .i64 (O.getD n (0, 0)).2) := by
  obtain ⟨g, cap, hA, _⟩ := World.ownsRow.form H.opn (by omega)
  injection hA with hA _ _
  have ho := H.opn
  rw [hA] at ho
  refine ⟨g, hA, ?_, ?_⟩
  · rw [ho.cellAt (n * 2) (by omega), flat_get O n hn]
  · rw [ho.cellAt (n * 2 + 1) (by omega), flat_get2 O n hn]
set_option maxHeartbeats 1000000 in
set_option maxRecDepth 100000 in
theorem backward_any (B : Nat) (a : At) (M : List Int) (h : Nat) (O : List (Int × Int)) (p : Int × Int) (w : World) (H : WvIs w B a M h (O ++ [p])) (o : Int) :
    Calls Try.prog 38 #[.pointer (some ⟨a.sb, 0, none⟩), .int .i64 o] w (Did w B a (backwardR ⟨M, h, O ++ [p]⟩ O p o)) := by
  obtain ⟨g, hA, _, hc⟩ := last_cell H O.length (by simp)
  have hp : ((O ++ [p]).getD O.length (0, 0)).2 = p.2 := by simp
  rw [hp] at hc
  clear hp
  have c2 := H.c2
  rw [hA, show (O ++ [p]).length = O.length + 1 by simp] at c2
  have hO : O.length < 5000 := by have := H.few; simp at this; omega
  have hs := H.small
  have hwr : IntKind.i64.wrap (O.length : Int) = (O.length : Int) := IntWalk.i64_in _ (by omega)
  have hi2 : ((0 : Int) ≤ (O.length : Int)) := by omega
  have hi3 : ((O.length : Int) < (O.length : Int) + 1) := by omega
  have HL := Lib.hid (lay2s B a ⟨M, h, O ++ [p]⟩ w.drew (H.drewN 1) o p.2 2)
  go_enter Try.func38, Try.ntmps38
  go_upto_region 1 with fail
  go_cut [5] (fun s5 wc => s5 = .int .i64 (layR ⟨M, h, O ++ [p]⟩ [o, p.2]).1 ∧ WvIs wc B a (layR ⟨M, h, O ++ [p]⟩ [o, p.2]).2.M (layR ⟨M, h, O ++ [p]⟩ [o, p.2]).2.h (layR ⟨M, h, O ++ [p]⟩ [o, p.2]).2.O ∧ Touch w wc a.blocks)
  case first =>
    go_region_with ((go_at_call 27; refine HL.out.mono ?_; rintro e w1 ⟨rfl, H1, T1⟩))
    all_goals
      go_wp2_with fail
      go_meet
      exact ⟨rfl, H1, T1.drewN' 1⟩
  case rest =>
    obtain ⟨rfl, H1, T1⟩ := hcut
    clear HL c2 hc hwr hi2 hi3
    by_cases hr : h + 2 ≤ M.length
    · rw [layR_yes (s := ⟨M, h, O ++ [p]⟩) (by simpa using hr)] at H1 ⊢
      have hp1 := pop_exact B a _ _ O p wc H1
      have hp2 := pop_done H1
      rw [hA] at hp1 hp2
      have HP := Lib.hid hp1
      have HD := Lib.hid hp2
      clear hp1 hp2
      go_wp2_with fail
      refine HP.out.mono ?_
      rintro e w2 ⟨rfl, rfl⟩
      have HN : Hid (Did w B a (backwardR ⟨M, h, O ++ [p]⟩ O p o) (.returned (.int .i64 0)) (wc.setCell ⟨a.sb, 2, none⟩ (.slice (some ⟨g, 0, none⟩) O.length a.ocap))) := by
        unfold backwardR
        rw [if_pos hr]
        exact ⟨rfl, Next.same HD.out.1 (T1.trans HD.out.2 (fun _ h => Or.inl h))⟩
      go_wp2_with fail
      go_ret
      exact HN.out
    · rw [layR_no (s := ⟨M, h, O ++ [p]⟩) (by simpa using hr)] at H1 ⊢
      have N : Hid (Did w B a (backwardR ⟨M, h, O ++ [p]⟩ O p o) (.returned (.int .i64 (-8))) wc) := by
        unfold backwardR
        rw [if_neg hr]
        exact ⟨rfl, Next.same H1 T1⟩
      go_wp2_with fail
      go_ret
      exact N.out
end Go.Proofs.Ytndjbjhgkggeiaa.Wv
