/-
  Lemmas on the way, for every input that they name: WvE, WvF, WvG, WvH, WvI, OuA.
-/
import Derived.StillTailTactics
import Derived.Test.YtompdfpjmdnhoabGreatDoorQ00
import Derived.Test.YtompdfpjmdnhoabGreatDoorQ01
import Derived.Test.YtompdfpjmdnhoabGreatDoorQ05
set_option linter.unusedVariables false
set_option linter.unusedSimpArgs false
set_option linter.deprecated false
namespace Go.Proofs.YtompdfpjmdnhoabGreatDoor.Wv
open Go.RowKit
def Laid (w : World) (B : Nat) (a : At) (r : Int × St) (e : Ending) (w' : World) : Prop :=
  e = .returned (.int .i64 r.1) ∧ WvIs w' B a r.2.M r.2.h r.2.O ∧ Touch w w' a.blocks
theorem lay_same (B : Nat) (a : At) (s : St) (w : World) (H : WvIs w B a s.M s.h s.O) (L : List Int) (hpos : 0 < L.length) (hL : L.length ≤ 10) (c : Nat) :
    Calls Tryz.prog 74 #[.pointer (some ⟨a.sb, 0, none⟩), .slice (some ⟨w.heap.size, 0, none⟩) L.length c] (w.alloc (.cells (L.map (Value.int .i64)).toArray 3)) (Laid w B a (layR s L)) := by
  have H1 := H.alloc (.cells (L.map (Value.int .i64)).toArray 3)
  have T1 := alloc_touch w (.cells (L.map (Value.int .i64)).toArray 3) a.blocks
  have hc : ∀ j v, (L.map (Value.int .i64))[j]? = some v → (w.alloc (.cells (L.map (Value.int .i64)).toArray 3)).cell? ((⟨w.heap.size, 0, none⟩ : Addr).add j) = some v := by
    intro j v hj
    rw [Go.WideShapes.add_plain, World.cell?, heap_alloc_new]
    simpa using hj
  unfold Laid layR
  split
  · rename_i hr
    refine (lay_room B a s.M s.h s.O _ H1 w.heap.size L c hc hpos hr).mono ?_
    rintro e w' ⟨rfl, H2, T2⟩
    exact ⟨rfl, H2, T1.trans T2 (fun _ h => Or.inl h)⟩
  · rename_i hr
    refine (lay_full B a s.M s.h s.O _ H1 _ L.length c (by omega) (by omega)).mono ?_
    rintro e w' ⟨rfl, q, rfl⟩
    exact ⟨rfl, H1.drewN q, T1.drewN q⟩
theorem lay1s (B : Nat) (a : At) (s : St) (w : World) (H : WvIs w B a s.M s.h s.O) (o : Int) (c : Nat) :
    Calls Tryz.prog 74 #[.pointer (some ⟨a.sb, 0, none⟩), .slice (some ⟨w.heap.size, 0, none⟩) 1 c] (w.alloc (.cells #[.int .i64 o] 3)) (Laid w B a (layR s [o])) :=
  lay_same B a s w H [o] (by simp) (by simp) c
theorem lay2s (B : Nat) (a : At) (s : St) (w : World) (H : WvIs w B a s.M s.h s.O) (o v : Int) (c : Nat) :
    Calls Tryz.prog 74 #[.pointer (some ⟨a.sb, 0, none⟩), .slice (some ⟨w.heap.size, 0, none⟩) 2 c] (w.alloc (.cells #[.int .i64 o, .int .i64 v] 3)) (Laid w B a (layR s [o, v])) :=
  lay_same B a s w H [o, v] (by simp) (by simp) c
theorem layR_yes {s : St} {L : List Int} (h : s.h + L.length ≤ s.M.length) : layR s L = (0, ⟨lay s.M s.h L, s.h + L.length, s.O⟩) := by unfold layR; rw [if_pos h]
theorem layR_no {s : St} {L : List Int} (h : ¬ s.h + L.length ≤ s.M.length) : layR s L = (-8, s) := by unfold layR; rw [if_neg h]
theorem set_done {w : World} {B : Nat} {a : At} {M : List Int} {h : Nat} {O : List (Int × Int)} {g : Nat} (H : WvIs w B a M h O) (hA : a.MA = some ⟨g, 0, none⟩) (i : Nat) (v : Int) :
    WvIs (w.setCell ⟨g, i, none⟩ (.int .i64 v)) B a (M.set i v) h O ∧ Touch w (w.setCell ⟨g, i, none⟩ (.int .i64 v)) a.blocks := by
  have T : Touch w (w.setCell ⟨g, i, none⟩ (.int .i64 v)) (fun k => k = g) := ⟨rfl, rfl, rfl, by simp [World.setCell], fun k _ hk => Below.heap_setCell w ⟨g, i, none⟩ _ k hk⟩
  have hg : a.MA.map (·.block) = some g := by rw [hA]; rfl
  have hm := H.mem
  rw [hA] at hm
  refine ⟨{ blk := ?_, base := H.base, mem := ?_, opn := ?_, here := by simpa using H.here, small := by simpa using H.small, few := H.few }, T.mono (fun k hk => Or.inl (by subst hk; exact Or.inr (Or.inl hg)))⟩
  · rw [List.length_set]
    exact (T.block a.sb H.lt (fun e => H.ne_mem hg e.symm)).trans H.blk
  · rw [hA, List.length_set, List.map_set]
    exact (hm.stored i (.int .i64 v)).1
  · exact own_touch H.opn T (fun k hk => by rintro rfl; exact H.ne_both hg hk)
def forwardR (s : St) (o k : Int) : Int × St :=
  if s.h + 2 ≤ s.M.length then (0, ⟨lay s.M s.h [o, 0], s.h + 2, s.O ++ [(k, (s.h : Int) + 1)]⟩) else (-8, s)
set_option maxHeartbeats 1000000 in
theorem forward_any (B : Nat) (a : At) (s : St) (w : World) (H : WvIs w B a s.M s.h s.O) (o k : Int) (hO : s.O.length < 5000) :
    Calls Tryz.prog 116 #[.pointer (some ⟨a.sb, 0, none⟩), .int .i64 o, .int .i64 k] w (Did w B a (forwardR s o k)) := by
  unfold forwardR
  have hl := lay2s B a s w H o 0 2
  have hs := H.small
  by_cases hr : s.h + 2 ≤ s.M.length
  · rw [if_pos hr]
    rw [layR_yes (by simpa using hr)] at hl
    have HL := Lib.hid hl
    clear hl
    go_enter Tryz.func116, Tryz.ntmps116
    go_wp2_with fail
    refine HL.out.mono ?_
    rintro e w1 ⟨rfl, H1, T1⟩
    have c1 := H1.c1
    simp only [List.length_cons, List.length_nil, Nat.zero_add] at c1 H1
    have HP := Lib.hid (push_any B a ⟨lay s.M s.h [o, 0], s.h + 2, s.O⟩ w1 H1 k ((s.h : Int) + 2 - 1) hO)
    have HT := Lib.hid T1
    clear H1 T1
    go_wp2_with fail
    refine HP.out.mono ?_
    rintro e w2 ⟨rfl, N⟩
    rw [show (s.h : Int) + 2 - 1 = (s.h : Int) + 1 by omega] at N
    have HN : Hid (Did w B a (0, ⟨lay s.M s.h [o, 0], s.h + 2, s.O ++ [(k, (s.h : Int) + 1)]⟩) (.returned (.int .i64 0)) w2) := ⟨rfl, Next.trans rfl HT.out (fun _ h => Or.inl h) N⟩
    clear N
    go_wp2_with fail
    go_ret
    exact HN.out
  · rw [if_neg hr]
    rw [layR_no (by simpa using hr)] at hl
    have HL := Lib.hid hl
    clear hl
    go_enter Tryz.func116, Tryz.ntmps116
    go_wp2_with fail
    refine HL.out.mono ?_
    rintro e w1 ⟨rfl, H1, T1⟩
    have N : Hid (Did w B a (-8, s) (.returned (.int .i64 (-8))) w1) := ⟨rfl, Next.same H1 T1⟩
    go_wp2_with fail
    go_ret
    exact N.out
def doR (s : St) : Int × St :=
  if s.h + 1 ≤ s.M.length then (0, ⟨lay s.M s.h [36], s.h + 1, s.O ++ [(5, (s.h : Int) + 1)]⟩) else (-8, s)
set_option maxHeartbeats 1000000 in
theorem do_any (B : Nat) (a : At) (s : St) (w : World) (H : WvIs w B a s.M s.h s.O) (hO : s.O.length < 5000) :
    Calls Tryz.prog 122 #[.pointer (some ⟨a.sb, 0, none⟩)] w (Did w B a (doR s)) := by
  unfold doR
  have hl := lay1s B a s w H 36 1
  have hs := H.small
  by_cases hr : s.h + 1 ≤ s.M.length
  · rw [if_pos hr]
    rw [layR_yes (by simpa using hr)] at hl
    have HL := Lib.hid hl
    clear hl
    go_enter Tryz.func122, Tryz.ntmps122
    go_wp2_with fail
    refine HL.out.mono ?_
    rintro e w1 ⟨rfl, H1, T1⟩
    have c1 := H1.c1
    simp only [List.length_cons, List.length_nil, Nat.zero_add] at c1 H1
    have HP := Lib.hid (push_any B a ⟨lay s.M s.h [36], s.h + 1, s.O⟩ w1 H1 5 ((s.h : Int) + 1) hO)
    have HT := Lib.hid T1
    clear H1 T1
    go_wp2_with fail
    refine HP.out.mono ?_
    rintro e w2 ⟨rfl, N⟩
    have HN : Hid (Did w B a (0, ⟨lay s.M s.h [36], s.h + 1, s.O ++ [(5, (s.h : Int) + 1)]⟩) (.returned (.int .i64 0)) w2) := ⟨rfl, Next.trans rfl HT.out (fun _ h => Or.inl h) N⟩
    clear N
    go_wp2_with fail
    go_ret
    exact HN.out
  · rw [if_neg hr]
    rw [layR_no (by simpa using hr)] at hl
    have HL := Lib.hid hl
    clear hl
    go_enter Tryz.func122, Tryz.ntmps122
    go_wp2_with fail
    refine HL.out.mono ?_
    rintro e w1 ⟨rfl, H1, T1⟩
    have N : Hid (Did w B a (-8, s) (.returned (.int .i64 (-8))) w1) := ⟨rfl, Next.same H1 T1⟩
    go_wp2_with fail
    go_ret
    exact N.out
def backwardR (s : St) (O : List (Int × Int)) (p : Int × Int) (o : Int) : Int × St :=
  if s.h + 2 ≤ s.M.length then (0, ⟨lay s.M s.h [o, p.2], s.h + 2, O⟩) else (-8, s)
theorem flat_get2 (O : List (Int × Int)) (n : Nat) (hn : n < O.length) : (flat O)[n * 2 + 1]? = some (.int .i64 (O.getD n (0, 0)).2) := by
  induction O generalizing n with
  | nil => simp at hn
  | cons p r ih =>
    cases n with
    | zero => simp [flat]
    | succ n =>
      have h1 : flat (p :: r) = .int .i64 p.1 :: .int .i64 p.2 :: flat r := by simp [flat]
      rw [h1, show (n + 1) * 2 + 1 = (n * 2 + 1) + 1 + 1 by omega, List.getElem?_cons_succ, List.getElem?_cons_succ, ih n (by simpa using hn)]
      simp
theorem last_cell {w : World} {B : Nat} {a : At} {M : List Int} {h : Nat} {O : List (Int × Int)} (H : WvIs w B a M h O) (n : Nat) (hn : n < O.length) :
    ∃ g, a.OA = some ⟨g, 0, none⟩ ∧ w.cell? ⟨g, n * 2, none⟩ = some (.int .i64 (O.getD n (0, 0)).1) ∧ w.cell? ⟨g, n * 2 + 1, none⟩ = some (.int .i64 (O.getD n (0, 0)).2) := by
  obtain ⟨g, cap, hA, _⟩ := World.ownsRow.form H.opn (by omega)
  injection hA with hA _ _
  have ho := H.opn
  rw [hA] at ho
  refine ⟨g, hA, ?_, ?_⟩
  · rw [ho.cellAt (n * 2) (by omega), flat_get O n hn]
  · rw [ho.cellAt (n * 2 + 1) (by omega), flat_get2 O n hn]
set_option maxHeartbeats 1000000 in
set_option maxRecDepth 100000 in
theorem backward_any (B : Nat) (a : At) (M : List Int) (h : Nat) (O : List (Int × Int)) (p : Int × Int) (w : World) (H : WvIs w B a M h (O ++ [p])) (o : Int) :
    Calls Tryz.prog 120 #[.pointer (some ⟨a.sb, 0, none⟩), .int .i64 o] w (Did w B a (backwardR ⟨M, h, O ++ [p]⟩ O p o)) := by
  obtain ⟨g, hA, _, hc⟩ := last_cell H O.length (by simp)
  have hp : ((O ++ [p]).getD O.length (0, 0)).2 = p.2 := by simp
  rw [hp] at hc
  clear hp
  have c2 := H.c2
  rw [hA, show (O ++ [p]).length = O.length + 1 by simp] at c2
  have hO : O.length < 5000 := by have := H.few; simp at this; omega
  have hs := H.small
  have hwr : IntKind.i64.wrap (O.length : Int) = (O.length : Int) := IntWalk.i64_in _ (by omega)
  have hi2 : ((0 : Int) ≤ (O.length : Int)) := by omega
  have hi3 : ((O.length : Int) < (O.length : Int) + 1) := by omega
  have HL := Lib.hid (lay2s B a ⟨M, h, O ++ [p]⟩ w.drew (H.drewN 1) o p.2 2)
  go_enter Tryz.func120, Tryz.ntmps120
  go_upto_region 1 with fail
  go_cut [5] (fun s5 wc => s5 = .int .i64 (layR ⟨M, h, O ++ [p]⟩ [o, p.2]).1 ∧ WvIs wc B a (layR ⟨M, h, O ++ [p]⟩ [o, p.2]).2.M (layR ⟨M, h, O ++ [p]⟩ [o, p.2]).2.h (layR ⟨M, h, O ++ [p]⟩ [o, p.2]).2.O ∧ Touch w wc a.blocks)
  case first =>
    go_region_with ((go_at_call 74; refine HL.out.mono ?_; rintro e w1 ⟨rfl, H1, T1⟩))
    all_goals
      go_wp2_with fail
      go_meet
      exact ⟨rfl, H1, T1.drewN' 1⟩
  case rest =>
    obtain ⟨rfl, H1, T1⟩ := hcut
    clear HL c2 hc hwr hi2 hi3
    by_cases hr : h + 2 ≤ M.length
    · rw [layR_yes (s := ⟨M, h, O ++ [p]⟩) (by simpa using hr)] at H1 ⊢
      have hp1 := pop_exact B a _ _ O p wc H1
      have hp2 := pop_done H1
      rw [hA] at hp1 hp2
      have HP := Lib.hid hp1
      have HD := Lib.hid hp2
      clear hp1 hp2
      go_wp2_with fail
      refine HP.out.mono ?_
      rintro e w2 ⟨rfl, rfl⟩
      have HN : Hid (Did w B a (backwardR ⟨M, h, O ++ [p]⟩ O p o) (.returned (.int .i64 0)) (wc.setCell ⟨a.sb, 2, none⟩ (.slice (some ⟨g, 0, none⟩) O.length a.ocap))) := by
        unfold backwardR
        rw [if_pos hr]
        exact ⟨rfl, Next.same HD.out.1 (T1.trans HD.out.2 (fun _ h => Or.inl h))⟩
      go_wp2_with fail
      go_ret
      exact HN.out
    · rw [layR_no (s := ⟨M, h, O ++ [p]⟩) (by simpa using hr)] at H1 ⊢
      have N : Hid (Did w B a (backwardR ⟨M, h, O ++ [p]⟩ O p o) (.returned (.int .i64 (-8))) wc) := by
        unfold backwardR
        rw [if_neg hr]
        exact ⟨rfl, Next.same H1 T1⟩
      go_wp2_with fail
      go_ret
      exact N.out
end Go.Proofs.YtompdfpjmdnhoabGreatDoor.Wv
namespace Go.Proofs.YtompdfpjmdnhoabGreatDoor.Wv
open Go.RowKit
theorem mem_cell {w : World} {B : Nat} {a : At} {M : List Int} {h : Nat} {O : List (Int × Int)} (H : WvIs w B a M h O) {g : Nat} (hA : a.MA = some ⟨g, 0, none⟩) (q : Nat) (hq : q < M.length) :
    w.cell? ⟨g, q, none⟩ = some (.int .i64 (M.getD q 0)) ∧ w.frozen? ⟨g, q, none⟩ = false := by
  have hm := H.mem
  rw [hA] at hm
  refine ⟨?_, hm.frozenAt q⟩
  rw [hm.cellAt q (by omega)]
  simp [hq]
theorem mem_addr {w : World} {B : Nat} {a : At} {M : List Int} {h : Nat} {O : List (Int × Int)} (H : WvIs w B a M h O) (hp : 0 < M.length) : ∃ g, a.MA = some ⟨g, 0, none⟩ := by
  obtain ⟨g, cap, hA, _⟩ := World.ownsRow.form H.mem hp
  injection hA with hA _ _
  exact ⟨g, hA⟩
theorem pop_keep (B : Nat) (a : At) (M : List Int) (h : Nat) (O : List (Int × Int)) (p : Int × Int) (w : World) (H : WvIs w B a M h (O ++ [p])) (g : Nat) (hA : a.MA = some ⟨g, 0, none⟩) (q : Nat) (hq : q < M.length) :
    Calls Tryz.prog 118 #[.pointer (some ⟨a.sb, 0, none⟩)] w fun e w' => e = .returned (.int .i64 p.2) ∧ w'.cell? ⟨a.sb, 0, none⟩ = some (.slice (some ⟨g, 0, none⟩) M.length a.mcap) ∧ w'.cell? ⟨a.sb, 1, none⟩ = some (.int .i64 h) ∧
      w'.cell? ⟨g, q, none⟩ = some (.int .i64 (M.getD q 0)) ∧ w'.frozen? ⟨g, q, none⟩ = false ∧ Hid (WvIs w' B a M h O ∧ Touch w w' a.blocks) := by
  refine (pop_exact B a M h O p w H).mono ?_
  rintro e w' ⟨rfl, rfl⟩
  have D := pop_done H
  have hc := mem_cell D.1 hA q hq
  have c0 := D.1.c0
  rw [hA] at c0
  exact ⟨rfl, c0, D.1.c1, hc.1, hc.2, D⟩
def elseR (s : St) (O : List (Int × Int)) (q : Nat) : Int × St :=
  if s.h + 2 ≤ s.M.length then (0, ⟨(lay s.M s.h [3, 0]).set q ((s.h : Int) + 2), s.h + 2, O ++ [(2, (s.h : Int) + 1)]⟩) else (-8, s)
set_option maxHeartbeats 2000000 in
set_option maxRecDepth 100000 in
theorem elseOf_any (B : Nat) (a : At) (M : List Int) (h : Nat) (O : List (Int × Int)) (k : Int) (q : Nat) (w : World) (H : WvIs w B a M h (O ++ [(k, (q : Int))])) (hq : q < M.length) :
    Calls Tryz.prog 117 #[.pointer (some ⟨a.sb, 0, none⟩)] w (Did w B a (elseR ⟨M, h, O ++ [(k, (q : Int))]⟩ O q)) := by
  have hs := H.small
  have hO : O.length < 5000 := by have := H.few; simp at this; omega
  obtain ⟨g, hA⟩ := mem_addr H (by omega)
  have hl := lay2s B a ⟨M, h, O ++ [(k, (q : Int))]⟩ w H 3 0 2
  by_cases hr : h + 2 ≤ M.length
  · rw [layR_yes (s := ⟨M, h, O ++ [(k, (q : Int))]⟩) (by simpa using hr)] at hl
    have HL := Lib.hid hl
    clear hl
    have hlen : (lay M h [3, 0]).length = M.length := lay_length M h [3, 0] (by simpa using hr)
    have Hlen := Lib.hid hlen
    clear hlen
    go_enter Tryz.func117, Tryz.ntmps117
    go_wp2_with fail
    refine HL.out.mono ?_
    rintro e w1 ⟨rfl, H1, T1⟩
    simp only [List.length_cons, List.length_nil, Nat.zero_add] at H1
    have c0 := H1.c0
    rw [hA] at c0
    have c1 := H1.c1
    have hq1 : q < (lay M h [3, 0]).length := by rw [Hlen.out]; exact hq
    have HT := Lib.hid T1
    have HPop := Lib.hid (pop_keep B a (lay M h [3, 0]) (h + 2) O (k, (q : Int)) w1.drew (H1.drewN 1) g hA q hq1)
    clear H1 T1
    obtain ⟨M1, hM1⟩ : ∃ M1, M1 = lay M h [3, 0] := ⟨_, rfl⟩
    rw [← hM1] at c0 hq1 HPop Hlen
    have HM1 := Lib.hid hM1
    clear hM1
    have hs1 : M1.length ≤ 5000 := by have := Hlen.out; omega
    have hq2 : (q : Int) < (M1.length : Int) := by omega
    have hq3 : (0 : Int) ≤ (q : Int) := by omega
    go_upto_region 3 with fail
    go_cut [] (fun wc => WvIs wc B a (M1.set q ((h : Int) + 2)) (h + 2) O ∧ Touch w wc a.blocks)
    case first =>
      go_region_with ((go_at_call 118; refine HPop.out.mono ?_; rintro e w2 ⟨rfl, d0, d1, dq, fq, HH⟩))
      all_goals
        go_wp2_with fail
        go_meet
        have SD := set_done HH.out.1 hA q ((h : Int) + 2)
        exact ⟨SD.1, (HT.out.trans (HH.out.2.drewN' 1) (fun _ h => Or.inl h)).trans SD.2 (fun _ h => Or.inl h)⟩
    case rest =>
      obtain ⟨H2, T2⟩ := hcut
      have c1' := H2.c1
      have hml : (M1.set q ((h : Int) + 2)).length = M1.length := by simp
      have HP := Lib.hid (push_any B a ⟨M1.set q ((h : Int) + 2), h + 2, O⟩ wc H2 2 ((h : Int) + 2 - 1) hO)
      have HT2 := Lib.hid T2
      clear H2 T2 HPop HT c0 c1 hml
      go_wp2_with fail
      refine HP.out.mono ?_
      rintro e w3 ⟨rfl, N⟩
      rw [show (h : Int) + 2 - 1 = (h : Int) + 1 by omega] at N
      have HN : Hid (Did w B a (0, ⟨M1.set q ((h : Int) + 2), h + 2, O ++ [(2, (h : Int) + 1)]⟩) (.returned (.int .i64 0)) w3) := ⟨rfl, Next.trans rfl HT2.out (fun _ h => Or.inl h) N⟩
      clear N
      have HN2 : Hid (Did w B a (elseR ⟨M, h, O ++ [(k, (q : Int))]⟩ O q) (.returned (.int .i64 0)) w3) := by
        unfold elseR
        rw [if_pos hr]
        have := HN.out
        rw [HM1.out] at this
        exact this
      go_wp2_with fail
      go_ret
      exact HN2.out
  · rw [layR_no (s := ⟨M, h, O ++ [(k, (q : Int))]⟩) (by simpa using hr)] at hl
    have HL := Lib.hid hl
    clear hl
    go_enter Tryz.func117, Tryz.ntmps117
    go_wp2_with fail
    refine HL.out.mono ?_
    rintro e w1 ⟨rfl, H1, T1⟩
    have N : Hid (Did w B a (elseR ⟨M, h, O ++ [(k, (q : Int))]⟩ O q) (.returned (.int .i64 (-8))) w1) := by
      unfold elseR
      rw [if_neg hr]
      exact ⟨rfl, Next.same H1 T1⟩
    go_wp2_with fail
    go_ret
    exact N.out
def repeatR (s : St) (O : List (Int × Int)) (b : Int) (q : Nat) : Int × St :=
  if s.h + 2 ≤ s.M.length then (0, ⟨(lay s.M s.h [3, b]).set q ((s.h : Int) + 2), s.h + 2, O⟩) else (-8, s)
set_option maxHeartbeats 4000000 in
set_option maxRecDepth 100000 in
theorem repeat_any (B : Nat) (a : At) (M : List Int) (h : Nat) (O : List (Int × Int)) (kb b k : Int) (q : Nat) (w : World) (H : WvIs w B a M h (O ++ [(kb, b)] ++ [(k, (q : Int))])) (hq : q < M.length) :
    Calls Tryz.prog 121 #[.pointer (some ⟨a.sb, 0, none⟩)] w (Did w B a (repeatR ⟨M, h, O ++ [(kb, b)] ++ [(k, (q : Int))]⟩ O b q)) := by
  have hs := H.small
  obtain ⟨g, hA⟩ := mem_addr H (by omega)
  obtain ⟨og, hOA, _, hc⟩ := last_cell H O.length (by simp)
  have hp : ((O ++ [(kb, b)] ++ [(k, (q : Int))]).getD O.length (0, 0)).2 = b := by simp
  rw [hp] at hc
  clear hp
  have c2 := H.c2
  have hO : O.length < 5000 := by have := H.few; simp at this; omega
  rw [hOA, show (O ++ [(kb, b)] ++ [(k, (q : Int))]).length = O.length + 2 by simp] at c2
  have hwr : IntKind.i64.wrap (O.length : Int) = (O.length : Int) := IntWalk.i64_in _ (by omega)
  have hi2 : ((0 : Int) ≤ (O.length : Int)) := by omega
  have hi3 : ((O.length : Int) < (O.length : Int) + 2) := by omega
  have hl := lay2s B a ⟨M, h, O ++ [(kb, b)] ++ [(k, (q : Int))]⟩ w.drew (H.drewN 1) 3 b 2
  obtain ⟨r, hr0⟩ : ∃ r, r = layR ⟨M, h, O ++ [(kb, b)] ++ [(k, (q : Int))]⟩ [3, b] := ⟨_, rfl⟩
  rw [← hr0] at hl
  have HL := Lib.hid hl
  have HR0 := Lib.hid hr0
  clear hl hr0
  go_enter Tryz.func121, Tryz.ntmps121
  go_upto_region 1 with fail
  go_cut [3] (fun s3 wc => s3 = .int .i64 r.1 ∧ WvIs wc B a r.2.M r.2.h r.2.O ∧ Touch w wc a.blocks)
  case first =>
    go_region_with ((go_at_call 74; refine HL.out.mono ?_; rintro e w1 ⟨rfl, H1, T1⟩))
    all_goals
      go_wp2_with fail
      go_meet
      exact ⟨rfl, H1, T1.drewN' 1⟩
  case rest =>
    obtain ⟨rfl, H1, T1⟩ := hcut
    clear HL c2 hc hwr hi2 hi3
    by_cases hr : h + 2 ≤ M.length
    · have hr1 := HR0.out
      rw [layR_yes (s := ⟨M, h, O ++ [(kb, b)] ++ [(k, (q : Int))]⟩) (by simpa using hr)] at hr1
      subst hr1
      have hlen : (lay M h [3, b]).length = M.length := lay_length M h [3, b] (by simpa using hr)
      simp only [List.length_cons, List.length_nil, Nat.zero_add] at H1
      have c0 := H1.c0
      rw [hA] at c0
      have c1 := H1.c1
      have hq1 : q < (lay M h [3, b]).length := by rw [hlen]; exact hq
      have HT := Lib.hid T1
      have HPop := Lib.hid (pop_keep B a (lay M h [3, b]) (h + 2) (O ++ [(kb, b)]) (k, (q : Int)) wc.drew (H1.drewN 1) g hA q hq1)
      clear H1 T1
      obtain ⟨M1, hM1⟩ : ∃ M1, M1 = lay M h [3, b] := ⟨_, rfl⟩
      rw [← hM1] at c0 hq1 HPop hlen
      have HM1 := Lib.hid hM1
      clear hM1
      have hq2 : (q : Int) < (M1.length : Int) := by omega
      have hq3 : (0 : Int) ≤ (q : Int) := by omega
      have hs1 : M1.length ≤ 5000 := by omega
      clear hlen
      go_upto_region 3 with fail
      go_cut [] (fun wd => WvIs wd B a (M1.set q ((h : Int) + 2)) (h + 2) (O ++ [(kb, b)]) ∧ Touch w wd a.blocks)
      case first =>
        go_region_with ((go_at_call 118; refine HPop.out.mono ?_; rintro e w2 ⟨rfl, d0, d1, dq, fq, HH⟩))
        all_goals
          go_wp2_with fail
          go_meet
          have SD := set_done HH.out.1 hA q ((h : Int) + 2)
          exact ⟨SD.1, (HT.out.trans (HH.out.2.drewN' 1) (fun _ h => Or.inl h)).trans SD.2 (fun _ h => Or.inl h)⟩
      case rest =>
        obtain ⟨H2, T2⟩ := hcut
        have hp1 := pop_exact B a _ _ O (kb, b) wc H2
        have hp2 := pop_done H2
        have HP := Lib.hid hp1
        have HN : Hid (Did w B a (repeatR ⟨M, h, O ++ [(kb, b)] ++ [(k, (q : Int))]⟩ O b q) (.returned (.int .i64 0)) (wc.setCell ⟨a.sb, 2, none⟩ (.slice a.OA O.length a.ocap))) := by
          unfold repeatR
          rw [if_pos hr]
          simp only
          rw [← HM1.out]
          exact ⟨rfl, Next.same hp2.1 (T2.trans hp2.2 (fun _ h => Or.inl h))⟩
        clear hp1 hp2 H2 T2 HPop HT c0 c1
        rw [hOA] at HP HN
        go_wp2_with fail
        refine HP.out.mono ?_
        rintro e w3 ⟨rfl, rfl⟩
        go_wp2_with fail
        go_ret
        exact HN.out
    · have hr1 := HR0.out
      rw [layR_no (s := ⟨M, h, O ++ [(kb, b)] ++ [(k, (q : Int))]⟩) (by simpa using hr)] at hr1
      subst hr1
      have N : Hid (Did w B a (repeatR ⟨M, h, O ++ [(kb, b)] ++ [(k, (q : Int))]⟩ O b q) (.returned (.int .i64 (-8))) wc) := by
        unfold repeatR
        rw [if_neg hr]
        exact ⟨rfl, Next.same H1 T1⟩
      clear H1 T1
      go_wp2_with fail
      go_ret
      exact N.out
end Go.Proofs.YtompdfpjmdnhoabGreatDoor.Wv
namespace Go.Proofs.YtompdfpjmdnhoabGreatDoor.Wv
open Go.RowKit
def wIf : ByteArray := ⟨#[73, 70]⟩
def wWhile : ByteArray := ⟨#[87, 72, 73, 76, 69]⟩
def wElse : ByteArray := ⟨#[69, 76, 83, 69]⟩
def wThen : ByteArray := ⟨#[84, 72, 69, 78]⟩
def wBegin : ByteArray := ⟨#[66, 69, 71, 73, 78]⟩
def wUntil : ByteArray := ⟨#[85, 78, 84, 73, 76]⟩
def wAgain : ByteArray := ⟨#[65, 71, 65, 73, 78]⟩
def wRepeat : ByteArray := ⟨#[82, 69, 80, 69, 65, 84]⟩
def wDo : ByteArray := ⟨#[68, 79]⟩
def wLoop : ByteArray := ⟨#[76, 79, 79, 80]⟩
def wPlus : ByteArray := ⟨#[43, 76, 79, 79, 80]⟩
def fitsB (O : List (Int × Int)) (W : ByteArray) : Bool :=
  if W = wElse then topB O 0 [1]
  else if W = wThen then topB O 0 [1, 2]
  else if W = wUntil ∨ W = wAgain ∨ W = wWhile then topB O 0 [3]
  else if W = wRepeat then topB O 0 [4] && topB O 1 [3]
  else if W = wLoop ∨ W = wPlus then topB O 0 [5]
  else true
theorem top_own (B : Nat) (a : At) (M : List Int) (h : Nat) (O : List (Int × Int)) (w : World) (H : WvIs w B a M h O) (j : Nat) (jz : Int) (hz : jz = j) (hj : j ≤ 10) (K : List Int) (hK : K.length ≤ 10) (c : Nat) :
    Calls Tryz.prog 144 #[.pointer (some ⟨a.sb, 0, none⟩), .int .i64 jz, .slice (some ⟨w.heap.size, 0, none⟩) K.length c] (w.alloc (.cells (K.map (Value.int .i64)).toArray 3)) fun e w' =>
      e = .returned (.bool (topB O j K)) ∧ w' = w.alloc (.cells (K.map (Value.int .i64)).toArray 3) := by
  subst hz
  refine top_any B a M h O _ (H.alloc _) j hj K hK w.heap.size c (fun i hi => ?_)
  rw [World.cell?, heap_alloc_new]
  simp [hi]
theorem top1 (B : Nat) (a : At) (M : List Int) (h : Nat) (O : List (Int × Int)) (w : World) (H : WvIs w B a M h O) (j : Nat) (jz : Int) (hz : jz = j) (hj : j ≤ 10) (x : Int) (c : Nat) :
    Calls Tryz.prog 144 #[.pointer (some ⟨a.sb, 0, none⟩), .int .i64 jz, .slice (some ⟨w.heap.size, 0, none⟩) 1 c] (w.alloc (.cells #[.int .i64 x] 3)) fun e w' =>
      e = .returned (.bool (topB O j [x])) ∧ w' = w.alloc (.cells #[.int .i64 x] 3) := top_own B a M h O w H j jz hz hj [x] (by simp) c
theorem top2 (B : Nat) (a : At) (M : List Int) (h : Nat) (O : List (Int × Int)) (w : World) (H : WvIs w B a M h O) (j : Nat) (jz : Int) (hz : jz = j) (hj : j ≤ 10) (x y : Int) (c : Nat) :
    Calls Tryz.prog 144 #[.pointer (some ⟨a.sb, 0, none⟩), .int .i64 jz, .slice (some ⟨w.heap.size, 0, none⟩) 2 c] (w.alloc (.cells #[.int .i64 x, .int .i64 y] 3)) fun e w' =>
      e = .returned (.bool (topB O j [x, y])) ∧ w' = w.alloc (.cells #[.int .i64 x, .int .i64 y] 3) := top_own B a M h O w H j jz hz hj [x, y] (by simp) c
def Asked (w : World) (b : Bool) (e : Ending) (w' : World) : Prop := e = .returned (.bool b) ∧ w.grownBy w' none
theorem one_alloc (w : World) (o : Obj) : w.grownBy (w.alloc o) none := World.grownBy_alloc w o none
set_option maxRecDepth 100000 in
theorem fits_one (B : Nat) (a : At) (M : List Int) (h : Nat) (O : List (Int × Int)) (w : World) (H : WvIs w B a M h O) (W : ByteArray) (x : Int)
    (hW : (W = wElse ∧ x = 1) ∨ ((W = wUntil ∨ W = wAgain ∨ W = wWhile) ∧ x = 3) ∨ ((W = wLoop ∨ W = wPlus) ∧ x = 5)) :
    Calls Tryz.prog 115 #[.pointer (some ⟨a.sb, 0, none⟩), .string W] w (Asked w (topB O 0 [x])) := by
  have HT := Lib.hid (top1 B a M h O w H 0 0 rfl (by omega) x 1)
  rcases hW with ⟨rfl, rfl⟩ | ⟨rfl | rfl | rfl, rfl⟩ | ⟨rfl | rfl, rfl⟩
  all_goals
    first | unfold wElse | unfold wUntil | unfold wAgain | unfold wWhile | unfold wLoop | unfold wPlus
    go_enter Tryz.func115, Tryz.ntmps115
    go_wp2_with fail
    refine HT.out.mono ?_
    rintro e w' ⟨rfl, rfl⟩
    go_wp2_with fail
    go_ret
    exact ⟨rfl, one_alloc _ _⟩
theorem fits_then (B : Nat) (a : At) (M : List Int) (h : Nat) (O : List (Int × Int)) (w : World) (H : WvIs w B a M h O) :
    Calls Tryz.prog 115 #[.pointer (some ⟨a.sb, 0, none⟩), .string wThen] w (Asked w (topB O 0 [1, 2])) := by
  have HT := Lib.hid (top2 B a M h O w H 0 0 rfl (by omega) 1 2 2)
  unfold wThen
  go_enter Tryz.func115, Tryz.ntmps115
  go_wp2_with fail
  refine HT.out.mono ?_
  rintro e w' ⟨rfl, rfl⟩
  go_wp2_with fail
  go_ret
  exact ⟨rfl, one_alloc _ _⟩
set_option maxRecDepth 100000 in
theorem fits_repeat (B : Nat) (a : At) (M : List Int) (h : Nat) (O : List (Int × Int)) (w : World) (H : WvIs w B a M h O) :
    Calls Tryz.prog 115 #[.pointer (some ⟨a.sb, 0, none⟩), .string wRepeat] w (Asked w (topB O 0 [4] && topB O 1 [3])) := by
  have HT := Lib.hid (top1 B a M h O w H 0 0 rfl (by omega) 4 1)
  have H1 := H.alloc (.cells #[.int .i64 4] 3)
  have h2 := top1 B a M h O (w.alloc (.cells #[.int .i64 4] 3)) H1 1 1 rfl (by omega) 3 1
  rw [show (w.alloc (.cells #[.int .i64 4] 3)).heap.size = w.heap.size + 1 by simp] at h2
  have HT2 := Lib.hid h2
  clear H1 h2
  unfold wRepeat
  cases hb : topB O 0 [4]
  · go_enter Tryz.func115, Tryz.ntmps115
    go_wp2_with fail
    refine HT.out.mono ?_
    rintro e w' ⟨rfl, rfl⟩
    rw [hb]
    go_wp2_with fail
    go_ret
    exact ⟨rfl, one_alloc _ _⟩
  · go_enter Tryz.func115, Tryz.ntmps115
    go_wp2_with fail
    refine HT.out.mono ?_
    rintro e w' ⟨rfl, rfl⟩
    rw [hb]
    go_wp2_with fail
    refine HT2.out.mono ?_
    rintro e w' ⟨rfl, rfl⟩
    go_wp2_with fail
    go_ret
    refine ⟨by simp, ?_⟩
    have h1 := one_alloc w (.cells #[.int .i64 4] 3)
    have h2 := one_alloc (w.alloc (.cells #[.int .i64 4] 3)) (.cells #[.int .i64 3] 3)
    exact ⟨h2.os.trans h1.os, h2.tape.trans h1.tape, h2.output.trans h1.output, Nat.le_trans h1.size h2.size, fun k hk hr => (h2.block k (Nat.lt_of_lt_of_le hk h1.size) hr).trans (h1.block k hk hr)⟩
theorem ne_lit {W : ByteArray} {l : List UInt8} (h : W ≠ ⟨l.toArray⟩) : (W.toList == l) = false := by
  rw [← Bool.not_eq_true]
  intro e
  have e1 : W.toList = l := by simpa using e
  apply h
  rw [← e1, ByteArray.toList_eq]
set_option maxRecDepth 100000 in
theorem fits_other (a : At) (w : World) (W : ByteArray) (h1 : W ≠ wElse) (h2 : W ≠ wThen) (h3 : W ≠ wUntil) (h4 : W ≠ wAgain) (h5 : W ≠ wWhile) (h6 : W ≠ wRepeat) (h7 : W ≠ wLoop) (h8 : W ≠ wPlus) :
    Calls Tryz.prog 115 #[.pointer (some ⟨a.sb, 0, none⟩), .string W] w (Asked w true) := by
  have e1 : (W.toList == [69, 76, 83, 69]) = false := ne_lit h1
  have e2 : (W.toList == [84, 72, 69, 78]) = false := ne_lit h2
  have e3 : (W.toList == [85, 78, 84, 73, 76]) = false := ne_lit h3
  have e4 : (W.toList == [65, 71, 65, 73, 78]) = false := ne_lit h4
  have e5 : (W.toList == [87, 72, 73, 76, 69]) = false := ne_lit h5
  have e6 : (W.toList == [82, 69, 80, 69, 65, 84]) = false := ne_lit h6
  have e7 : (W.toList == [76, 79, 79, 80]) = false := ne_lit h7
  have e8 : (W.toList == [43, 76, 79, 79, 80]) = false := ne_lit h8
  clear h1 h2 h3 h4 h5 h6 h7 h8
  go_enter Tryz.func115, Tryz.ntmps115
  go_wp2_with fail
  go_ret
  exact ⟨rfl, World.grownBy.refl _ _⟩
theorem fits_any (B : Nat) (a : At) (M : List Int) (h : Nat) (O : List (Int × Int)) (w : World) (H : WvIs w B a M h O) (W : ByteArray) :
    Calls Tryz.prog 115 #[.pointer (some ⟨a.sb, 0, none⟩), .string W] w (Asked w (fitsB O W)) := by
  unfold fitsB
  by_cases h1 : W = wElse
  · rw [if_pos h1]; exact fits_one B a M h O w H W 1 (Or.inl ⟨h1, rfl⟩)
  rw [if_neg h1]
  by_cases h2 : W = wThen
  · rw [if_pos h2]; subst h2; exact fits_then B a M h O w H
  rw [if_neg h2]
  by_cases h3 : W = wUntil ∨ W = wAgain ∨ W = wWhile
  · rw [if_pos h3]; exact fits_one B a M h O w H W 3 (Or.inr (Or.inl ⟨h3, rfl⟩))
  rw [if_neg h3]
  by_cases h6 : W = wRepeat
  · rw [if_pos h6]; subst h6; exact fits_repeat B a M h O w H
  rw [if_neg h6]
  by_cases h7 : W = wLoop ∨ W = wPlus
  · rw [if_pos h7]; exact fits_one B a M h O w H W 5 (Or.inr (Or.inr ⟨h7, rfl⟩))
  rw [if_neg h7]
  exact fits_other a w W h1 h2 (fun e => h3 (Or.inl e)) (fun e => h3 (Or.inr (Or.inl e))) (fun e => h3 (Or.inr (Or.inr e))) h6 (fun e => h7 (Or.inl e)) (fun e => h7 (Or.inr e))
end Go.Proofs.YtompdfpjmdnhoabGreatDoor.Wv
namespace Go.Proofs.YtompdfpjmdnhoabGreatDoor.Wv
open Go.RowKit
theorem did_pre {w w2 w3 : World} {B : Nat} {a : At} {r : Int × St} {e : Ending} (T : Touch w w2 a.blocks) (N : Did w2 B a r e w3) : Did w B a r e w3 :=
  ⟨N.1, Next.trans rfl T (fun _ h => Or.inl h) N.2⟩
theorem WvIs.grown {w w' : World} {B : Nat} {a : At} {M : List Int} {h : Nat} {O : List (Int × Int)} (H : WvIs w B a M h O) (hg : w.grownBy w' none) : WvIs w' B a M h O :=
  H.touch (Touch.of_grown (S := fun _ => False) hg (fun _ e => by cases e)) (fun _ _ => id)
theorem pre_touch {w w1 w2 : World} {S : Nat → Prop} (hb : Below w.heap.size w w1) (hg : w1.grownBy w2 none) : Touch w w2 S :=
  (Touch.of_below hb S).trans (Touch.of_grown (S := S) hg (fun _ e => by cases e)) (fun _ h => Or.inl h)
set_option maxRecDepth 100000 in
theorem form_if (B : Nat) (a : At) (s : St) (w : World) (H : WvIs w B a s.M s.h s.O) (hO : s.O.length < 5000) (s0 : ByteArray) (hs0 : s0.size ≤ 100000) (hW : (⟨(ups s0).toArray⟩ : ByteArray) = wIf) :
    Calls Tryz.prog 82 #[.pointer (some ⟨a.sb, 0, none⟩), .string s0] w (Did w B a (forwardR s 4 1)) := by
  have HW := Lib.hid hW
  have Hfit : Hid (fitsB s.O wIf = true) := by show fitsB _ _ = true; simp [fitsB, wIf, wWhile, wElse, wThen, wUntil, wAgain, wRepeat, wLoop, wPlus, wDo, wBegin]
  clear hW
  go_enter Tryz.func82, Tryz.ntmps82
  go_wp2_with fail
  refine (great_any s0 _ hs0).mono ?_
  rintro e w1 ⟨rfl, hb1⟩
  rw [HW.out]
  have H1 := H.below hb1 (Nat.le_refl _)
  go_wp2_with fail
  refine (fits_any B a _ _ _ _ H1 wIf).mono ?_
  rintro e w2 ⟨rfl, hg2⟩
  rw [Hfit.out]
  have H2 := H1.grown hg2
  have T2 : Touch w w2 a.blocks := pre_touch hb1 hg2
  have HC := Lib.hid (forward_any B a s w2 H2 4 1 hO)
  have HT2 := Lib.hid T2
  clear H1 H2 T2 hb1 hg2
  unfold wIf
  go_wp2_with fail
  refine HC.out.mono ?_
  rintro e w3 ⟨rfl, N⟩
  have HN := Lib.hid (did_pre HT2.out (⟨rfl, N⟩ : Did w2 B a _ _ w3))
  clear N
  go_wp2_with fail
  go_ret
  exact HN.out
set_option maxRecDepth 100000 in
theorem form_do (B : Nat) (a : At) (s : St) (w : World) (H : WvIs w B a s.M s.h s.O) (hO : s.O.length < 5000) (s0 : ByteArray) (hs0 : s0.size ≤ 100000) (hW : (⟨(ups s0).toArray⟩ : ByteArray) = wDo) :
    Calls Tryz.prog 82 #[.pointer (some ⟨a.sb, 0, none⟩), .string s0] w (Did w B a (doR s)) := by
  have HW := Lib.hid hW
  have Hfit : Hid (fitsB s.O wDo = true) := by show fitsB _ _ = true; simp [fitsB, wIf, wWhile, wElse, wThen, wUntil, wAgain, wRepeat, wLoop, wPlus, wDo, wBegin]
  clear hW
  go_enter Tryz.func82, Tryz.ntmps82
  go_wp2_with fail
  refine (great_any s0 _ hs0).mono ?_
  rintro e w1 ⟨rfl, hb1⟩
  rw [HW.out]
  have H1 := H.below hb1 (Nat.le_refl _)
  go_wp2_with fail
  refine (fits_any B a _ _ _ _ H1 wDo).mono ?_
  rintro e w2 ⟨rfl, hg2⟩
  rw [Hfit.out]
  have H2 := H1.grown hg2
  have T2 : Touch w w2 a.blocks := pre_touch hb1 hg2
  have HC := Lib.hid (do_any B a s w2 H2 hO)
  have HT2 := Lib.hid T2
  clear H1 H2 T2 hb1 hg2
  unfold wDo
  go_wp2_with fail
  refine HC.out.mono ?_
  rintro e w3 ⟨rfl, N⟩
  have HN := Lib.hid (did_pre HT2.out (⟨rfl, N⟩ : Did w2 B a _ _ w3))
  clear N
  go_wp2_with fail
  go_ret
  exact HN.out
set_option maxRecDepth 100000 in
theorem form_while (B : Nat) (a : At) (M : List Int) (h : Nat) (O : List (Int × Int)) (v : Int) (w : World) (H : WvIs w B a M h (O ++ [(3, v)])) (hO : O.length < 4900) (s0 : ByteArray) (hs0 : s0.size ≤ 100000) (hW : (⟨(ups s0).toArray⟩ : ByteArray) = wWhile) :
    Calls Tryz.prog 82 #[.pointer (some ⟨a.sb, 0, none⟩), .string s0] w (Did w B a (forwardR ⟨M, h, O ++ [(3, v)]⟩ 4 4)) := by
  have HW := Lib.hid hW
  have Hfit : Hid (fitsB (O ++ [(3, v)]) wWhile = true) := by show fitsB _ _ = true; simp [fitsB, topB, wIf, wWhile, wElse, wThen, wUntil, wAgain, wRepeat, wLoop, wPlus, wDo, wBegin]
  clear hW
  go_enter Tryz.func82, Tryz.ntmps82
  go_wp2_with fail
  refine (great_any s0 _ hs0).mono ?_
  rintro e w1 ⟨rfl, hb1⟩
  rw [HW.out]
  have H1 := H.below hb1 (Nat.le_refl _)
  go_wp2_with fail
  refine (fits_any B a _ _ _ _ H1 wWhile).mono ?_
  rintro e w2 ⟨rfl, hg2⟩
  rw [Hfit.out]
  have H2 := H1.grown hg2
  have T2 : Touch w w2 a.blocks := pre_touch hb1 hg2
  have HC := Lib.hid (forward_any B a ⟨M, h, O ++ [(3, v)]⟩ w2 H2 4 4 (by simp; omega))
  have HT2 := Lib.hid T2
  clear H1 H2 T2 hb1 hg2
  unfold wWhile
  go_wp2_with fail
  refine HC.out.mono ?_
  rintro e w3 ⟨rfl, N⟩
  have HN := Lib.hid (did_pre HT2.out (⟨rfl, N⟩ : Did w2 B a _ _ w3))
  clear N
  go_wp2_with fail
  go_ret
  exact HN.out
set_option maxRecDepth 100000 in
theorem form_until (B : Nat) (a : At) (M : List Int) (h : Nat) (O : List (Int × Int)) (v : Int) (w : World) (H : WvIs w B a M h (O ++ [(3, v)])) (s0 : ByteArray) (hs0 : s0.size ≤ 100000) (hW : (⟨(ups s0).toArray⟩ : ByteArray) = wUntil) :
    Calls Tryz.prog 82 #[.pointer (some ⟨a.sb, 0, none⟩), .string s0] w (Did w B a (backwardR ⟨M, h, O ++ [(3, v)]⟩ O (3, v) 4)) := by
  have HW := Lib.hid hW
  have Hfit : Hid (fitsB (O ++ [(3, v)]) wUntil = true) := by show fitsB _ _ = true; simp [fitsB, topB, wIf, wWhile, wElse, wThen, wUntil, wAgain, wRepeat, wLoop, wPlus, wDo, wBegin]
  clear hW
  go_enter Tryz.func82, Tryz.ntmps82
  go_wp2_with fail
  refine (great_any s0 _ hs0).mono ?_
  rintro e w1 ⟨rfl, hb1⟩
  rw [HW.out]
  have H1 := H.below hb1 (Nat.le_refl _)
  go_wp2_with fail
  refine (fits_any B a _ _ _ _ H1 wUntil).mono ?_
  rintro e w2 ⟨rfl, hg2⟩
  rw [Hfit.out]
  have H2 := H1.grown hg2
  have T2 : Touch w w2 a.blocks := pre_touch hb1 hg2
  have HC := Lib.hid (backward_any B a M h O (3, v) w2 H2 4)
  have HT2 := Lib.hid T2
  clear H1 H2 T2 hb1 hg2
  unfold wUntil
  go_wp2_with fail
  refine HC.out.mono ?_
  rintro e w3 ⟨rfl, N⟩
  have HN := Lib.hid (did_pre HT2.out (⟨rfl, N⟩ : Did w2 B a _ _ w3))
  clear N
  go_wp2_with fail
  go_ret
  exact HN.out
set_option maxRecDepth 100000 in
theorem form_again (B : Nat) (a : At) (M : List Int) (h : Nat) (O : List (Int × Int)) (v : Int) (w : World) (H : WvIs w B a M h (O ++ [(3, v)])) (s0 : ByteArray) (hs0 : s0.size ≤ 100000) (hW : (⟨(ups s0).toArray⟩ : ByteArray) = wAgain) :
    Calls Tryz.prog 82 #[.pointer (some ⟨a.sb, 0, none⟩), .string s0] w (Did w B a (backwardR ⟨M, h, O ++ [(3, v)]⟩ O (3, v) 3)) := by
  have HW := Lib.hid hW
  have Hfit : Hid (fitsB (O ++ [(3, v)]) wAgain = true) := by show fitsB _ _ = true; simp [fitsB, topB, wIf, wWhile, wElse, wThen, wUntil, wAgain, wRepeat, wLoop, wPlus, wDo, wBegin]
  clear hW
  go_enter Tryz.func82, Tryz.ntmps82
  go_wp2_with fail
  refine (great_any s0 _ hs0).mono ?_
  rintro e w1 ⟨rfl, hb1⟩
  rw [HW.out]
  have H1 := H.below hb1 (Nat.le_refl _)
  go_wp2_with fail
  refine (fits_any B a _ _ _ _ H1 wAgain).mono ?_
  rintro e w2 ⟨rfl, hg2⟩
  rw [Hfit.out]
  have H2 := H1.grown hg2
  have T2 : Touch w w2 a.blocks := pre_touch hb1 hg2
  have HC := Lib.hid (backward_any B a M h O (3, v) w2 H2 3)
  have HT2 := Lib.hid T2
  clear H1 H2 T2 hb1 hg2
  unfold wAgain
  go_wp2_with fail
  refine HC.out.mono ?_
  rintro e w3 ⟨rfl, N⟩
  have HN := Lib.hid (did_pre HT2.out (⟨rfl, N⟩ : Did w2 B a _ _ w3))
  clear N
  go_wp2_with fail
  go_ret
  exact HN.out
set_option maxRecDepth 100000 in
theorem form_loop (B : Nat) (a : At) (M : List Int) (h : Nat) (O : List (Int × Int)) (v : Int) (w : World) (H : WvIs w B a M h (O ++ [(5, v)])) (s0 : ByteArray) (hs0 : s0.size ≤ 100000) (hW : (⟨(ups s0).toArray⟩ : ByteArray) = wLoop) :
    Calls Tryz.prog 82 #[.pointer (some ⟨a.sb, 0, none⟩), .string s0] w (Did w B a (backwardR ⟨M, h, O ++ [(5, v)]⟩ O (5, v) 37)) := by
  have HW := Lib.hid hW
  have Hfit : Hid (fitsB (O ++ [(5, v)]) wLoop = true) := by show fitsB _ _ = true; simp [fitsB, topB, wIf, wWhile, wElse, wThen, wUntil, wAgain, wRepeat, wLoop, wPlus, wDo, wBegin]
  clear hW
  go_enter Tryz.func82, Tryz.ntmps82
  go_wp2_with fail
  refine (great_any s0 _ hs0).mono ?_
  rintro e w1 ⟨rfl, hb1⟩
  rw [HW.out]
  have H1 := H.below hb1 (Nat.le_refl _)
  go_wp2_with fail
  refine (fits_any B a _ _ _ _ H1 wLoop).mono ?_
  rintro e w2 ⟨rfl, hg2⟩
  rw [Hfit.out]
  have H2 := H1.grown hg2
  have T2 : Touch w w2 a.blocks := pre_touch hb1 hg2
  have HC := Lib.hid (backward_any B a M h O (5, v) w2 H2 37)
  have HT2 := Lib.hid T2
  clear H1 H2 T2 hb1 hg2
  unfold wLoop
  go_wp2_with fail
  refine HC.out.mono ?_
  rintro e w3 ⟨rfl, N⟩
  have HN := Lib.hid (did_pre HT2.out (⟨rfl, N⟩ : Did w2 B a _ _ w3))
  clear N
  go_wp2_with fail
  go_ret
  exact HN.out
set_option maxRecDepth 100000 in
theorem form_plus (B : Nat) (a : At) (M : List Int) (h : Nat) (O : List (Int × Int)) (v : Int) (w : World) (H : WvIs w B a M h (O ++ [(5, v)])) (s0 : ByteArray) (hs0 : s0.size ≤ 100000) (hW : (⟨(ups s0).toArray⟩ : ByteArray) = wPlus) :
    Calls Tryz.prog 82 #[.pointer (some ⟨a.sb, 0, none⟩), .string s0] w (Did w B a (backwardR ⟨M, h, O ++ [(5, v)]⟩ O (5, v) 38)) := by
  have HW := Lib.hid hW
  have Hfit : Hid (fitsB (O ++ [(5, v)]) wPlus = true) := by show fitsB _ _ = true; simp [fitsB, topB, wIf, wWhile, wElse, wThen, wUntil, wAgain, wRepeat, wLoop, wPlus, wDo, wBegin]
  clear hW
  go_enter Tryz.func82, Tryz.ntmps82
  go_wp2_with fail
  refine (great_any s0 _ hs0).mono ?_
  rintro e w1 ⟨rfl, hb1⟩
  rw [HW.out]
  have H1 := H.below hb1 (Nat.le_refl _)
  go_wp2_with fail
  refine (fits_any B a _ _ _ _ H1 wPlus).mono ?_
  rintro e w2 ⟨rfl, hg2⟩
  rw [Hfit.out]
  have H2 := H1.grown hg2
  have T2 : Touch w w2 a.blocks := pre_touch hb1 hg2
  have HC := Lib.hid (backward_any B a M h O (5, v) w2 H2 38)
  have HT2 := Lib.hid T2
  clear H1 H2 T2 hb1 hg2
  unfold wPlus
  go_wp2_with fail
  refine HC.out.mono ?_
  rintro e w3 ⟨rfl, N⟩
  have HN := Lib.hid (did_pre HT2.out (⟨rfl, N⟩ : Did w2 B a _ _ w3))
  clear N
  go_wp2_with fail
  go_ret
  exact HN.out
set_option maxRecDepth 100000 in
theorem form_else (B : Nat) (a : At) (M : List Int) (h : Nat) (O : List (Int × Int)) (q : Nat) (w : World) (H : WvIs w B a M h (O ++ [(1, (q : Int))])) (hq : q < M.length) (s0 : ByteArray) (hs0 : s0.size ≤ 100000) (hW : (⟨(ups s0).toArray⟩ : ByteArray) = wElse) :
    Calls Tryz.prog 82 #[.pointer (some ⟨a.sb, 0, none⟩), .string s0] w (Did w B a (elseR ⟨M, h, O ++ [(1, (q : Int))]⟩ O q)) := by
  have HW := Lib.hid hW
  have Hfit : Hid (fitsB (O ++ [(1, (q : Int))]) wElse = true) := by show fitsB _ _ = true; simp [fitsB, topB, wIf, wWhile, wElse, wThen, wUntil, wAgain, wRepeat, wLoop, wPlus, wDo, wBegin]
  clear hW
  go_enter Tryz.func82, Tryz.ntmps82
  go_wp2_with fail
  refine (great_any s0 _ hs0).mono ?_
  rintro e w1 ⟨rfl, hb1⟩
  rw [HW.out]
  have H1 := H.below hb1 (Nat.le_refl _)
  go_wp2_with fail
  refine (fits_any B a _ _ _ _ H1 wElse).mono ?_
  rintro e w2 ⟨rfl, hg2⟩
  rw [Hfit.out]
  have H2 := H1.grown hg2
  have T2 : Touch w w2 a.blocks := pre_touch hb1 hg2
  have HC := Lib.hid (elseOf_any B a M h O 1 q w2 H2 hq)
  have HT2 := Lib.hid T2
  clear H1 H2 T2 hb1 hg2
  unfold wElse
  go_wp2_with fail
  refine HC.out.mono ?_
  rintro e w3 ⟨rfl, N⟩
  have HN := Lib.hid (did_pre HT2.out (⟨rfl, N⟩ : Did w2 B a _ _ w3))
  clear N
  go_wp2_with fail
  go_ret
  exact HN.out
set_option maxRecDepth 100000 in
theorem form_repeat (B : Nat) (a : At) (M : List Int) (h : Nat) (O : List (Int × Int)) (v : Int) (q : Nat) (w : World) (H : WvIs w B a M h (O ++ [(3, v)] ++ [(4, (q : Int))])) (hq : q < M.length) (s0 : ByteArray) (hs0 : s0.size ≤ 100000) (hW : (⟨(ups s0).toArray⟩ : ByteArray) = wRepeat) :
    Calls Tryz.prog 82 #[.pointer (some ⟨a.sb, 0, none⟩), .string s0] w (Did w B a (repeatR ⟨M, h, O ++ [(3, v)] ++ [(4, (q : Int))]⟩ O v q)) := by
  have HW := Lib.hid hW
  have Hfit : Hid (fitsB (O ++ [(3, v)] ++ [(4, (q : Int))]) wRepeat = true) := by show fitsB _ _ = true; simp [fitsB, topB, wIf, wWhile, wElse, wThen, wUntil, wAgain, wRepeat, wLoop, wPlus, wDo, wBegin]
  clear hW
  obtain ⟨r, hr0⟩ : ∃ r, repeatR ⟨M, h, O ++ [(3, v)] ++ [(4, (q : Int))]⟩ O v q = r := ⟨_, rfl⟩
  rw [hr0]
  have Hr0 := Lib.hid hr0
  clear hr0
  go_enter Tryz.func82, Tryz.ntmps82
  go_wp2_with fail
  refine (great_any s0 _ hs0).mono ?_
  rintro e w1 ⟨rfl, hb1⟩
  rw [HW.out]
  have H1 := H.below hb1 (Nat.le_refl _)
  go_wp2_with fail
  refine (fits_any B a _ _ _ _ H1 wRepeat).mono ?_
  rintro e w2 ⟨rfl, hg2⟩
  rw [Hfit.out]
  have H2 := H1.grown hg2
  have T2 : Touch w w2 a.blocks := pre_touch hb1 hg2
  have hC := repeat_any B a M h O 3 v 4 q w2 H2 hq
  rw [Hr0.out] at hC
  have HC := Lib.hid hC
  clear hC
  have HT2 := Lib.hid T2
  clear H1 H2 T2 hb1 hg2
  unfold wRepeat
  go_wp2_with fail
  refine HC.out.mono ?_
  rintro e w3 ⟨rfl, N⟩
  have HN := Lib.hid (did_pre HT2.out (⟨rfl, N⟩ : Did w2 B a _ _ w3))
  clear N
  go_wp2_with fail
  go_ret
  exact HN.out
set_option maxRecDepth 100000 in
theorem form_begin (B : Nat) (a : At) (s : St) (w : World) (H : WvIs w B a s.M s.h s.O) (hO : s.O.length < 5000) (s0 : ByteArray) (hs0 : s0.size ≤ 100000) (hW : (⟨(ups s0).toArray⟩ : ByteArray) = wBegin) :
    Calls Tryz.prog 82 #[.pointer (some ⟨a.sb, 0, none⟩), .string s0] w (Did w B a (0, ⟨s.M, s.h, s.O ++ [(3, (s.h : Int))]⟩)) := by
  have HW := Lib.hid hW
  have Hfit : Hid (fitsB s.O wBegin = true) := by show fitsB _ _ = true; simp [fitsB, wWhile, wElse, wThen, wUntil, wAgain, wRepeat, wLoop, wPlus, wBegin]
  clear hW
  go_enter Tryz.func82, Tryz.ntmps82
  go_wp2_with fail
  refine (great_any s0 _ hs0).mono ?_
  rintro e w1 ⟨rfl, hb1⟩
  rw [HW.out]
  have H1 := H.below hb1 (Nat.le_refl _)
  go_wp2_with fail
  refine (fits_any B a _ _ _ _ H1 wBegin).mono ?_
  rintro e w2 ⟨rfl, hg2⟩
  rw [Hfit.out]
  have H2 := H1.grown hg2
  have T2 : Touch w w2 a.blocks := pre_touch hb1 hg2
  have c1 := H2.c1
  have HC := Lib.hid (push_any B a s w2 H2 3 (s.h : Int) hO)
  have HT2 := Lib.hid T2
  clear H1 H2 T2 hb1 hg2
  unfold wBegin
  go_wp2_with fail
  refine HC.out.mono ?_
  rintro e w3 ⟨rfl, N⟩
  have HN := Lib.hid (did_pre HT2.out (⟨rfl, N⟩ : Did w2 B a (0, ⟨s.M, s.h, s.O ++ [(3, (s.h : Int))]⟩) _ w3))
  clear N
  go_wp2_with fail
  go_ret
  exact HN.out
set_option maxHeartbeats 1000000 in
set_option maxRecDepth 100000 in
theorem form_then (B : Nat) (a : At) (M : List Int) (h : Nat) (O : List (Int × Int)) (k : Int) (q : Nat) (hk : k = 1 ∨ k = 2) (w : World) (H : WvIs w B a M h (O ++ [(k, (q : Int))])) (hq : q < M.length)
    (s0 : ByteArray) (hs0 : s0.size ≤ 100000) (hW : (⟨(ups s0).toArray⟩ : ByteArray) = wThen) :
    Calls Tryz.prog 82 #[.pointer (some ⟨a.sb, 0, none⟩), .string s0] w (Did w B a (0, ⟨M.set q (h : Int), h, O⟩)) := by
  have HW := Lib.hid hW
  have Hfit : Hid (fitsB (O ++ [(k, (q : Int))]) wThen = true) := by
    show fitsB _ _ = true
    rcases hk with rfl | rfl <;> simp [fitsB, topB, wElse, wThen]
  have hs := H.small
  obtain ⟨g, hA⟩ := mem_addr H (by omega)
  clear hW hk
  go_enter Tryz.func82, Tryz.ntmps82
  go_wp2_with fail
  refine (great_any s0 _ hs0).mono ?_
  rintro e w1 ⟨rfl, hb1⟩
  rw [HW.out]
  have H1 := H.below hb1 (Nat.le_refl _)
  go_wp2_with fail
  refine (fits_any B a _ _ _ _ H1 wThen).mono ?_
  rintro e w2 ⟨rfl, hg2⟩
  rw [Hfit.out]
  have H2 := H1.grown hg2
  have T2 : Touch w w2 a.blocks := pre_touch hb1 hg2
  have c0 := H2.c0
  rw [hA] at c0
  have c1 := H2.c1
  have HPop := Lib.hid (pop_keep B a M h O (k, (q : Int)) w2.drew (H2.drewN 1) g hA q hq)
  have HT := Lib.hid T2
  clear H1 H2 T2 hb1 hg2
  have hq2 : (q : Int) < (M.length : Int) := by omega
  have hq3 : (0 : Int) ≤ (q : Int) := by omega
  unfold wThen
  go_upto_region 14 with fail
  go_cut [] (fun wc => WvIs wc B a (M.set q (h : Int)) h O ∧ Touch w wc a.blocks)
  case first =>
    go_region_with ((go_at_call 118; refine HPop.out.mono ?_; rintro e w3 ⟨rfl, d0, d1, dq, fq, HH⟩))
    all_goals
      go_wp2_with fail
      go_meet
      have SD := set_done HH.out.1 hA q (h : Int)
      exact ⟨SD.1, (HT.out.trans (HH.out.2.drewN' 1) (fun _ h => Or.inl h)).trans SD.2 (fun _ h => Or.inl h)⟩
  case rest =>
    obtain ⟨H3, T3⟩ := hcut
    have HN : Hid (Did w B a (0, ⟨M.set q (h : Int), h, O⟩) (.returned (.int .i64 0)) wc) := ⟨rfl, Next.same H3 T3⟩
    clear H3 T3
    go_wp2_with fail
    go_ret
    exact HN.out
theorem form_unfit (B : Nat) (a : At) (s : St) (w : World) (H : WvIs w B a s.M s.h s.O) (s0 : ByteArray) (hs0 : s0.size ≤ 100000) (hf : fitsB s.O ⟨(ups s0).toArray⟩ = false) :
    Calls Tryz.prog 82 #[.pointer (some ⟨a.sb, 0, none⟩), .string s0] w (Did w B a (-22, s)) := by
  have Hfit := Lib.hid hf
  clear hf
  go_enter Tryz.func82, Tryz.ntmps82
  go_wp2_with fail
  refine (great_any s0 _ hs0).mono ?_
  rintro e w1 ⟨rfl, hb1⟩
  have H1 := H.below hb1 (Nat.le_refl _)
  generalize (⟨(ups s0).toArray⟩ : ByteArray) = W at *
  go_wp2_with fail
  refine (fits_any B a _ _ _ _ H1 W).mono ?_
  rintro e w2 ⟨rfl, hg2⟩
  rw [Hfit.out]
  have H2 := H1.grown hg2
  have T2 : Touch w w2 a.blocks := pre_touch hb1 hg2
  have HN : Hid (Did w B a (-22, s) (.returned (.int .i64 (-22))) w2) := ⟨rfl, Next.same H2 T2⟩
  clear H1 H2 T2 hb1 hg2
  go_wp2_with fail
  go_ret
  exact HN.out
set_option maxRecDepth 100000 in
theorem form_other (B : Nat) (a : At) (s : St) (w : World) (H : WvIs w B a s.M s.h s.O) (s0 : ByteArray) (hs0 : s0.size ≤ 100000) (W : ByteArray) (hW : (⟨(ups s0).toArray⟩ : ByteArray) = W) (h1 : W ≠ wElse) (h2 : W ≠ wThen) (h3 : W ≠ wUntil) (h4 : W ≠ wAgain) (h5 : W ≠ wWhile) (h6 : W ≠ wRepeat) (h7 : W ≠ wLoop) (h8 : W ≠ wPlus)
    (h9 : W ≠ wIf) (h10 : W ≠ wBegin) (h11 : W ≠ wDo) :
    Calls Tryz.prog 82 #[.pointer (some ⟨a.sb, 0, none⟩), .string s0] w (Did w B a (-13, s)) := by
  have HW := Lib.hid hW
  have Hfit : Hid (fitsB s.O W = true) := by show fitsB _ _ = true; simp [fitsB, h1, h2, h3, h4, h5, h6, h7, h8]
  have e1 : (W.toList == [69, 76, 83, 69]) = false := ne_lit h1
  have e2 : (W.toList == [84, 72, 69, 78]) = false := ne_lit h2
  have e3 : (W.toList == [85, 78, 84, 73, 76]) = false := ne_lit h3
  have e4 : (W.toList == [65, 71, 65, 73, 78]) = false := ne_lit h4
  have e5 : (W.toList == [87, 72, 73, 76, 69]) = false := ne_lit h5
  have e6 : (W.toList == [82, 69, 80, 69, 65, 84]) = false := ne_lit h6
  have e7 : (W.toList == [76, 79, 79, 80]) = false := ne_lit h7
  have e8 : (W.toList == [43, 76, 79, 79, 80]) = false := ne_lit h8
  have e9 : (W.toList == [73, 70]) = false := ne_lit h9
  have e10 : (W.toList == [66, 69, 71, 73, 78]) = false := ne_lit h10
  have e11 : (W.toList == [68, 79]) = false := ne_lit h11
  clear hW h1 h2 h3 h4 h5 h6 h7 h8 h9 h10 h11
  go_enter Tryz.func82, Tryz.ntmps82
  go_wp2_with fail
  refine (great_any s0 _ hs0).mono ?_
  rintro e w1 ⟨rfl, hb1⟩
  rw [HW.out]
  have H1 := H.below hb1 (Nat.le_refl _)
  go_wp2_with fail
  refine (fits_any B a _ _ _ _ H1 W).mono ?_
  rintro e w2 ⟨rfl, hg2⟩
  rw [Hfit.out]
  have H2 := H1.grown hg2
  have T2 : Touch w w2 a.blocks := pre_touch hb1 hg2
  have HN : Hid (Did w B a (-13, s) (.returned (.int .i64 (-13))) w2) := ⟨rfl, Next.same H2 T2⟩
  clear H1 H2 T2 hb1 hg2
  go_wp2_with fail
  go_ret
  exact HN.out
end Go.Proofs.YtompdfpjmdnhoabGreatDoor.Wv
namespace Go.Proofs.YtompdfpjmdnhoabGreatDoor.Wv
open Go.RowKit
def last (O : List (Int × Int)) : Int × Int := O.getD (O.length - 1) (0, 0)
theorem last_snoc (O : List (Int × Int)) (p : Int × Int) : last (O ++ [p]) = p := by simp [last]
def formR (s : St) (W : ByteArray) : Int × St :=
  if fitsB s.O W = false then (-22, s)
  else if W = wIf then forwardR s 4 1
  else if W = wWhile then forwardR s 4 4
  else if W = wElse then elseR s s.O.dropLast (last s.O).2.toNat
  else if W = wThen then (0, ⟨s.M.set (last s.O).2.toNat (s.h : Int), s.h, s.O.dropLast⟩)
  else if W = wBegin then (0, ⟨s.M, s.h, s.O ++ [(3, (s.h : Int))]⟩)
  else if W = wUntil then backwardR s s.O.dropLast (last s.O) 4
  else if W = wAgain then backwardR s s.O.dropLast (last s.O) 3
  else if W = wRepeat then repeatR s s.O.dropLast.dropLast (last s.O.dropLast).2 (last s.O).2.toNat
  else if W = wDo then doR s
  else if W = wLoop then backwardR s s.O.dropLast (last s.O) 37
  else if W = wPlus then backwardR s s.O.dropLast (last s.O) 38
  else (-13, s)
def OkO (s : St) : Prop := ∀ p ∈ s.O, (p.1 = 1 ∨ p.1 = 2 ∨ p.1 = 4) → ∃ q : Nat, p.2 = (q : Int) ∧ q < s.M.length
theorem top_zero {O : List (Int × Int)} {K : List Int} (h : topB O 0 K = true) : ∃ O0 p, O = O0 ++ [p] ∧ p.1 ∈ K := by
  unfold topB at h
  simp only [Bool.and_eq_true, decide_eq_true_eq] at h
  obtain ⟨h1, h2⟩ := h
  have hne : O ≠ [] := by intro e; subst e; simp at h1
  refine ⟨O.dropLast, O.getLast hne, (List.dropLast_concat_getLast hne).symm, ?_⟩
  have e : O.getD (O.length - 1 - 0) (0, 0) = O.getLast hne := by
    rw [Nat.sub_zero, List.getLast_eq_getElem]
    simp [List.getD, h1]
    rw [List.getElem?_eq_getElem (by omega)]
    rfl
  rw [e] at h2
  simpa using h2
theorem top_one {O : List (Int × Int)} {p : Int × Int} {K : List Int} (h : topB (O ++ [p]) 1 K = true) : ∃ O0 p', O = O0 ++ [p'] ∧ p'.1 ∈ K := by
  apply top_zero
  unfold topB at h ⊢
  simp only [Bool.and_eq_true, decide_eq_true_eq] at h ⊢
  obtain ⟨h1, h2⟩ := h
  simp at h1
  refine ⟨h1, ?_⟩
  have e : (O ++ [p]).getD ((O ++ [p]).length - 1 - 1) (0, 0) = O.getD (O.length - 1 - 0) (0, 0) := by
    simp [List.getD]
    rw [List.getElem?_append_left (by omega)]
  rw [e] at h2
  exact h2
theorem form_any (B : Nat) (a : At) (s : St) (w : World) (H : WvIs w B a s.M s.h s.O) (hOk : OkO s) (hO : s.O.length < 4900) (s0 : ByteArray) (hs0 : s0.size ≤ 100000) :
    Calls Tryz.prog 82 #[.pointer (some ⟨a.sb, 0, none⟩), .string s0] w (Did w B a (formR s ⟨(ups s0).toArray⟩)) := by
  obtain ⟨W, hW⟩ : ∃ W, (⟨(ups s0).toArray⟩ : ByteArray) = W := ⟨_, rfl⟩
  rw [hW]
  cases hf : fitsB s.O W
  · unfold formR
    rw [if_pos hf]
    exact form_unfit B a s w H s0 hs0 (by rw [hW]; exact hf)
  unfold formR
  rw [if_neg (by simp [hf])]
  by_cases h1 : W = wIf
  · rw [if_pos h1]; exact form_if B a s w H (by omega) s0 hs0 (hW.trans h1)
  rw [if_neg h1]
  obtain ⟨M, h, O⟩ := s
  simp only at H hf hO ⊢
  by_cases h2 : W = wWhile
  · rw [if_pos h2]
    have hf' : topB O 0 [3] = true := by subst h2; simpa [fitsB, wWhile, wElse, wThen, wUntil, wAgain] using hf
    obtain ⟨O0, ⟨k, v⟩, rfl, hk⟩ := top_zero hf'
    simp at hk; subst hk
    exact form_while B a M h O0 v w H (by simp at hO; omega) s0 hs0 (hW.trans h2)
  rw [if_neg h2]
  by_cases h3 : W = wElse
  · rw [if_pos h3]
    have hf' : topB O 0 [1] = true := by subst h3; simpa [fitsB] using hf
    obtain ⟨O0, ⟨k, v⟩, rfl, hk⟩ := top_zero hf'
    simp at hk; subst hk
    obtain ⟨q, hq, hql⟩ := hOk (1, v) (by simp) (Or.inl rfl)
    simp only at hq hql; subst hq
    rw [last_snoc, List.dropLast_concat]
    exact form_else B a M h O0 q w H hql s0 hs0 (hW.trans h3)
  rw [if_neg h3]
  by_cases h4 : W = wThen
  · rw [if_pos h4]
    have hf' : topB O 0 [1, 2] = true := by subst h4; simpa [fitsB, wElse, wThen] using hf
    obtain ⟨O0, ⟨k, v⟩, rfl, hk⟩ := top_zero hf'
    simp at hk
    obtain ⟨q, hq, hql⟩ := hOk (k, v) (by simp) (by simp; omega)
    simp only at hq hql; subst hq
    rw [last_snoc, List.dropLast_concat]
    exact form_then B a M h O0 k q hk w H hql s0 hs0 (hW.trans h4)
  rw [if_neg h4]
  by_cases h5 : W = wBegin
  · rw [if_pos h5]; exact form_begin B a ⟨M, h, O⟩ w H (by simp only; omega) s0 hs0 (hW.trans h5)
  rw [if_neg h5]
  by_cases h6 : W = wUntil
  · rw [if_pos h6]
    have hf' : topB O 0 [3] = true := by subst h6; simpa [fitsB, wWhile, wElse, wThen, wUntil, wAgain] using hf
    obtain ⟨O0, ⟨k, v⟩, rfl, hk⟩ := top_zero hf'
    simp at hk; subst hk
    rw [last_snoc, List.dropLast_concat]
    exact form_until B a M h O0 v w H s0 hs0 (hW.trans h6)
  rw [if_neg h6]
  by_cases h7 : W = wAgain
  · rw [if_pos h7]
    have hf' : topB O 0 [3] = true := by subst h7; simpa [fitsB, wWhile, wElse, wThen, wUntil, wAgain] using hf
    obtain ⟨O0, ⟨k, v⟩, rfl, hk⟩ := top_zero hf'
    simp at hk; subst hk
    rw [last_snoc, List.dropLast_concat]
    exact form_again B a M h O0 v w H s0 hs0 (hW.trans h7)
  rw [if_neg h7]
  by_cases h8 : W = wRepeat
  · rw [if_pos h8]
    have hf' : (topB O 0 [4] && topB O 1 [3]) = true := by subst h8; simpa [fitsB, wWhile, wElse, wThen, wUntil, wAgain, wRepeat] using hf
    rw [Bool.and_eq_true] at hf'
    obtain ⟨O1, ⟨k, v⟩, rfl, hk⟩ := top_zero hf'.1
    obtain ⟨O0, ⟨k', v'⟩, rfl, hk'⟩ := top_one hf'.2
    simp at hk hk'; subst hk; subst hk'
    obtain ⟨q, hq, hql⟩ := hOk (4, v) (by simp) (Or.inr (Or.inr rfl))
    simp only at hq hql; subst hq
    rw [last_snoc, List.dropLast_concat, last_snoc, List.dropLast_concat]
    exact form_repeat B a M h O0 v' q w H hql s0 hs0 (hW.trans h8)
  rw [if_neg h8]
  by_cases h9 : W = wDo
  · rw [if_pos h9]; exact form_do B a ⟨M, h, O⟩ w H (by simp only; omega) s0 hs0 (hW.trans h9)
  rw [if_neg h9]
  by_cases h10 : W = wLoop
  · rw [if_pos h10]
    have hf' : topB O 0 [5] = true := by subst h10; simpa [fitsB, wWhile, wElse, wThen, wUntil, wAgain, wRepeat, wLoop] using hf
    obtain ⟨O0, ⟨k, v⟩, rfl, hk⟩ := top_zero hf'
    simp at hk; subst hk
    rw [last_snoc, List.dropLast_concat]
    exact form_loop B a M h O0 v w H s0 hs0 (hW.trans h10)
  rw [if_neg h10]
  by_cases h11 : W = wPlus
  · rw [if_pos h11]
    have hf' : topB O 0 [5] = true := by subst h11; simpa [fitsB, wWhile, wElse, wThen, wUntil, wAgain, wRepeat, wLoop, wPlus] using hf
    obtain ⟨O0, ⟨k, v⟩, rfl, hk⟩ := top_zero hf'
    simp at hk; subst hk
    rw [last_snoc, List.dropLast_concat]
    exact form_plus B a M h O0 v w H s0 hs0 (hW.trans h11)
  rw [if_neg h11]
  exact form_other B a ⟨M, h, O⟩ w H s0 hs0 W hW h3 h4 h6 h7 h2 h8 h10 h11 h1 h5 h9
set_option maxRecDepth 100000 in
theorem new_any (B : Nat) (A : Option Addr) (cap : Nat) (M : List Int) (here : Int) (w : World) (H : w.ownsRow B 3 1 (.slice A M.length cap) M.length (M.map (Value.int .i64))) (hs : M.length ≤ 5000) (h : Nat) (hh : (h : Int) = min (max here 0) M.length) :
    Calls Tryz.prog 89 #[.slice A M.length cap, .int .i64 here] w fun e w' => ∃ a : At, e = .returned (.pointer (some ⟨a.sb, 0, none⟩)) ∧ WvIs w' w.heap.size a M h [] ∧ Below w.heap.size w w' := by
  have Hh := Lib.hid hh
  clear hh
  go_enter Tryz.func89, Tryz.ntmps89
  go_wp2_with fail
  refine (clone_own B A cap M w H hs).mono ?_
  rintro e w1 ⟨A', cap', rfl, ho, hb⟩
  go_wp2
  go_ret
  rw [← Hh.out]
  have hz := hb.size
  have hT := alloc_touch w1 (.cells #[.slice A' M.length cap', .int .i64 (h : Int), .slice none 0 0] 140) (fun _ => False)
  exact ⟨⟨w1.heap.size, A', cap', none, 0⟩, rfl,
    { blk := heap_alloc_new w1 _
      base := hz
      mem := own_touch ho hT (fun _ _ => id)
      opn := World.ownsRow_nil _ _ _ _
      here := by have := Hh.out; omega
      small := hs
      few := by simp }, hb.alloc hz _⟩
end Go.Proofs.YtompdfpjmdnhoabGreatDoor.Wv
namespace Go.Proofs.YtompdfpjmdnhoabGreatDoor.Ou
open Go.RowKit Go.Proofs.YtompdfpjmdnhoabGreatDoor.Src
structure Wd where
  name : ByteArray
  xt : Int
  op : Int
  imm : Bool
structure Dr where
  s : Wv.St
  name : ByteArray
  at_ : Nat
structure OS where
  m : Mc.S
  words : List Wd
  here : Nat
  base : Int
  line : Option (List UInt8)
  draft : Option Dr
  runs : Bool
  last : ByteArray
  laid : List Int
def wd0 : Wd := ⟨ByteArray.empty, 0, 0, false⟩
def ups (s : ByteArray) : List UInt8 := s.data.toList.map Wv.up
def same (a b : ByteArray) : Bool := ups a == ups b
def rightN (n : ByteArray) : Bool := n.data.toList.all (fun c => decide (32 < c.toNat)) && decide (0 < n.size) && decide (n.size ≤ 20)
def findIx (ws : List Wd) (n : ByteArray) : Nat → Option Nat
  | 0 => none
  | k + 1 => if same (ws.getD k wd0).name n = true then some k else findIx ws n k
def find (ws : List Wd) (n : ByteArray) : Option Wd := (findIx ws n ws.length).map fun k => ws.getD k wd0
def add (ws : List Wd) (x : Wd) : Int × List Wd := if rightN x.name = false then (-16, ws) else if 200 ≤ ws.length then (-8, ws) else (0, ws ++ [x])
abbrev R := Int × OS
def fault (o : OS) : OS := { o with line := none, draft := none, runs := false, m := { o.m with stack := [], back := [], handler := 0, status := 1 } }
def read (o : OS) : ByteArray × Bool × OS :=
  match o.line with
  | none => (ByteArray.empty, false, o)
  | some l =>
    let r := l.dropWhile (isB true)
    let w : ByteArray := ⟨(r.takeWhile (isB false)).toArray⟩
    let l2 := (r.dropWhile (isB false)).drop 1
    if r.isEmpty = true then (ByteArray.empty, false, { o with line := some l2 }) else (w, true, { o with line := some l2, last := w })
def untilB (o : OS) (c : UInt8) : ByteArray × OS :=
  match o.line with
  | none => (ByteArray.empty, o)
  | some l => (⟨(l.takeWhile (fun x => x != c)).toArray⟩, { o with line := some ((l.dropWhile (fun x => x != c)).drop 1) })
def push (o : OS) (v : Int) : R := if 48 ≤ o.m.stack.length then (-3, o) else (0, { o with m := Mc.push o.m [v] })
def pop (o : OS) : Int × Int × OS := if o.m.stack.length = 0 then (0, -4, o) else (Mc.top o.m.stack, 0, { o with m := Mc.pop o.m })
def name (o : OS) : ByteArray × Int × OS :=
  let r := read o
  if r.2.1 = false ∨ rightN r.1 = false then (ByteArray.empty, -16, r.2.2) else (r.1, 0, r.2.2)
def room (o : OS) (n : Nat) : Int := if (o.m.mem.length : Int) - o.here < n then -8 else 0
def cellsFrom (a n : Nat) : List Int := (List.range n).map fun k => ((a + k : Nat) : Int)
def layO (o : OS) (L : List Int) : OS := { o with m := { o.m with mem := Wv.lay o.m.mem o.here L }, here := o.here + L.length, laid := o.laid ++ cellsFrom o.here L.length }
def define (o : OS) (n : ByteArray) (L : List Int) : R :=
  if 200 ≤ o.words.length then (-8, o) else if room o L.length ≠ 0 then (room o L.length, o)
  else (0, layO { o with words := (add o.words ⟨n, o.here, -1, false⟩).2 } L)
def findO (o : OS) : Wd × Int × OS :=
  let r := name o
  if r.2.1 ≠ 0 then (wd0, r.2.1, r.2.2) else
  match find r.2.2.words r.1 with
  | some x => (x, 0, r.2.2)
  | none => (wd0, -13, r.2.2)
def forgetX (o1 : OS) (x : Wd) : R :=
  if x.xt < 192 then (-13, o1)
  else (0, { o1 with words := o1.words.take ((findIx o1.words x.name o1.words.length).getD 0), here := x.xt.toNat, laid := o1.laid ++ cellsFrom x.xt.toNat (o1.m.mem.length - x.xt.toNat) })
def forget (o : OS) : R :=
  let r := findO o
  if r.2.1 ≠ 0 then (r.2.1, r.2.2) else forgetX r.2.2 r.1
def wv (o : OS) (f : Wv.St → Int × Wv.St) : R :=
  match o.draft with
  | none => (-13, o)
  | some d => ((f d.s).1, { o with draft := some { d with s := (f d.s).2 } })
def lit (o : OS) (v : Int) : R := wv o fun s => Wv.argR s 2 v
def opW (o : OS) (c : Int) : R := wv o fun s => Wv.opR s c
def literal (o : OS) (v : Int) : R := if o.draft.isSome = true then lit o v else push o v
def finish (o : OS) : R :=
  let r := opW o 5
  if r.1 ≠ 0 then r else
  match r.2.draft with
  | none => r
  | some d =>
    if 0 < d.s.O.length then (-22, r.2)
    else
      let q := add r.2.words ⟨d.name, d.at_, -1, false⟩
      if q.1 ≠ 0 then (q.1, r.2)
      else (0, { layO { r.2 with words := q.2, here := d.at_ } ((d.s.M.take d.s.h).drop d.at_) with draft := none })
def found (o : OS) (x : Wd) : R :=
  if o.draft.isSome = false ∨ x.imm = true then (0, { o with m := Mc.enter o.m x.xt, runs := true })
  else if 0 ≤ x.op then opW o x.op else wv o fun s => Wv.callR s x.xt
def sayW (o : OS) : List UInt8 → R
  | [] => (0, o)
  | c :: l =>
    let r := lit o c.toNat
    if r.1 ≠ 0 then r else
      let q := opW r.2 41
      if q.1 ≠ 0 then q else sayW q.2 l
def say (o : OS) (t : ByteArray) : R :=
  if o.draft.isSome = false then (if 2000 < o.m.out.size + t.size then (-57, o) else (0, { o with m := { o.m with out := o.m.out ++ t } }))
  else sayW o t.data.toList
def skipL (o : OS) : OS :=
  match o.line with
  | none => o
  | some _ => { o with line := some [] }
def oColon : List UInt8 := [58]
def oConstant : List UInt8 := [67, 79, 78, 83, 84, 65, 78, 84]
def oVariable : List UInt8 := [86, 65, 82, 73, 65, 66, 76, 69]
def oCreate : List UInt8 := [67, 82, 69, 65, 84, 69]
def oComma : List UInt8 := [44]
def oAllot : List UInt8 := [65, 76, 76, 79, 84]
def oHere : List UInt8 := [72, 69, 82, 69]
def oTick : List UInt8 := [39]
def oImmediate : List UInt8 := [73, 77, 77, 69, 68, 73, 65, 84, 69]
def oForget : List UInt8 := [70, 79, 82, 71, 69, 84]
def oSemi : List UInt8 := [59]
def oBtick : List UInt8 := [91, 39, 93]
def oExit : List UInt8 := [69, 88, 73, 84]
def oI : List UInt8 := [73]
def oJ : List UInt8 := [74]
def oUnloop : List UInt8 := [85, 78, 76, 79, 79, 80]
def oRecurse : List UInt8 := [82, 69, 67, 85, 82, 83, 69]
def oLiteral : List UInt8 := [76, 73, 84, 69, 82, 65, 76]
def oIf : List UInt8 := [73, 70]
def oElse : List UInt8 := [69, 76, 83, 69]
def oThen : List UInt8 := [84, 72, 69, 78]
def oBegin : List UInt8 := [66, 69, 71, 73, 78]
def oUntil : List UInt8 := [85, 78, 84, 73, 76]
def oAgain : List UInt8 := [65, 71, 65, 73, 78]
def oWhile : List UInt8 := [87, 72, 73, 76, 69]
def oRepeat : List UInt8 := [82, 69, 80, 69, 65, 84]
def oDo : List UInt8 := [68, 79]
def oLoop : List UInt8 := [76, 79, 79, 80]
def oPlus : List UInt8 := [43, 76, 79, 79, 80]
def oParen : List UInt8 := [40]
def oBack : List UInt8 := [92]
def oSay : List UInt8 := [46, 34]
def oChar : List UInt8 := [67, 72, 65, 82]
def oHex : List UInt8 := [72, 69, 88]
def oDecimal : List UInt8 := [68, 69, 67, 73, 77, 65, 76]
def idleL : List (List UInt8) := [oColon, oConstant, oVariable, oCreate, oComma, oAllot, oHere, oTick, oImmediate, oForget]
def busyL : List (List UInt8) := [oSemi, oBtick, oExit, oI, oJ, oUnloop, oRecurse, oLiteral, oIf, oElse, oThen, oBegin, oUntil, oAgain, oWhile, oRepeat, oDo, oLoop, oPlus]
def bothL : List (List UInt8) := [oParen, oBack, oSay, oChar, oHex, oDecimal]
def ownC (u : List UInt8) : Nat := if idleL.contains u = true then 1 else if busyL.contains u = true then 2 else if bothL.contains u = true then 3 else 0
def always (o : OS) (u : List UInt8) : R :=
  if u = oParen then (0, (untilB o 41).2) else if u = oBack then (0, skipL o)
  else if u = oSay then say (untilB o 34).2 (untilB o 34).1
  else if u = oChar then (let r := read o; if r.2.1 = false then (-16, r.2.2) else literal r.2.2 ((r.1.data.toList.getD 0 0).toNat : Int))
  else if u = oHex then (0, { o with base := 16 }) else (0, { o with base := 10 })
def litPop (o : OS) : R :=
  let r := pop o
  if r.2.1 ≠ 0 then (r.2.1, r.2.2) else lit r.2.2 r.1
def recurse (o : OS) : R := match o.draft with | none => (-13, o) | some d => wv o fun s => Wv.callR s d.at_
def compX (o : OS) (u : List UInt8) : R :=
  if u = oSemi then finish o
  else if u = oExit then opW o 5 else if u = oI then opW o 35 else if u = oJ then opW o 39 else if u = oUnloop then opW o 40
  else if u = oRecurse then recurse o
  else if u = oLiteral then litPop o
  else wv o fun s => Wv.formR s ⟨u.toArray⟩
def compile (o : OS) (u : List UInt8) : R :=
  if u = oBtick then (let r := findO o; if r.2.1 ≠ 0 then (r.2.1, r.2.2) else lit r.2.2 r.1.xt) else compX o u
def comma (o : OS) : R :=
  let r := pop o
  if r.2.1 ≠ 0 then (r.2.1, r.2.2) else if room r.2.2 1 ≠ 0 then (room r.2.2 1, r.2.2) else (0, layO r.2.2 [r.1])
def allot (o : OS) : R :=
  let r := pop o
  if r.2.1 ≠ 0 then (r.2.1, r.2.2) else if r.1 < -(r.2.2.here : Int) ∨ (r.2.2.m.mem.length : Int) - r.2.2.here < r.1 then (-8, r.2.2)
  else (0, { r.2.2 with here := ((r.2.2.here : Int) + r.1).toNat })
def immediate (o : OS) : R :=
  if o.words.length = 0 then (-13, o) else (0, { o with words := o.words.set (o.words.length - 1) { o.words.getD (o.words.length - 1) wd0 with imm := true } })
def defX (o : OS) (u : List UInt8) (n : ByteArray) : R :=
  if u = oConstant then (let q := pop o; if q.2.1 ≠ 0 then (q.2.1, q.2.2) else define q.2.2 n [2, q.1, 5])
  else if u = oVariable then define o n [2, o.here + 3, 5, 0]
  else if u = oCreate then define o n [2, o.here + 3, 5]
  else (0, { o with draft := some ⟨⟨o.m.mem, o.here, []⟩, n, o.here⟩ })
def defining (o : OS) (u : List UInt8) : R :=
  if u = oComma then comma o else if u = oAllot then allot o else if u = oHere then push o o.here
  else if u = oTick then (let r := findO o; if r.2.1 ≠ 0 then (r.2.1, r.2.2) else push r.2.2 r.1.xt)
  else if u = oImmediate then immediate o else if u = oForget then forget o
  else
    let r := name o
    if r.2.1 ≠ 0 then (r.2.1, r.2.2) else defX r.2.2 u r.1
def own (o : OS) (u : List UInt8) (k : Nat) : R :=
  if k = 3 then always o u else if (k = 2) ≠ (o.draft.isSome = true) then (-14, o) else if k = 2 then compile o u else defining o u
def word (o : OS) (w : ByteArray) : R :=
  match find o.words w with
  | some x => found o x
  | none =>
    if ownC (ups w) ≠ 0 then own o (ups w) (ownC (ups w))
    else
      let g := Dg.getV w.data.toList o.base
      if g.2 = false then (-13, o) else literal o g.1
def goW : Nat → OS → Int × Bool × OS
  | 0, o => (0, false, o)
  | n + 1, o =>
    let r := read o
    if r.2.1 = false then (0, false, { r.2.2 with line := none }) else
      let q := word r.2.2 r.1
      if q.1 ≠ 0 then (q.1, false, fault q.2) else if q.2.runs = true then (0, true, q.2) else goW n q.2
def fuelW (o : OS) : Nat := match o.line with | none => 0 | some l => l.length + 1
def go (o : OS) : Int × Bool × OS :=
  if o.line.isSome = false then (0, false, o)
  else if o.runs = true then
    (if o.m.status = 2 then (o.m.code, false, fault o) else if o.m.status = 0 then (0, true, o) else goW (fuelW o) { o with runs := false })
  else goW (fuelW o) o
def begin_ (o : OS) (t : ByteArray) : OS := { o with line := some t.data.toList, last := ByteArray.empty }
def lineL : Nat → Nat → OS → Int × Nat × OS
  | 0, f, o => (0, f, o)
  | n + 1, f, o =>
    let r := go o
    if r.2.1 = false ∨ f = 0 then (r.1, f, r.2.2)
    else lineL n (Mc.run f r.2.2.m).2 { r.2.2 with m := (Mc.run f r.2.2.m).1 }
def line (o : OS) (t : ByteArray) (f : Nat) : Int × Nat × OS :=
  if o.line.isSome = true then lineL (f + 1) f o
  else if 600 < t.size then (-8, f, o) else lineL (f + 1) f (begin_ o t)
def firstB (c : Nat) : Bool := !(c == 2 || c == 3 || c == 4 || c == 37 || c == 38 || c == 5 || c == 36 || c == 39 || c == 40 || c == 47 || c == 0 || c == 1)
def words0 (name : Int → ByteArray) : List Wd := ((List.range 48).filter firstB).map fun (c : Nat) => ⟨name (c : Int), 64 + 2 * (c : Int), (c : Int), false⟩
def new (name : Int → ByteArray) (n : Nat) (inp : ByteArray) : OS := ⟨Mc.boot n inp, words0 name, min 192 n, 10, none, none, false, ByteArray.empty, []⟩
end Go.Proofs.YtompdfpjmdnhoabGreatDoor.Ou
