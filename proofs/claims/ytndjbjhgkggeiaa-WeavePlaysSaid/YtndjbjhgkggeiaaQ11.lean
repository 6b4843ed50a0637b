/-
  Lemmas on the way, for every input that they name: WvF.
-/
import Derived.Test.YtndjbjhgkggeiaaQ07
set_option linter.unusedVariables false
set_option linter.unusedSimpArgs false
set_option linter.deprecated false
namespace Go.Proofs.Ytndjbjhgkggeiaa.Wv
open Go.RowKit
theorem mem_cell {w : World} {B : Nat} {a : At} {M : List Int} {h : Nat} {O : List (Int × Int)} (H : WvIs w B a M h O) {g : Nat} (hA : a.MA = some ⟨g, 0, none⟩) (q : Nat) (hq : q < M.length) :
    w.cell? ⟨g, q, none⟩ = some (.int .i64 (M.getD q 0)) ∧ w.frozen? ⟨g, q, none⟩ = false := by
  have hm := H.mem
  rw [hA] at hm
  refine ⟨?_, hm.frozenAt q⟩
  rw [hm.cellAt q (by omega)]
  simp [hq]
theorem mem_addr {w : World} {B : Nat} {a : At} {M : List Int} {h : Nat} {O : List (Int × Int)} (H : WvIs w B a M h O) (hp : 0 < M.length) : ∃ g, a.MA = some ⟨g, 0, none⟩ := by
  obtain ⟨g, cap, hA, _⟩ := World.ownsRow.form H.mem hp
  injection hA with hA _ _
  exact ⟨g, hA⟩
theorem opn_addr {w : World} {B : Nat} {a : At} {M : List Int} {h : Nat} {O : List (Int × Int)} (H : WvIs w B a M h O) (hp : 0 < O.length) : ∃ g, a.OA = some ⟨g, 0, none⟩ := by
  obtain ⟨g, cap, hA, _⟩ := World.ownsRow.form H.opn hp
  injection hA with hA _ _
  exact ⟨g, hA⟩
theorem pop_keep (B : Nat) (a : At) (M : List Int) (h : Nat) (O : List (Int × Int)) (p : Int × Int) (w : World) (H : WvIs w B a M h (O ++ [p])) (g : Nat) (hA : a.MA = some ⟨g, 0, none⟩) (q : Nat) (hq : q < M.length) :
    Calls Try.prog 36 #[.pointer (some ⟨a.sb, 0, none⟩)] w fun e w' => e = .returned (.int .i64 p.2) ∧ w'.cell? ⟨a.sb, 0, none⟩ = some (.slice (some ⟨g, 0, none⟩) M.length a.mcap) ∧ w'.cell? ⟨a.sb, 1, none⟩ = some (.int .i64 h) ∧
      w'.cell? ⟨g, q, none⟩ = some (.int .i64 (M.getD q 0)) ∧ w'.frozen? ⟨g, q, none⟩ = false ∧ Hid (WvIs w' B a M h O ∧ Touch w w' a.blocks) := by
  refine (pop_exact B a M h O p w H).mono ?_
  rintro e w' ⟨rfl, rfl⟩
  have D := pop_done H
  have hc := mem_cell D.1 hA q hq
  have c0 := D.1.c0
  rw [hA] at c0
  exact ⟨rfl, c0, D.1.c1, hc.1, hc.2, D⟩
def elseR (s : St) (O : List (Int × Int)) (q : Nat) : Int × St :=
  if s.h + 2 ≤ s.M.length then (0, ⟨(lay s.M s.h [3, 0]).set q ((s.h : Int) + 2), s.h + 2, O ++ [(2, (s.h : Int) + 1)]⟩) else (-8, s)
set_option maxHeartbeats 2000000 in
set_option maxRecDepth 100000 in
theorem elseOf_any (B : Nat) (a : At) (M : List Int) (h : Nat) (O : List (Int × Int)) (k : Int) (q : Nat) (w : World) (H : WvIs w B a M h (O ++ [(k, (q : Int))])) (hq : q < M.length) :
    Calls Try.prog 35 #[.pointer (some ⟨a.sb, 0, none⟩)] w (Did w B a (elseR ⟨M, h, O ++ [(k, (q : Int))]⟩ O q)) := by
  have hs := H.small
  have hO : O.length < 5000 := by have := H.few; simp at this; omega
  obtain ⟨g, hA⟩ := mem_addr H (by omega)
  have hl := lay2s B a ⟨M, h, O ++ [(k, (q : Int))]⟩ w H 3 0 2
  by_cases hr : h + 2 ≤ M.length
  · rw [layR_yes (s := ⟨M, h, O ++ [(k, (q : Int))]⟩) (by simpa using hr)] at hl
    have HL := Lib.hid hl
    clear hl
    have hlen : (lay M h [3, 0]).length = M.length := lay_length M h [3, 0] (by simpa using hr)
    have Hlen := Lib.hid hlen
    clear hlen
    go_enter Try.func35, Try.ntmps35
    go_wp2_with fail
    refine HL.out.mono ?_
    rintro e w1 ⟨rfl, H1, T1⟩
    simp only [List.length_cons, List.length_nil, Nat.zero_add] at H1
    have c0 := H1.c0
    rw [hA] at c0
    have c1 := H1.c1
    have hq1 : q < (lay M h [3, 0]).length := by rw [Hlen.out]; exact hq
    have HT := Lib.hid T1
    have HPop := Lib.hid (pop_keep B a (lay M h [3, 0]) (h + 2) O (k, (q : Int)) w1.drew (H1.drewN 1) g hA q hq1)
    clear H1 T1
    obtain ⟨M1, hM1⟩ : ∃ M1, M1 = lay M h [3, 0] := ⟨_, rfl⟩
    rw [← hM1] at c0 hq1 HPop Hlen
    have HM1 := Lib.hid hM1
    clear hM1
    have hs1 : M1.length ≤ 5000 := by have := Hlen.out; omega
    have hq2 : (q : Int) < (M1.length : Int) := by omega
    have hq3 : (0 : Int) ≤ (q : Int) := by omega
    go_upto_region 3 with fail
    go_cut [] (fun wc => WvIs wc B a (M1.set q ((h : Int) + 2)) (h + 2) O ∧ Touch w wc a.blocks)
    case first =>
      go_region_with ((go_at_call 36; refine HPop.out.mono ?_; rintro e w2 ⟨rfl, d0, d1, dq, fq, HH⟩))
      all_goals
        go_wp2_with fail
        go_meet
        have SD := set_done HH.out.1 hA q ((h : Int) + 2)
        exact ⟨SD.1, (HT.out.trans (HH.out.2.drewN' 1) (fun _ h => Or.inl h)).trans SD.2 (fun _ h => Or.inl h)⟩
    case rest =>
      obtain ⟨H2, T2⟩ := hcut
      have c1' := H2.c1
      have hml : (M1.set q ((h : Int) + 2)).length = M1.length := by simp
      have HP := Lib.hid (push_any B a ⟨M1.set q ((h : Int) + 2), h + 2, O⟩ wc H2 2 ((h : Int) + 2 - 1) hO)
      have HT2 := Lib.hid T2
      clear H2 T2 HPop HT c0 c1 hml
      go_wp2_with fail
      refine HP.out.mono ?_
      rintro e w3 ⟨rfl, N⟩
      rw [show (h : Int) + 2 - 1 = (h : Int) + 1 by omega] at N
      have HN : Hid (Did w B a (0, ⟨M1.set q ((h : Int) + 2), h + 2, O ++ [(2, (h : Int) + 1)]⟩) (.returned (.int .i64 0)) w3) := ⟨rfl, Next.trans rfl HT2.out (fun _ h => Or.inl h) N⟩
      clear N
      have HN2 : Hid (Did w B a (elseR ⟨M, h, O ++ [(k, (q : Int))]⟩ O q) (.returned (.int .i64 0)) w3) := by
        unfold elseR
        rw [if_pos hr]
        have := HN.out
        rw [HM1.out] at this
        exact this
      go_wp2_with fail
      go_ret
      exact HN2.out
  · rw [layR_no (s := ⟨M, h, O ++ [(k, (q : Int))]⟩) (by simpa using hr)] at hl
    have HL := Lib.hid hl
    clear hl
    go_enter Try.func35, Try.ntmps35
    go_wp2_with fail
    refine HL.out.mono ?_
    rintro e w1 ⟨rfl, H1, T1⟩
    have N : Hid (Did w B a (elseR ⟨M, h, O ++ [(k, (q : Int))]⟩ O q) (.returned (.int .i64 (-8))) w1) := by
      unfold elseR
      rw [if_neg hr]
      exact ⟨rfl, Next.same H1 T1⟩
    go_wp2_with fail
    go_ret
    exact N.out
def repeatR (s : St) (O : List (Int × Int)) (b : Int) (q : Nat) : Int × St :=
  if s.h + 2 ≤ s.M.length then (0, ⟨(lay s.M s.h [3, b]).set q ((s.h : Int) + 2), s.h + 2, O⟩) else (-8, s)
set_option maxHeartbeats 4000000 in
set_option maxRecDepth 100000 in
theorem repeat_any (B : Nat) (a : At) (M : List Int) (h : Nat) (O : List (Int × Int)) (kb b k : Int) (q : Nat) (w : World) (H : WvIs w B a M h (O ++ [(kb, b)] ++ [(k, (q : Int))])) (hq : q < M.length) :
    Calls Try.prog 39 #[.pointer (some ⟨a.sb, 0, none⟩)] w (Did w B a (repeatR ⟨M, h, O ++ [(kb, b)] ++ [(k, (q : Int))]⟩ O b q)) := by
  have hs := H.small
  obtain ⟨g, hA⟩ := mem_addr H (by omega)
  obtain ⟨og, hOA, _, hc⟩ := last_cell H O.length (by simp)
  have hp : ((O ++ [(kb, b)] ++ [(k, (q : Int))]).getD O.length (0, 0)).2 = b := by simp
  rw [hp] at hc
  clear hp
  have c2 := H.c2
  have hO : O.length < 5000 := by have := H.few; simp at this; omega
  rw [hOA, show (O ++ [(kb, b)] ++ [(k, (q : Int))]).length = O.length + 2 by simp] at c2
  have hwr : IntKind.i64.wrap (O.length : Int) = (O.length : Int) := IntWalk.i64_in _ (by omega)
  have hi2 : ((0 : Int) ≤ (O.length : Int)) := by omega
  have hi3 : ((O.length : Int) < (O.length : Int) + 2) := by omega
  have hl := lay2s B a ⟨M, h, O ++ [(kb, b)] ++ [(k, (q : Int))]⟩ w.drew (H.drewN 1) 3 b 2
  obtain ⟨r, hr0⟩ : ∃ r, r = layR ⟨M, h, O ++ [(kb, b)] ++ [(k, (q : Int))]⟩ [3, b] := ⟨_, rfl⟩
  rw [← hr0] at hl
  have HL := Lib.hid hl
  have HR0 := Lib.hid hr0
  clear hl hr0
  go_enter Try.func39, Try.ntmps39
  go_upto_region 1 with fail
  go_cut [3] (fun s3 wc => s3 = .int .i64 r.1 ∧ WvIs wc B a r.2.M r.2.h r.2.O ∧ Touch w wc a.blocks)
  case first =>
    go_region_with ((go_at_call 27; refine HL.out.mono ?_; rintro e w1 ⟨rfl, H1, T1⟩))
    all_goals
      go_wp2_with fail
      go_meet
      exact ⟨rfl, H1, T1.drewN' 1⟩
  case rest =>
    obtain ⟨rfl, H1, T1⟩ := hcut
    clear HL c2 hc hwr hi2 hi3
    by_cases hr : h + 2 ≤ M.length
    · have hr1 := HR0.out
      rw [layR_yes (s := ⟨M, h, O ++ [(kb, b)] ++ [(k, (q : Int))]⟩) (by simpa using hr)] at hr1
      subst hr1
      have hlen : (lay M h [3, b]).length = M.length := lay_length M h [3, b] (by simpa using hr)
      simp only [List.length_cons, List.length_nil, Nat.zero_add] at H1
      have c0 := H1.c0
      rw [hA] at c0
      have c1 := H1.c1
      have hq1 : q < (lay M h [3, b]).length := by rw [hlen]; exact hq
      have HT := Lib.hid T1
      have HPop := Lib.hid (pop_keep B a (lay M h [3, b]) (h + 2) (O ++ [(kb, b)]) (k, (q : Int)) wc.drew (H1.drewN 1) g hA q hq1)
      clear H1 T1
      obtain ⟨M1, hM1⟩ : ∃ M1, M1 = lay M h [3, b] := ⟨_, rfl⟩
      rw [← hM1] at c0 hq1 HPop hlen
      have HM1 := Lib.hid hM1
      clear hM1
      have hq2 : (q : Int) < (M1.length : Int) := by omega
      have hq3 : (0 : Int) ≤ (q : Int) := by omega
      have hs1 : M1.length ≤ 5000 := by omega
      clear hlen
      go_upto_region 3 with fail
      go_cut [] (fun wd => WvIs wd B a (M1.set q ((h : Int) + 2)) (h + 2) (O ++ [(kb, b)]) ∧ Touch w wd a.blocks)
      case first =>
        go_region_with ((go_at_call 36; refine HPop.out.mono ?_; rintro e w2 ⟨rfl, d0, d1, dq, fq, HH⟩))
        all_goals
          go_wp2_with fail
          go_meet
          have SD := set_done HH.out.1 hA q ((h : Int) + 2)
          exact ⟨SD.1, (HT.out.trans (HH.out.2.drewN' 1) (fun _ h => Or.inl h)).trans SD.2 (fun _ h => Or.inl h)⟩
      case rest =>
        obtain ⟨H2, T2⟩ := hcut
        have hp1 := pop_exact B a _ _ O (kb, b) wc H2
        have hp2 := pop_done H2
        have HP := Lib.hid hp1
        have HN : Hid (Did w B a (repeatR ⟨M, h, O ++ [(kb, b)] ++ [(k, (q : Int))]⟩ O b q) (.returned (.int .i64 0)) (wc.setCell ⟨a.sb, 2, none⟩ (.slice a.OA O.length a.ocap))) := by
          unfold repeatR
          rw [if_pos hr]
          simp only
          rw [← HM1.out]
          exact ⟨rfl, Next.same hp2.1 (T2.trans hp2.2 (fun _ h => Or.inl h))⟩
        clear hp1 hp2 H2 T2 HPop HT c0 c1
        rw [hOA] at HP HN
        go_wp2_with fail
        refine HP.out.mono ?_
        rintro e w3 ⟨rfl, rfl⟩
        go_wp2_with fail
        go_ret
        exact HN.out
    · have hr1 := HR0.out
      rw [layR_no (s := ⟨M, h, O ++ [(kb, b)] ++ [(k, (q : Int))]⟩) (by simpa using hr)] at hr1
      subst hr1
      have N : Hid (Did w B a (repeatR ⟨M, h, O ++ [(kb, b)] ++ [(k, (q : Int))]⟩ O b q) (.returned (.int .i64 (-8))) wc) := by
        unfold repeatR
        rw [if_neg hr]
        exact ⟨rfl, Next.same H1 T1⟩
      clear H1 T1
      go_wp2_with fail
      go_ret
      exact N.out
end Go.Proofs.Ytndjbjhgkggeiaa.Wv
