/-
  Lemmas on the way, for every input that they name: RvI.
-/
import Derived.Test.YtndjbjhgkggeiaaQ19
set_option linter.unusedVariables false
set_option linter.unusedSimpArgs false
set_option linter.deprecated false
namespace Go.Proofs.Ytndjbjhgkggeiaa.Rv
open Go.RowKit Go.Proofs.Ytndjbjhgkggeiaa.Wv
theorem pop2_done {w : World} {B : Nat} {a : At} {M : List Int} {h : Nat} {O : List (Int × Int)} {p r : Int × Int} (H : RvIs w B a M h (O ++ [p] ++ [r])) :
    RvIs (w.setCell ⟨a.sb, 2, none⟩ (.slice a.OA O.length a.ocap)) B a M h O ∧ Touch w (w.setCell ⟨a.sb, 2, none⟩ (.slice a.OA O.length a.ocap)) a.blocks := by
  have T2 : Touch w (w.setCell ⟨a.sb, 2, none⟩ (.slice a.OA O.length a.ocap)) (fun i => i = a.sb) :=
    ⟨rfl, rfl, rfl, by simp [World.setCell], fun i _ hi => Below.heap_setCell w ⟨a.sb, 2, none⟩ _ i hi⟩
  refine ⟨{ blk := ?_, base := H.base, mem := ?_, opn := ?_, here := H.here, small := H.small, few := by have := H.few; simp at this; omega }, T2.mono (fun i hi => Or.inl (Or.inl hi))⟩
  · simp [World.setCell, Array.getElem?_modify, H.blk]
  · exact own_touch H.mem T2 (fun i hi => H.ne_mem hi)
  · have ho := own_touch H.opn T2 (fun i hi => H.ne_opn hi)
    rw [flat_snoc, List.length_append, List.length_singleton] at ho
    obtain ⟨g, cap, hA, _⟩ := World.ownsRow.form ho (by omega)
    injection hA with hA _ hc
    rw [hA] at ho ⊢
    have h1 := ownsRow_pop (flat_length (O ++ [p])) ho
    rw [flat_snoc, List.length_append, List.length_singleton] at h1
    exact ownsRow_pop (flat_length O) h1
theorem topV_two (O : List (Int × Int)) (h : (topV O 1).1 ≠ 0) : ∃ O1 p r, O = O1 ++ [p] ++ [r] ∧ topV O 0 = r ∧ topV O 1 = p := by
  by_cases hl : O.length ≤ 1
  · exact absurd (by unfold topV; rw [if_pos hl]) h
  · have hne : O ≠ [] := by intro e; subst e; simp at hl
    have e1 := (List.dropLast_concat_getLast hne).symm
    have hne2 : O.dropLast ≠ [] := by intro e; have := congrArg List.length e; simp at this; omega
    have e2 := (List.dropLast_concat_getLast hne2).symm
    refine ⟨O.dropLast.dropLast, O.dropLast.getLast hne2, O.getLast hne, by rw [← e2]; exact e1, ?_, ?_⟩
    · conv => lhs; rw [e1]
      exact topV_snoc _ _
    · conv => lhs; rw [e1, e2]
      unfold topV
      rw [if_neg (by simp)]
      simp [List.getD]
set_option maxHeartbeats 8000000 in
set_option maxRecDepth 100000 in
theorem form_repeat (B : Nat) (a : At) (s : St) (w : World) (H : RvIs w B a s.M s.h s.O) (hO : s.O.length < 4900) (q : Nat) (hk : topV s.O 0 = (4, (q : Int))) (hkb0 : (topV s.O 1).1 = 3) (hq : q < s.M.length) (s0 : ByteArray) (hs0 : s0.size ≤ 100000) (hW : (⟨(ups s0).toArray⟩ : ByteArray) = wRepeat) :
    Calls Try.prog 15 #[.pointer (some ⟨a.sb, 0, none⟩), .string s0] w (Did w B a (repeatR s s.O.dropLast.dropLast (last s.O.dropLast).2 q)) := by
  have HW := Lib.hid hW
  have HGr := Lib.hid (fun w => great_any s0 w hs0)
  have hfew := H.few
  have hsm := H.small
  have hhe := H.here
  have HT0 := Lib.hid (top0 B a s.M s.h s.O w H)
  have HT1 := Lib.hid (fun w1 H1 => top1 B a s.M s.h s.O w1 H1)
  rw [HW.out] at HGr
  obtain ⟨pa, hpa⟩ : ∃ p, p = topV (s.O) 0 := ⟨_, rfl⟩
  obtain ⟨pb, hpb⟩ : ∃ p, p = topV (s.O) 1 := ⟨_, rfl⟩
  rw [← hpa] at HT0
  rw [← hpb] at HT1
  have HH := Lib.hid H
  have HPa := Lib.hid hpa
  have HPb := Lib.hid hpb
  clear hW H HW hpa hpb
  go_enter Try.func15, Try.ntmps15
  go_wp2_with fail
  refine HT0.out.mono ?_
  rintro e w1 ⟨rfl, b1⟩
  have H1 := Lib.hid (HH.out.below b1 (Nat.le_refl _))
  have B1 := Lib.hid b1
  clear b1
  go_wp2_with fail
  refine (HT1.out _ H1.out).mono ?_
  rintro e w2 ⟨rfl, b2⟩
  have B2 := Lib.hid (B1.out.trans (b2.mono B1.out.size))
  have H2 := H1.out.below b2 (Nat.le_refl _)
  have H3 := (H2.alloc (.cells #[.int .i64 pa.1, .int .i64 pa.2] 63)).alloc (.cells #[.int .i64 pb.1, .int .i64 pb.2] 63)
  have hal := ((Below.refl w2.heap.size w2).alloc (Nat.le_refl _) (.cells #[.int .i64 pa.1, .int .i64 pa.2] 63)).alloc (by simp) (.cells #[.int .i64 pb.1, .int .i64 pb.2] 63)
  have B3 := Lib.hid (B2.out.trans (hal.mono B2.out.size))
  have hKa := (Blk.new w2 63 #[.int .i64 pa.1, .int .i64 pa.2]).alloc (.cells #[.int .i64 pb.1, .int .i64 pb.2] 63)
  have hKb := Blk.new (w2.alloc (.cells #[.int .i64 pa.1, .int .i64 pa.2] 63)) 63 #[.int .i64 pb.1, .int .i64 pb.2]
  have hsz : (w2.alloc (.cells #[.int .i64 pa.1, .int .i64 pa.2] 63)).heap.size = w2.heap.size + 1 := by simp
  rw [hsz] at hKb
  have c1 := H3.c1
  have HH3 := Lib.hid H3
  have KA := Lib.hid hKa
  have KB := Lib.hid hKb
  clear H1 H2 H3 hal hKa hKb hsz b2
  go_wp2_with fail
  refine (HGr.out _).mono ?_
  rintro e w3 ⟨rfl, b3⟩
  have hba := KA.out.below b3 (by simp; omega)
  have hbb := KB.out.below b3 (by simp)
  have y0 := hba.cell 0
  have y1 := hba.cell 1
  have z0 := hbb.cell 0
  have z1 := hbb.cell 1
  have H3 := Lib.hid (HH3.out.below b3 (Nat.le_refl _))
  have T3 := Lib.hid (Touch.of_below (B3.out.trans (b3.mono B3.out.size)) a.blocks)
  have hlow : ∀ k, a.blocks k → k < w2.heap.size := fun k hk => Nat.lt_of_lt_of_le (HH.out.low hk).2 B2.out.size
  have HLow := Lib.hid hlow
  simp only [List.getElem?_toArray, List.getElem?_cons_zero, List.getElem?_cons_succ] at y0 y1 z0 z1
  clear hba hbb b3 hlow c1 HT0 HT1 KA KB HH3
  generalize w2.heap.size = n0 at *
  obtain rfl : pa = (4, (q : Int)) := HPa.out.trans hk
  dsimp only at y0 y1
  have hkb : pb.1 = 3 := by rw [HPb.out]; exact hkb0
  rw [hkb] at z0
  have hlast : (last s.O.dropLast).2 = pb.2 := by
    obtain ⟨O1, p, r, hO1, hr1, hp1⟩ := topV_two s.O (by rw [← HPb.out, hkb]; decide)
    rw [HPb.out, hp1, hO1]
    simp [last_snoc]
  have hl := lay2 B a s w3 H3.out 3 pb.2 2
  unfold wRepeat
  by_cases hr : s.h + 2 ≤ s.M.length
  · have hres : repeatR s s.O.dropLast.dropLast (last s.O.dropLast).2 q = (0, ⟨(lay s.M s.h [3, pb.2]).set q ((s.h : Int) + 2), s.h + 2, s.O.dropLast.dropLast⟩) := by unfold repeatR; rw [if_pos hr, hlast]
    have Hres := Lib.hid hres
    clear hres hlast
    rw [layR_yes (s := s) (by simpa using hr)] at hl
    have HL := Lib.hid hl
    clear hl
    go_wp2_with fail
    refine HL.out.mono ?_
    rintro e w4 ⟨rfl, H4, T4⟩
    simp only [List.length_cons, List.length_nil, Nat.zero_add] at H4
    have hlen := lay_length s.M s.h [3, pb.2] (by simpa using hr)
    have hqq : q < (lay s.M s.h [3, pb.2]).length := by rw [hlen]; exact hq
    have y1' := touch_cell T4 y1 (fun hk => Nat.lt_irrefl _ (HLow.out _ hk))
    clear y0 y1 z0 z1
    obtain ⟨g, hA⟩ := mem_addr H4 (by have := hqq; omega)
    have c0 := H4.c0
    rw [hA] at c0
    have c1 := H4.c1
    have mc := mem_cell H4 hA q hqq
    have m1 := mc.1
    have m2 := mc.2
    have hq2 : (q : Int) < ((lay s.M s.h [3, pb.2]).length : Int) := by have := hqq; omega
    have hq3 : (0 : Int) ≤ (q : Int) := by omega
    have HHS := Lib.hid H4
    have HTS := Lib.hid (T3.out.trans T4 (fun _ h => Or.inl h))
    clear mc
    go_upto_region 44 with fail
    go_cut [] (fun wc => RvIs wc B a ((lay s.M s.h [3, pb.2]).set q ((s.h : Int) + 2)) (s.h + 2) s.O ∧ Touch w wc a.blocks)
    case first =>
      go_region_with (fail)
      all_goals
        go_wp2_with fail
        go_meet
        have SD := set_done HHS.out hA q ((s.h : Int) + 2)
        exact ⟨SD.1.drewN 1, (HTS.out.trans SD.2 (fun _ h => Or.inl h)).drewN 1⟩
    case rest =>
      obtain ⟨H6, T6⟩ := hcut
      clear c0 c1 m1 m2 HHS HTS
      obtain ⟨O1, p, r, hO1, hr1, hp1⟩ := topV_two s.O (by rw [← HPb.out, hkb]; decide)
      have H5 := H6
      rw [hO1] at H5
      have PD := pop2_done H5
      have hdl : s.O.dropLast.dropLast = O1 := by rw [hO1]; simp
      have HN : Hid (Did w B a (repeatR s s.O.dropLast.dropLast (last s.O.dropLast).2 q) (.returned (.int .i64 0)) (wc.setCell ⟨a.sb, 2, none⟩ (.slice a.OA O1.length a.ocap))) := by
        show Did _ _ _ _ _ _
        rw [Hres.out, hdl]
        exact ⟨rfl, Next.same PD.1 (T6.trans PD.2 (fun _ h => Or.inl h))⟩
      have HNd : Hid (Did w B a (repeatR s s.O.dropLast.dropLast (last s.O.dropLast).2 q) (.returned (.int .i64 0)) ((wc.setCell ⟨a.sb, 2, none⟩ (.slice a.OA O1.length a.ocap)).drewN 1)) := by
        show Did _ _ _ _ _ _
        rw [Hres.out, hdl]
        exact ⟨rfl, Next.same (PD.1.drewN 1) ((T6.trans PD.2 (fun _ h => Or.inl h)).drewN 1)⟩
      have c2 := H5.c2
      have f2 := H5.f2
      have hlen2 : (O1 ++ [p] ++ [r]).length = O1.length + 1 + 1 := by simp
      rw [hlen2] at c2
      obtain ⟨g9, hA9⟩ := opn_addr H5 (by omega)
      have hcap : O1.length + 1 + 1 ≤ a.ocap := by
        rcases H5.opn.2 with ⟨h0, _⟩ | ⟨_, cap', _, hv, _, _, hnc, _⟩
        · rw [hA9] at h0; cases h0
        · injection hv with _ _ h2; rw [hlen2] at hnc; omega
      have hlo : O1.length + 2 ≤ 5000 := by have := H5.few; rw [hlen2] at this; omega
      rw [hA9] at c2 HN HNd
      have e1 : IntKind.i64.wrap (O1.length : Int) = (O1.length : Int) := IntWalk.i64_in _ (by omega)
      have e2 : IntKind.i64.wrap ((O1.length : Int) + 1 + 1 - 2) = (O1.length : Int) := by rw [show (O1.length : Int) + 1 + 1 - 2 = (O1.length : Int) by omega]; exact IntWalk.i64_in _ (by omega)
      have e3 : (O1.length : Int) + 1 + 1 - 2 = (O1.length : Int) := by omega
      have i2 : (0 : Int) ≤ (O1.length : Int) := by omega
      have i3 : (O1.length : Int) ≤ (a.ocap : Int) := by omega
      clear H5 PD hdl
      go_upto_region 45 with fail
      go_region_with (fail)
      all_goals
        go_wp2_with fail
        go_ret
        first | exact HN.out | exact HNd.out
  · have hres : repeatR s s.O.dropLast.dropLast (last s.O.dropLast).2 q = (-8, s) := by unfold repeatR; rw [if_neg hr]
    have Hres := Lib.hid hres
    clear hres hlast
    rw [layR_no (s := s) (by simpa using hr)] at hl
    have HL := Lib.hid hl
    clear hl
    go_wp2_with fail
    refine HL.out.mono ?_
    rintro e w4 ⟨rfl, H4, T4⟩
    have HN : Hid (Did w B a (repeatR s s.O.dropLast.dropLast (last s.O.dropLast).2 q) (.returned (.int .i64 (-8))) w4) := by
      show Did _ _ _ _ _ _
      rw [Hres.out]
      exact ⟨rfl, Next.same H4 (T3.out.trans T4 (fun _ h => Or.inl h))⟩
    clear H4 T4
    go_wp2_with fail
    go_ret
    exact HN.out
end Go.Proofs.Ytndjbjhgkggeiaa.Rv
