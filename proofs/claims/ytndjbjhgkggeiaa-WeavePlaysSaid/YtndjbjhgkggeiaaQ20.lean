/-
  Lemmas on the way, for every input that they name: RvF.
-/
import Derived.Test.YtndjbjhgkggeiaaQ19
set_option linter.unusedVariables false
set_option linter.unusedSimpArgs false
set_option linter.deprecated false
namespace Go.Proofs.Ytndjbjhgkggeiaa.Rv
open Go.RowKit Go.Proofs.Ytndjbjhgkggeiaa.Wv
set_option maxHeartbeats 8000000 in
set_option maxRecDepth 100000 in
theorem form_do (B : Nat) (a : At) (s : St) (w : World) (H : RvIs w B a s.M s.h s.O) (hO : s.O.length < 4900) (s0 : ByteArray) (hs0 : s0.size ≤ 100000) (hW : (⟨(ups s0).toArray⟩ : ByteArray) = wDo) :
    Calls Try.prog 15 #[.pointer (some ⟨a.sb, 0, none⟩), .string s0] w (Did w B a (doR s)) := by
  obtain ⟨i0, hi, hz0, hz1, hz2⟩ := info_parts info63
  have HW := Lib.hid hW
  have HGr := Lib.hid (fun w => great_any s0 w hs0)
  have hfew := H.few
  have hsm := H.small
  have hhe := H.here
  have HT0 := Lib.hid (top0 B a s.M s.h s.O w H)
  have HT1 := Lib.hid (fun w1 H1 => top1 B a s.M s.h s.O w1 H1)
  rw [HW.out] at HGr
  obtain ⟨pa, hpa⟩ : ∃ p, p = topV (s.O) 0 := ⟨_, rfl⟩
  obtain ⟨pb, hpb⟩ : ∃ p, p = topV (s.O) 1 := ⟨_, rfl⟩
  rw [← hpa] at HT0
  rw [← hpb] at HT1
  have HH := Lib.hid H
  have HPa := Lib.hid hpa
  have HPb := Lib.hid hpb
  clear hW H HW hpa hpb
  go_enter Try.func15, Try.ntmps15
  go_wp2_with fail
  refine HT0.out.mono ?_
  rintro e w1 ⟨rfl, b1⟩
  have H1 := Lib.hid (HH.out.below b1 (Nat.le_refl _))
  have B1 := Lib.hid b1
  clear b1
  go_wp2_with fail
  refine (HT1.out _ H1.out).mono ?_
  rintro e w2 ⟨rfl, b2⟩
  have B2 := Lib.hid (B1.out.trans (b2.mono B1.out.size))
  have H2 := H1.out.below b2 (Nat.le_refl _)
  have H3 := (H2.alloc (.cells #[.int .i64 pa.1, .int .i64 pa.2] 63)).alloc (.cells #[.int .i64 pb.1, .int .i64 pb.2] 63)
  have hal := ((Below.refl w2.heap.size w2).alloc (Nat.le_refl _) (.cells #[.int .i64 pa.1, .int .i64 pa.2] 63)).alloc (by simp) (.cells #[.int .i64 pb.1, .int .i64 pb.2] 63)
  have B3 := Lib.hid (B2.out.trans (hal.mono B2.out.size))
  have hKa := (Blk.new w2 63 #[.int .i64 pa.1, .int .i64 pa.2]).alloc (.cells #[.int .i64 pb.1, .int .i64 pb.2] 63)
  have hKb := Blk.new (w2.alloc (.cells #[.int .i64 pa.1, .int .i64 pa.2] 63)) 63 #[.int .i64 pb.1, .int .i64 pb.2]
  have hsz : (w2.alloc (.cells #[.int .i64 pa.1, .int .i64 pa.2] 63)).heap.size = w2.heap.size + 1 := by simp
  rw [hsz] at hKb
  have c1 := H3.c1
  have HH3 := Lib.hid H3
  have KA := Lib.hid hKa
  have KB := Lib.hid hKb
  clear H1 H2 H3 hal hKa hKb hsz b2
  go_wp2_with fail
  refine (HGr.out _).mono ?_
  rintro e w3 ⟨rfl, b3⟩
  have hba := KA.out.below b3 (by simp; omega)
  have hbb := KB.out.below b3 (by simp)
  have y0 := hba.cell 0
  have y1 := hba.cell 1
  have z0 := hbb.cell 0
  have z1 := hbb.cell 1
  have H3 := Lib.hid (HH3.out.below b3 (Nat.le_refl _))
  have T3 := Lib.hid (Touch.of_below (B3.out.trans (b3.mono B3.out.size)) a.blocks)
  have hlow : ∀ k, a.blocks k → k < w2.heap.size := fun k hk => Nat.lt_of_lt_of_le (HH.out.low hk).2 B2.out.size
  have HLow := Lib.hid hlow
  simp only [List.getElem?_toArray, List.getElem?_cons_zero, List.getElem?_cons_succ] at y0 y1 z0 z1
  clear hba hbb b3 hlow c1 HT0 HT1 KA KB HH3
  generalize w2.heap.size = n0 at *
  have hl := lay1 B a s w3 H3.out 36 1
  unfold wDo
  by_cases hr : s.h + 1 ≤ s.M.length
  · have hres : doR s = (0, ⟨lay s.M s.h [36], s.h + 1, s.O ++ [(5, (s.h : Int) + 1)]⟩) := by unfold doR; rw [if_pos hr]
    have Hres := Lib.hid hres
    clear hres
    rw [layR_yes (s := s) (by simpa using hr)] at hl
    have HL := Lib.hid hl
    clear hl
    go_wp2_with fail
    refine HL.out.mono ?_
    rintro e w4 ⟨rfl, H4, T4⟩
    simp only [List.length_cons, List.length_nil, Nat.zero_add] at H4
    have c1 := H4.c1
    have c2 := H4.c2
    have f2 := H4.f2
    have hs5 : s.h + 1 ≤ 5000 := by omega
    have H4d := H4.drewN 1
    have c2a := (H4.alloc (.cells #[.int .i64 5, .int .i64 ((s.h : Int) + 1)] 63)).c2
    go_upto_region 49 with fail
    go_region_law (first
      | (refine step_append_any _ rfl _ _ 47 rfl B 63 i0 (.agg #[.int .i64 0, .int .i64 0]) 2 16 Try.underlying47 hi hz0 hz1 hz2 rfl (by decide) (.slice a.OA s.O.length a.ocap) s.O.length _ rfl (H4d.opn.alloc (.cells #[.int .i64 5, .int .i64 ((s.h : Int) + 1)] 63)) (w4.heap.size + 1) (some ⟨w4.heap.size, 0, none⟩) 1 1 [.int .i64 5, .int .i64 ((s.h : Int) + 1)] rfl ⟨rfl, fun _ => ⟨_, rfl, Nat.lt_succ_self _, ?_⟩⟩ ?_ ?_ ?_ ?_ ?_
         · intro j u hj; rw [Go.WideShapes.add_plain]; show (w4.alloc _).cell? _ = _; rw [World.cell?, heap_alloc_new]; simpa using hj
         · intro u hu; simp at hu; rcases hu with rfl | rfl <;> rfl
         · unfold maxLen; omega
         · omega
         · have := H4.lt; have := H4.base; simp; omega
         intro v' w5 hown2 hg2 hloc
         obtain ⟨OA', ocap', rfl⟩ := own_slice hown2
         have hsb : w5.heap[a.sb]? = w4.heap[a.sb]? := by
           rw [hg2.block a.sb (by have := H4.lt; simp; omega) (fun e => by
             have h1 : a.OA.map (·.block) = some a.sb := by cases hoa : a.OA <;> simp_all [Value.ownBlock]
             exact H4.ne_opn h1 rfl)]
           exact Below.heap_alloc w4 _ a.sb H4.lt
         have d2 : w5.cell? ⟨a.sb, 2, none⟩ = _ := (World.cell?_of_block (w := w4) (a := ⟨a.sb, 2, none⟩) hsb).trans c2
         have g2 : w5.frozen? ⟨a.sb, 2, none⟩ = false := (World.frozen?_of_block (w := w4) (a := ⟨a.sb, 2, none⟩) hsb).trans f2))
    all_goals
      have hg3 : (w4.alloc (.cells #[.int .i64 5, .int .i64 ((s.h : Int) + 1)] 63)).grownBy w5 (Value.slice a.OA s.O.length a.ocap).ownBlock := ⟨hg2.os, hg2.tape, hg2.output, hg2.size, hg2.block⟩
      have N := Lib.hid (push_done (s := (⟨lay s.M s.h [36], s.h + 1, s.O⟩ : St)) H4 hown2 hg3 (by simpa using hloc) hsb (by show s.O.length < 5000; omega))
      have HN : Hid (Did w B a (doR s) (.returned (.int .i64 0)) (w5.setCell ⟨a.sb, 2, none⟩ (.slice OA' (s.O.length + 1) ocap'))) := by
        show Did _ _ _ _ _ _
        rw [Hres.out]
        exact ⟨rfl, Next.trans rfl (T3.out.trans T4 (fun _ h => Or.inl h)) (fun _ h => Or.inl h) N.out⟩
      clear hown2 hg2 hg3 hloc hsb c2 f2
      go_wp2_with fail
      go_ret
      exact HN.out
  · have hres : doR s = (-8, s) := by unfold doR; rw [if_neg hr]
    have Hres := Lib.hid hres
    clear hres
    rw [layR_no (s := s) (by simpa using hr)] at hl
    have HL := Lib.hid hl
    clear hl
    go_wp2_with fail
    refine HL.out.mono ?_
    rintro e w4 ⟨rfl, H4, T4⟩
    have HN : Hid (Did w B a (doR s) (.returned (.int .i64 (-8))) w4) := by
      show Did _ _ _ _ _ _
      rw [Hres.out]
      exact ⟨rfl, Next.same H4 (T3.out.trans T4 (fun _ h => Or.inl h))⟩
    clear H4 T4
    go_wp2_with fail
    go_ret
    exact HN.out
end Go.Proofs.Ytndjbjhgkggeiaa.Rv
