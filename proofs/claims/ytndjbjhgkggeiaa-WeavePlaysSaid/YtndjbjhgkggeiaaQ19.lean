/-
  Lemmas on the way, for every input that they name: RvE.
-/
import Derived.Test.YtndjbjhgkggeiaaQ14
import Derived.Test.YtndjbjhgkggeiaaQ18
set_option linter.unusedVariables false
set_option linter.unusedSimpArgs false
set_option linter.deprecated false
namespace Go.Proofs.Ytndjbjhgkggeiaa.Rv
open Go.RowKit Go.Proofs.Ytndjbjhgkggeiaa.Wv
theorem info63 : (Try.prog.info? 63).map (fun i => (i.zero, i.size, i.bytes)) = some (some (.agg #[.int .i64 0, .int .i64 0]), 2, 16) := by kernel_rfl
theorem topV_snoc (O : List (Int × Int)) (p : Int × Int) : topV (O ++ [p]) 0 = p := by
  unfold topV
  rw [if_neg (by simp)]
  simp [List.getD]
theorem topV_some (O : List (Int × Int)) (h : (topV O 0).1 ≠ 0) : ∃ O1 p, O = O1 ++ [p] ∧ topV O 0 = p := by
  by_cases hne : O = []
  · subst hne; exact absurd rfl h
  · refine ⟨O.dropLast, O.getLast hne, (List.dropLast_concat_getLast hne).symm, ?_⟩
    conv => lhs; rw [← List.dropLast_concat_getLast hne]
    exact topV_snoc _ _
set_option maxHeartbeats 8000000 in
set_option maxRecDepth 100000 in
theorem form_if (B : Nat) (a : At) (s : St) (w : World) (H : RvIs w B a s.M s.h s.O) (hO : s.O.length < 4900) (s0 : ByteArray) (hs0 : s0.size ≤ 100000) (hW : (⟨(ups s0).toArray⟩ : ByteArray) = wIf) :
    Calls Try.prog 15 #[.pointer (some ⟨a.sb, 0, none⟩), .string s0] w (Did w B a (forwardR s 4 1)) := by
  obtain ⟨i0, hi, hz0, hz1, hz2⟩ := info_parts info63
  have HW := Lib.hid hW
  have HGr := Lib.hid (fun w => great_any s0 w hs0)
  have hfew := H.few
  have hsm := H.small
  have hhe := H.here
  have HT0 := Lib.hid (top0 B a s.M s.h s.O w H)
  have HT1 := Lib.hid (fun w1 H1 => top1 B a s.M s.h s.O w1 H1)
  rw [HW.out] at HGr
  obtain ⟨pa, hpa⟩ : ∃ p, p = topV (s.O) 0 := ⟨_, rfl⟩
  obtain ⟨pb, hpb⟩ : ∃ p, p = topV (s.O) 1 := ⟨_, rfl⟩
  rw [← hpa] at HT0
  rw [← hpb] at HT1
  have HH := Lib.hid H
  have HPa := Lib.hid hpa
  have HPb := Lib.hid hpb
  clear hW H HW hpa hpb
  go_enter Try.func15, Try.ntmps15
  go_wp2_with fail
  refine HT0.out.mono ?_
  rintro e w1 ⟨rfl, b1⟩
  have H1 := Lib.hid (HH.out.below b1 (Nat.le_refl _))
  have B1 := Lib.hid b1
  clear b1
  go_wp2_with fail
  refine (HT1.out _ H1.out).mono ?_
  rintro e w2 ⟨rfl, b2⟩
  have B2 := Lib.hid (B1.out.trans (b2.mono B1.out.size))
  have H2 := H1.out.below b2 (Nat.le_refl _)
  have H3 := (H2.alloc (.cells #[.int .i64 pa.1, .int .i64 pa.2] 63)).alloc (.cells #[.int .i64 pb.1, .int .i64 pb.2] 63)
  have hal := ((Below.refl w2.heap.size w2).alloc (Nat.le_refl _) (.cells #[.int .i64 pa.1, .int .i64 pa.2] 63)).alloc (by simp) (.cells #[.int .i64 pb.1, .int .i64 pb.2] 63)
  have B3 := Lib.hid (B2.out.trans (hal.mono B2.out.size))
  have hKa := (Blk.new w2 63 #[.int .i64 pa.1, .int .i64 pa.2]).alloc (.cells #[.int .i64 pb.1, .int .i64 pb.2] 63)
  have hKb := Blk.new (w2.alloc (.cells #[.int .i64 pa.1, .int .i64 pa.2] 63)) 63 #[.int .i64 pb.1, .int .i64 pb.2]
  have hsz : (w2.alloc (.cells #[.int .i64 pa.1, .int .i64 pa.2] 63)).heap.size = w2.heap.size + 1 := by simp
  rw [hsz] at hKb
  have c1 := H3.c1
  have HH3 := Lib.hid H3
  have KA := Lib.hid hKa
  have KB := Lib.hid hKb
  clear H1 H2 H3 hal hKa hKb hsz b2
  go_wp2_with fail
  refine (HGr.out _).mono ?_
  rintro e w3 ⟨rfl, b3⟩
  have hba := KA.out.below b3 (by simp; omega)
  have hbb := KB.out.below b3 (by simp)
  have y0 := hba.cell 0
  have y1 := hba.cell 1
  have z0 := hbb.cell 0
  have z1 := hbb.cell 1
  have H3 := Lib.hid (HH3.out.below b3 (Nat.le_refl _))
  have T3 := Lib.hid (Touch.of_below (B3.out.trans (b3.mono B3.out.size)) a.blocks)
  have hlow : ∀ k, a.blocks k → k < w2.heap.size := fun k hk => Nat.lt_of_lt_of_le (HH.out.low hk).2 B2.out.size
  have HLow := Lib.hid hlow
  simp only [List.getElem?_toArray, List.getElem?_cons_zero, List.getElem?_cons_succ] at y0 y1 z0 z1
  clear hba hbb b3 hlow c1 HT0 HT1 KA KB HH3
  generalize w2.heap.size = n0 at *
  have hl := lay2 B a s w3 H3.out 4 0 2
  unfold wIf
  by_cases hr : s.h + 2 ≤ s.M.length
  · have hres : forwardR s 4 1 = (0, ⟨lay s.M s.h [4, 0], s.h + 2, s.O ++ [(1, (s.h : Int) + 1)]⟩) := by unfold forwardR; rw [if_pos hr]
    have Hres := Lib.hid hres
    clear hres
    rw [layR_yes (s := s) (by simpa using hr)] at hl
    have HL := Lib.hid hl
    clear hl
    go_wp2_with fail
    refine HL.out.mono ?_
    rintro e w4 ⟨rfl, H4, T4⟩
    simp only [List.length_cons, List.length_nil, Nat.zero_add] at H4
    have c2 := H4.c2
    have f2 := H4.f2
    go_wp2_with (at_builtin; refine wpList_append_own_at _ rfl _ _ 47 rfl B 63 i0 (.agg #[.int .i64 0, .int .i64 0]) 2 16 Try.underlying47 hi hz0 hz1 hz2 rfl (by decide) _ _ _ rfl (H4.opn.alloc _) ⟨w4.heap.size, 0, none⟩ 1 1 [.int .i64 1, .int .i64 ((s.h : Int) + 1)] rfl rfl ?c1 ?c2 ?c3 ?c4 ?c5 ?_)
    case c1 =>
      intro j u hj
      rw [Go.WideShapes.add_plain, World.cell?, heap_alloc_new]
      simpa using hj
    case c2 => intro u hu; simp at hu; rcases hu with rfl | rfl <;> rfl
    case c3 => unfold maxLen; omega
    case c4 => omega
    case c5 => have := H4.lt; have := H4.base; simp; omega
    intro v' w5 hown2 hg2 _ hloc
    obtain ⟨OA', ocap', rfl⟩ := own_slice hown2
    have hsb : w5.heap[a.sb]? = w4.heap[a.sb]? := by
      rw [hg2.block a.sb (by have := H4.lt; simp; omega) (fun e => by
        have h1 : a.OA.map (·.block) = some a.sb := by cases hoa : a.OA <;> simp_all [Value.ownBlock]
        exact H4.ne_opn h1 rfl)]
      exact Below.heap_alloc w4 _ a.sb H4.lt
    have d2 : w5.cell? ⟨a.sb, 2, none⟩ = _ := (World.cell?_of_block (w := w4) (a := ⟨a.sb, 2, none⟩) hsb).trans c2
    have g2 : w5.frozen? ⟨a.sb, 2, none⟩ = false := (World.frozen?_of_block (w := w4) (a := ⟨a.sb, 2, none⟩) hsb).trans f2
    have N := Lib.hid (push_done (s := (⟨lay s.M s.h [4, 0], s.h + 2, s.O⟩ : St)) H4 hown2 hg2 hloc hsb (by show s.O.length < 5000; omega))
    have HN : Hid (Did w B a (forwardR s 4 1) (.returned (.int .i64 0)) (w5.setCell ⟨a.sb, 2, none⟩ (.slice OA' (s.O.length + 1) ocap'))) := by
      show Did _ _ _ _ _ _
      rw [Hres.out]
      exact ⟨rfl, Next.trans rfl (T3.out.trans T4 (fun _ h => Or.inl h)) (fun _ h => Or.inl h) N.out⟩
    clear hown2 hg2 hloc hsb c2 f2
    go_wp2_with fail
    go_ret
    exact HN.out
  · have hres : forwardR s 4 1 = (-8, s) := by unfold forwardR; rw [if_neg hr]
    have Hres := Lib.hid hres
    clear hres
    rw [layR_no (s := s) (by simpa using hr)] at hl
    have HL := Lib.hid hl
    clear hl
    go_wp2_with fail
    refine HL.out.mono ?_
    rintro e w4 ⟨rfl, H4, T4⟩
    have HN : Hid (Did w B a (forwardR s 4 1) (.returned (.int .i64 (-8))) w4) := by
      show Did _ _ _ _ _ _
      rw [Hres.out]
      exact ⟨rfl, Next.same H4 (T3.out.trans T4 (fun _ h => Or.inl h))⟩
    clear H4 T4
    go_wp2_with fail
    go_ret
    exact HN.out
set_option maxHeartbeats 8000000 in
set_option maxRecDepth 100000 in
theorem form_while (B : Nat) (a : At) (s : St) (w : World) (H : RvIs w B a s.M s.h s.O) (hO : s.O.length < 4900) (hk : (topV s.O 0).1 = 3) (s0 : ByteArray) (hs0 : s0.size ≤ 100000) (hW : (⟨(ups s0).toArray⟩ : ByteArray) = wWhile) :
    Calls Try.prog 15 #[.pointer (some ⟨a.sb, 0, none⟩), .string s0] w (Did w B a (forwardR s 4 4)) := by
  obtain ⟨i0, hi, hz0, hz1, hz2⟩ := info_parts info63
  have HW := Lib.hid hW
  have HGr := Lib.hid (fun w => great_any s0 w hs0)
  have hfew := H.few
  have hsm := H.small
  have hhe := H.here
  have HT0 := Lib.hid (top0 B a s.M s.h s.O w H)
  have HT1 := Lib.hid (fun w1 H1 => top1 B a s.M s.h s.O w1 H1)
  rw [HW.out] at HGr
  obtain ⟨pa, hpa⟩ : ∃ p, p = topV (s.O) 0 := ⟨_, rfl⟩
  obtain ⟨pb, hpb⟩ : ∃ p, p = topV (s.O) 1 := ⟨_, rfl⟩
  rw [← hpa] at HT0
  rw [← hpb] at HT1
  have HH := Lib.hid H
  have HPa := Lib.hid hpa
  have HPb := Lib.hid hpb
  clear hW H HW hpa hpb
  go_enter Try.func15, Try.ntmps15
  go_wp2_with fail
  refine HT0.out.mono ?_
  rintro e w1 ⟨rfl, b1⟩
  have H1 := Lib.hid (HH.out.below b1 (Nat.le_refl _))
  have B1 := Lib.hid b1
  clear b1
  go_wp2_with fail
  refine (HT1.out _ H1.out).mono ?_
  rintro e w2 ⟨rfl, b2⟩
  have B2 := Lib.hid (B1.out.trans (b2.mono B1.out.size))
  have H2 := H1.out.below b2 (Nat.le_refl _)
  have H3 := (H2.alloc (.cells #[.int .i64 pa.1, .int .i64 pa.2] 63)).alloc (.cells #[.int .i64 pb.1, .int .i64 pb.2] 63)
  have hal := ((Below.refl w2.heap.size w2).alloc (Nat.le_refl _) (.cells #[.int .i64 pa.1, .int .i64 pa.2] 63)).alloc (by simp) (.cells #[.int .i64 pb.1, .int .i64 pb.2] 63)
  have B3 := Lib.hid (B2.out.trans (hal.mono B2.out.size))
  have hKa := (Blk.new w2 63 #[.int .i64 pa.1, .int .i64 pa.2]).alloc (.cells #[.int .i64 pb.1, .int .i64 pb.2] 63)
  have hKb := Blk.new (w2.alloc (.cells #[.int .i64 pa.1, .int .i64 pa.2] 63)) 63 #[.int .i64 pb.1, .int .i64 pb.2]
  have hsz : (w2.alloc (.cells #[.int .i64 pa.1, .int .i64 pa.2] 63)).heap.size = w2.heap.size + 1 := by simp
  rw [hsz] at hKb
  have c1 := H3.c1
  have HH3 := Lib.hid H3
  have KA := Lib.hid hKa
  have KB := Lib.hid hKb
  clear H1 H2 H3 hal hKa hKb hsz b2
  go_wp2_with fail
  refine (HGr.out _).mono ?_
  rintro e w3 ⟨rfl, b3⟩
  have hba := KA.out.below b3 (by simp; omega)
  have hbb := KB.out.below b3 (by simp)
  have y0 := hba.cell 0
  have y1 := hba.cell 1
  have z0 := hbb.cell 0
  have z1 := hbb.cell 1
  have H3 := Lib.hid (HH3.out.below b3 (Nat.le_refl _))
  have T3 := Lib.hid (Touch.of_below (B3.out.trans (b3.mono B3.out.size)) a.blocks)
  have hlow : ∀ k, a.blocks k → k < w2.heap.size := fun k hk => Nat.lt_of_lt_of_le (HH.out.low hk).2 B2.out.size
  have HLow := Lib.hid hlow
  simp only [List.getElem?_toArray, List.getElem?_cons_zero, List.getElem?_cons_succ] at y0 y1 z0 z1
  clear hba hbb b3 hlow c1 HT0 HT1 KA KB HH3
  generalize w2.heap.size = n0 at *
  have hka : pa.1 = 3 := by rw [HPa.out]; exact hk
  rw [hka] at y0
  have hl := lay2 B a s w3 H3.out 4 0 2
  unfold wWhile
  by_cases hr : s.h + 2 ≤ s.M.length
  · have hres : forwardR s 4 4 = (0, ⟨lay s.M s.h [4, 0], s.h + 2, s.O ++ [(4, (s.h : Int) + 1)]⟩) := by unfold forwardR; rw [if_pos hr]
    have Hres := Lib.hid hres
    clear hres
    rw [layR_yes (s := s) (by simpa using hr)] at hl
    have HL := Lib.hid hl
    clear hl
    go_wp2_with fail
    refine HL.out.mono ?_
    rintro e w4 ⟨rfl, H4, T4⟩
    simp only [List.length_cons, List.length_nil, Nat.zero_add] at H4
    have c2 := H4.c2
    have f2 := H4.f2
    go_wp2_with (at_builtin; refine wpList_append_own_at _ rfl _ _ 47 rfl B 63 i0 (.agg #[.int .i64 0, .int .i64 0]) 2 16 Try.underlying47 hi hz0 hz1 hz2 rfl (by decide) _ _ _ rfl (H4.opn.alloc _) ⟨w4.heap.size, 0, none⟩ 1 1 [.int .i64 4, .int .i64 ((s.h : Int) + 1)] rfl rfl ?c1 ?c2 ?c3 ?c4 ?c5 ?_)
    case c1 =>
      intro j u hj
      rw [Go.WideShapes.add_plain, World.cell?, heap_alloc_new]
      simpa using hj
    case c2 => intro u hu; simp at hu; rcases hu with rfl | rfl <;> rfl
    case c3 => unfold maxLen; omega
    case c4 => omega
    case c5 => have := H4.lt; have := H4.base; simp; omega
    intro v' w5 hown2 hg2 _ hloc
    obtain ⟨OA', ocap', rfl⟩ := own_slice hown2
    have hsb : w5.heap[a.sb]? = w4.heap[a.sb]? := by
      rw [hg2.block a.sb (by have := H4.lt; simp; omega) (fun e => by
        have h1 : a.OA.map (·.block) = some a.sb := by cases hoa : a.OA <;> simp_all [Value.ownBlock]
        exact H4.ne_opn h1 rfl)]
      exact Below.heap_alloc w4 _ a.sb H4.lt
    have d2 : w5.cell? ⟨a.sb, 2, none⟩ = _ := (World.cell?_of_block (w := w4) (a := ⟨a.sb, 2, none⟩) hsb).trans c2
    have g2 : w5.frozen? ⟨a.sb, 2, none⟩ = false := (World.frozen?_of_block (w := w4) (a := ⟨a.sb, 2, none⟩) hsb).trans f2
    have N := Lib.hid (push_done (s := (⟨lay s.M s.h [4, 0], s.h + 2, s.O⟩ : St)) H4 hown2 hg2 hloc hsb (by show s.O.length < 5000; omega))
    have HN : Hid (Did w B a (forwardR s 4 4) (.returned (.int .i64 0)) (w5.setCell ⟨a.sb, 2, none⟩ (.slice OA' (s.O.length + 1) ocap'))) := by
      show Did _ _ _ _ _ _
      rw [Hres.out]
      exact ⟨rfl, Next.trans rfl (T3.out.trans T4 (fun _ h => Or.inl h)) (fun _ h => Or.inl h) N.out⟩
    clear hown2 hg2 hloc hsb c2 f2
    go_wp2_with fail
    go_ret
    exact HN.out
  · have hres : forwardR s 4 4 = (-8, s) := by unfold forwardR; rw [if_neg hr]
    have Hres := Lib.hid hres
    clear hres
    rw [layR_no (s := s) (by simpa using hr)] at hl
    have HL := Lib.hid hl
    clear hl
    go_wp2_with fail
    refine HL.out.mono ?_
    rintro e w4 ⟨rfl, H4, T4⟩
    have HN : Hid (Did w B a (forwardR s 4 4) (.returned (.int .i64 (-8))) w4) := by
      show Did _ _ _ _ _ _
      rw [Hres.out]
      exact ⟨rfl, Next.same H4 (T3.out.trans T4 (fun _ h => Or.inl h))⟩
    clear H4 T4
    go_wp2_with fail
    go_ret
    exact HN.out
set_option maxHeartbeats 8000000 in
set_option maxRecDepth 100000 in
theorem form_begin (B : Nat) (a : At) (s : St) (w : World) (H : RvIs w B a s.M s.h s.O) (hO : s.O.length < 4900) (s0 : ByteArray) (hs0 : s0.size ≤ 100000) (hW : (⟨(ups s0).toArray⟩ : ByteArray) = wBegin) :
    Calls Try.prog 15 #[.pointer (some ⟨a.sb, 0, none⟩), .string s0] w (Did w B a ((0, ⟨s.M, s.h, s.O ++ [(3, (s.h : Int))]⟩))) := by
  obtain ⟨i0, hi, hz0, hz1, hz2⟩ := info_parts info63
  have HW := Lib.hid hW
  have HGr := Lib.hid (fun w => great_any s0 w hs0)
  have hfew := H.few
  have hsm := H.small
  have hhe := H.here
  have HT0 := Lib.hid (top0 B a s.M s.h s.O w H)
  have HT1 := Lib.hid (fun w1 H1 => top1 B a s.M s.h s.O w1 H1)
  rw [HW.out] at HGr
  obtain ⟨pa, hpa⟩ : ∃ p, p = topV (s.O) 0 := ⟨_, rfl⟩
  obtain ⟨pb, hpb⟩ : ∃ p, p = topV (s.O) 1 := ⟨_, rfl⟩
  rw [← hpa] at HT0
  rw [← hpb] at HT1
  have HH := Lib.hid H
  have HPa := Lib.hid hpa
  have HPb := Lib.hid hpb
  clear hW H HW hpa hpb
  go_enter Try.func15, Try.ntmps15
  go_wp2_with fail
  refine HT0.out.mono ?_
  rintro e w1 ⟨rfl, b1⟩
  have H1 := Lib.hid (HH.out.below b1 (Nat.le_refl _))
  have B1 := Lib.hid b1
  clear b1
  go_wp2_with fail
  refine (HT1.out _ H1.out).mono ?_
  rintro e w2 ⟨rfl, b2⟩
  have B2 := Lib.hid (B1.out.trans (b2.mono B1.out.size))
  have H2 := H1.out.below b2 (Nat.le_refl _)
  have H3 := (H2.alloc (.cells #[.int .i64 pa.1, .int .i64 pa.2] 63)).alloc (.cells #[.int .i64 pb.1, .int .i64 pb.2] 63)
  have hal := ((Below.refl w2.heap.size w2).alloc (Nat.le_refl _) (.cells #[.int .i64 pa.1, .int .i64 pa.2] 63)).alloc (by simp) (.cells #[.int .i64 pb.1, .int .i64 pb.2] 63)
  have B3 := Lib.hid (B2.out.trans (hal.mono B2.out.size))
  have hKa := (Blk.new w2 63 #[.int .i64 pa.1, .int .i64 pa.2]).alloc (.cells #[.int .i64 pb.1, .int .i64 pb.2] 63)
  have hKb := Blk.new (w2.alloc (.cells #[.int .i64 pa.1, .int .i64 pa.2] 63)) 63 #[.int .i64 pb.1, .int .i64 pb.2]
  have hsz : (w2.alloc (.cells #[.int .i64 pa.1, .int .i64 pa.2] 63)).heap.size = w2.heap.size + 1 := by simp
  rw [hsz] at hKb
  have c1 := H3.c1
  have HH3 := Lib.hid H3
  have KA := Lib.hid hKa
  have KB := Lib.hid hKb
  clear H1 H2 H3 hal hKa hKb hsz b2
  go_wp2_with fail
  refine (HGr.out _).mono ?_
  rintro e w3 ⟨rfl, b3⟩
  have hba := KA.out.below b3 (by simp; omega)
  have hbb := KB.out.below b3 (by simp)
  have y0 := hba.cell 0
  have y1 := hba.cell 1
  have z0 := hbb.cell 0
  have z1 := hbb.cell 1
  have H3 := Lib.hid (HH3.out.below b3 (Nat.le_refl _))
  have T3 := Lib.hid (Touch.of_below (B3.out.trans (b3.mono B3.out.size)) a.blocks)
  have hlow : ∀ k, a.blocks k → k < w2.heap.size := fun k hk => Nat.lt_of_lt_of_le (HH.out.low hk).2 B2.out.size
  have HLow := Lib.hid hlow
  simp only [List.getElem?_toArray, List.getElem?_cons_zero, List.getElem?_cons_succ] at y0 y1 z0 z1
  clear hba hbb b3 hlow c1 HT0 HT1 KA KB HH3
  generalize w2.heap.size = n0 at *
  have H4 := H3.out
  have c2 := H4.c2
  have f2 := H4.f2
  unfold wBegin
  go_wp2_with (at_builtin; refine wpList_append_own_at _ rfl _ _ 47 rfl B 63 i0 (.agg #[.int .i64 0, .int .i64 0]) 2 16 Try.underlying47 hi hz0 hz1 hz2 rfl (by decide) _ _ _ rfl (H4.opn.alloc _) ⟨w3.heap.size, 0, none⟩ 1 1 [.int .i64 3, .int .i64 (s.h : Int)] rfl rfl ?c1 ?c2 ?c3 ?c4 ?c5 ?_)
  case c1 =>
    intro j u hj
    rw [Go.WideShapes.add_plain, World.cell?, heap_alloc_new]
    simpa using hj
  case c2 => intro u hu; simp at hu; rcases hu with rfl | rfl <;> rfl
  case c3 => unfold maxLen; omega
  case c4 => omega
  case c5 => have := H4.lt; have := H4.base; simp; omega
  intro v' w5 hown2 hg2 _ hloc
  obtain ⟨OA', ocap', rfl⟩ := own_slice hown2
  have hsb : w5.heap[a.sb]? = w3.heap[a.sb]? := by
    rw [hg2.block a.sb (by have := H4.lt; simp; omega) (fun e => by
      have h1 : a.OA.map (·.block) = some a.sb := by cases hoa : a.OA <;> simp_all [Value.ownBlock]
      exact H4.ne_opn h1 rfl)]
    exact Below.heap_alloc w3 _ a.sb H4.lt
  have d2 : w5.cell? ⟨a.sb, 2, none⟩ = _ := (World.cell?_of_block (w := w3) (a := ⟨a.sb, 2, none⟩) hsb).trans c2
  have g2 : w5.frozen? ⟨a.sb, 2, none⟩ = false := (World.frozen?_of_block (w := w3) (a := ⟨a.sb, 2, none⟩) hsb).trans f2
  have N := Lib.hid (push_done (s := s) H4 hown2 hg2 hloc hsb (by show s.O.length < 5000; omega))
  have HN : Hid (Did w B a ((0, ⟨s.M, s.h, s.O ++ [(3, (s.h : Int))]⟩)) (.returned (.int .i64 0)) (w5.setCell ⟨a.sb, 2, none⟩ (.slice OA' (s.O.length + 1) ocap'))) := by
    show Did _ _ _ _ _ _
    exact ⟨rfl, Next.trans rfl (T3.out) (fun _ h => Or.inl h) N.out⟩
  clear hown2 hg2 hloc hsb c2 f2
  go_wp2_with fail
  go_ret
  exact HN.out
set_option maxHeartbeats 8000000 in
set_option maxRecDepth 100000 in
theorem form_other (B : Nat) (a : At) (s : St) (w : World) (H : RvIs w B a s.M s.h s.O) (s0 : ByteArray) (hs0 : s0.size ≤ 100000) (W : ByteArray) (hW : (⟨(ups s0).toArray⟩ : ByteArray) = W) (h0 : W ≠ wIf) (h1 : W ≠ wElse) (h2 : W ≠ wThen) (h3 : W ≠ wBegin) (h4 : W ≠ wUntil) (h5 : W ≠ wAgain) (h6 : W ≠ wWhile) (h7 : W ≠ wRepeat) (h8 : W ≠ wDo) (h9 : W ≠ wLoop) (h10 : W ≠ wPlus) :
    Calls Try.prog 15 #[.pointer (some ⟨a.sb, 0, none⟩), .string s0] w (Did w B a (-13, s)) := by
  have HW := Lib.hid hW
  have HGr := Lib.hid (fun w => great_any s0 w hs0)
  have hfew := H.few
  have hsm := H.small
  have hhe := H.here
  have HT0 := Lib.hid (top0 B a s.M s.h s.O w H)
  have HT1 := Lib.hid (fun w1 H1 => top1 B a s.M s.h s.O w1 H1)
  rw [HW.out] at HGr
  obtain ⟨pa, hpa⟩ : ∃ p, p = topV (s.O) 0 := ⟨_, rfl⟩
  obtain ⟨pb, hpb⟩ : ∃ p, p = topV (s.O) 1 := ⟨_, rfl⟩
  rw [← hpa] at HT0
  rw [← hpb] at HT1
  have HH := Lib.hid H
  have HPa := Lib.hid hpa
  have HPb := Lib.hid hpb
  clear hW H HW hpa hpb
  go_enter Try.func15, Try.ntmps15
  go_wp2_with fail
  refine HT0.out.mono ?_
  rintro e w1 ⟨rfl, b1⟩
  have H1 := Lib.hid (HH.out.below b1 (Nat.le_refl _))
  have B1 := Lib.hid b1
  clear b1
  go_wp2_with fail
  refine (HT1.out _ H1.out).mono ?_
  rintro e w2 ⟨rfl, b2⟩
  have B2 := Lib.hid (B1.out.trans (b2.mono B1.out.size))
  have H2 := H1.out.below b2 (Nat.le_refl _)
  have H3 := (H2.alloc (.cells #[.int .i64 pa.1, .int .i64 pa.2] 63)).alloc (.cells #[.int .i64 pb.1, .int .i64 pb.2] 63)
  have hal := ((Below.refl w2.heap.size w2).alloc (Nat.le_refl _) (.cells #[.int .i64 pa.1, .int .i64 pa.2] 63)).alloc (by simp) (.cells #[.int .i64 pb.1, .int .i64 pb.2] 63)
  have B3 := Lib.hid (B2.out.trans (hal.mono B2.out.size))
  have hKa := (Blk.new w2 63 #[.int .i64 pa.1, .int .i64 pa.2]).alloc (.cells #[.int .i64 pb.1, .int .i64 pb.2] 63)
  have hKb := Blk.new (w2.alloc (.cells #[.int .i64 pa.1, .int .i64 pa.2] 63)) 63 #[.int .i64 pb.1, .int .i64 pb.2]
  have hsz : (w2.alloc (.cells #[.int .i64 pa.1, .int .i64 pa.2] 63)).heap.size = w2.heap.size + 1 := by simp
  rw [hsz] at hKb
  have c1 := H3.c1
  have HH3 := Lib.hid H3
  have KA := Lib.hid hKa
  have KB := Lib.hid hKb
  clear H1 H2 H3 hal hKa hKb hsz b2
  go_wp2_with fail
  refine (HGr.out _).mono ?_
  rintro e w3 ⟨rfl, b3⟩
  have hba := KA.out.below b3 (by simp; omega)
  have hbb := KB.out.below b3 (by simp)
  have y0 := hba.cell 0
  have y1 := hba.cell 1
  have z0 := hbb.cell 0
  have z1 := hbb.cell 1
  have H3 := Lib.hid (HH3.out.below b3 (Nat.le_refl _))
  have T3 := Lib.hid (Touch.of_below (B3.out.trans (b3.mono B3.out.size)) a.blocks)
  have hlow : ∀ k, a.blocks k → k < w2.heap.size := fun k hk => Nat.lt_of_lt_of_le (HH.out.low hk).2 B2.out.size
  have HLow := Lib.hid hlow
  simp only [List.getElem?_toArray, List.getElem?_cons_zero, List.getElem?_cons_succ] at y0 y1 z0 z1
  clear hba hbb b3 hlow c1 HT0 HT1 KA KB HH3
  generalize w2.heap.size = n0 at *
  have b0 : (W.toList == [73, 70]) = false := ne_lit h0
  have b1 : (W.toList == [69, 76, 83, 69]) = false := ne_lit h1
  have b2 : (W.toList == [84, 72, 69, 78]) = false := ne_lit h2
  have b3 : (W.toList == [66, 69, 71, 73, 78]) = false := ne_lit h3
  have b4 : (W.toList == [85, 78, 84, 73, 76]) = false := ne_lit h4
  have b5 : (W.toList == [65, 71, 65, 73, 78]) = false := ne_lit h5
  have b6 : (W.toList == [87, 72, 73, 76, 69]) = false := ne_lit h6
  have b7 : (W.toList == [82, 69, 80, 69, 65, 84]) = false := ne_lit h7
  have b8 : (W.toList == [68, 79]) = false := ne_lit h8
  have b9 : (W.toList == [76, 79, 79, 80]) = false := ne_lit h9
  have b10 : (W.toList == [43, 76, 79, 79, 80]) = false := ne_lit h10
  clear h0 h1 h2 h3 h4 h5 h6 h7 h8 h9 h10
  have HN : Hid (Did w B a (-13, s) (.returned (.int .i64 (-13))) w3) := ⟨rfl, Next.same H3.out T3.out⟩
  go_wp2_with fail
  go_ret
  exact HN.out
set_option maxHeartbeats 8000000 in
set_option maxRecDepth 100000 in
theorem unfit_else (B : Nat) (a : At) (s : St) (w : World) (H : RvIs w B a s.M s.h s.O) (hO : s.O.length < 4900) (hk : (topV s.O 0).1 ≠ 1) (s0 : ByteArray) (hs0 : s0.size ≤ 100000) (hW : (⟨(ups s0).toArray⟩ : ByteArray) = wElse) :
    Calls Try.prog 15 #[.pointer (some ⟨a.sb, 0, none⟩), .string s0] w (Did w B a ((-22, s))) := by
  have HW := Lib.hid hW
  have HGr := Lib.hid (fun w => great_any s0 w hs0)
  have hfew := H.few
  have hsm := H.small
  have hhe := H.here
  have HT0 := Lib.hid (top0 B a s.M s.h s.O w H)
  have HT1 := Lib.hid (fun w1 H1 => top1 B a s.M s.h s.O w1 H1)
  rw [HW.out] at HGr
  obtain ⟨pa, hpa⟩ : ∃ p, p = topV (s.O) 0 := ⟨_, rfl⟩
  obtain ⟨pb, hpb⟩ : ∃ p, p = topV (s.O) 1 := ⟨_, rfl⟩
  rw [← hpa] at HT0
  rw [← hpb] at HT1
  have HH := Lib.hid H
  have HPa := Lib.hid hpa
  have HPb := Lib.hid hpb
  clear hW H HW hpa hpb
  go_enter Try.func15, Try.ntmps15
  go_wp2_with fail
  refine HT0.out.mono ?_
  rintro e w1 ⟨rfl, b1⟩
  have H1 := Lib.hid (HH.out.below b1 (Nat.le_refl _))
  have B1 := Lib.hid b1
  clear b1
  go_wp2_with fail
  refine (HT1.out _ H1.out).mono ?_
  rintro e w2 ⟨rfl, b2⟩
  have B2 := Lib.hid (B1.out.trans (b2.mono B1.out.size))
  have H2 := H1.out.below b2 (Nat.le_refl _)
  have H3 := (H2.alloc (.cells #[.int .i64 pa.1, .int .i64 pa.2] 63)).alloc (.cells #[.int .i64 pb.1, .int .i64 pb.2] 63)
  have hal := ((Below.refl w2.heap.size w2).alloc (Nat.le_refl _) (.cells #[.int .i64 pa.1, .int .i64 pa.2] 63)).alloc (by simp) (.cells #[.int .i64 pb.1, .int .i64 pb.2] 63)
  have B3 := Lib.hid (B2.out.trans (hal.mono B2.out.size))
  have hKa := (Blk.new w2 63 #[.int .i64 pa.1, .int .i64 pa.2]).alloc (.cells #[.int .i64 pb.1, .int .i64 pb.2] 63)
  have hKb := Blk.new (w2.alloc (.cells #[.int .i64 pa.1, .int .i64 pa.2] 63)) 63 #[.int .i64 pb.1, .int .i64 pb.2]
  have hsz : (w2.alloc (.cells #[.int .i64 pa.1, .int .i64 pa.2] 63)).heap.size = w2.heap.size + 1 := by simp
  rw [hsz] at hKb
  have c1 := H3.c1
  have HH3 := Lib.hid H3
  have KA := Lib.hid hKa
  have KB := Lib.hid hKb
  clear H1 H2 H3 hal hKa hKb hsz b2
  go_wp2_with fail
  refine (HGr.out _).mono ?_
  rintro e w3 ⟨rfl, b3⟩
  have hba := KA.out.below b3 (by simp; omega)
  have hbb := KB.out.below b3 (by simp)
  have y0 := hba.cell 0
  have y1 := hba.cell 1
  have z0 := hbb.cell 0
  have z1 := hbb.cell 1
  have H3 := Lib.hid (HH3.out.below b3 (Nat.le_refl _))
  have T3 := Lib.hid (Touch.of_below (B3.out.trans (b3.mono B3.out.size)) a.blocks)
  have hlow : ∀ k, a.blocks k → k < w2.heap.size := fun k hk => Nat.lt_of_lt_of_le (HH.out.low hk).2 B2.out.size
  have HLow := Lib.hid hlow
  simp only [List.getElem?_toArray, List.getElem?_cons_zero, List.getElem?_cons_succ] at y0 y1 z0 z1
  clear hba hbb b3 hlow c1 HT0 HT1 KA KB HH3
  generalize w2.heap.size = n0 at *
  have hka : ¬ pa.1 = 1 := by rw [HPa.out]; exact hk
  have hkd : (pa.1 != 1) = true := by simpa using hka
  unfold wElse
  have HN : Hid (Did w B a (-22, s) (.returned (.int .i64 (-22))) w3) := ⟨rfl, Next.same H3.out T3.out⟩
  go_wp2_with fail
  go_ret
  exact HN.out
set_option maxHeartbeats 8000000 in
set_option maxRecDepth 100000 in
theorem unfit_until (B : Nat) (a : At) (s : St) (w : World) (H : RvIs w B a s.M s.h s.O) (hO : s.O.length < 4900) (hk : (topV s.O 0).1 ≠ 3) (s0 : ByteArray) (hs0 : s0.size ≤ 100000) (hW : (⟨(ups s0).toArray⟩ : ByteArray) = wUntil) :
    Calls Try.prog 15 #[.pointer (some ⟨a.sb, 0, none⟩), .string s0] w (Did w B a ((-22, s))) := by
  have HW := Lib.hid hW
  have HGr := Lib.hid (fun w => great_any s0 w hs0)
  have hfew := H.few
  have hsm := H.small
  have hhe := H.here
  have HT0 := Lib.hid (top0 B a s.M s.h s.O w H)
  have HT1 := Lib.hid (fun w1 H1 => top1 B a s.M s.h s.O w1 H1)
  rw [HW.out] at HGr
  obtain ⟨pa, hpa⟩ : ∃ p, p = topV (s.O) 0 := ⟨_, rfl⟩
  obtain ⟨pb, hpb⟩ : ∃ p, p = topV (s.O) 1 := ⟨_, rfl⟩
  rw [← hpa] at HT0
  rw [← hpb] at HT1
  have HH := Lib.hid H
  have HPa := Lib.hid hpa
  have HPb := Lib.hid hpb
  clear hW H HW hpa hpb
  go_enter Try.func15, Try.ntmps15
  go_wp2_with fail
  refine HT0.out.mono ?_
  rintro e w1 ⟨rfl, b1⟩
  have H1 := Lib.hid (HH.out.below b1 (Nat.le_refl _))
  have B1 := Lib.hid b1
  clear b1
  go_wp2_with fail
  refine (HT1.out _ H1.out).mono ?_
  rintro e w2 ⟨rfl, b2⟩
  have B2 := Lib.hid (B1.out.trans (b2.mono B1.out.size))
  have H2 := H1.out.below b2 (Nat.le_refl _)
  have H3 := (H2.alloc (.cells #[.int .i64 pa.1, .int .i64 pa.2] 63)).alloc (.cells #[.int .i64 pb.1, .int .i64 pb.2] 63)
  have hal := ((Below.refl w2.heap.size w2).alloc (Nat.le_refl _) (.cells #[.int .i64 pa.1, .int .i64 pa.2] 63)).alloc (by simp) (.cells #[.int .i64 pb.1, .int .i64 pb.2] 63)
  have B3 := Lib.hid (B2.out.trans (hal.mono B2.out.size))
  have hKa := (Blk.new w2 63 #[.int .i64 pa.1, .int .i64 pa.2]).alloc (.cells #[.int .i64 pb.1, .int .i64 pb.2] 63)
  have hKb := Blk.new (w2.alloc (.cells #[.int .i64 pa.1, .int .i64 pa.2] 63)) 63 #[.int .i64 pb.1, .int .i64 pb.2]
  have hsz : (w2.alloc (.cells #[.int .i64 pa.1, .int .i64 pa.2] 63)).heap.size = w2.heap.size + 1 := by simp
  rw [hsz] at hKb
  have c1 := H3.c1
  have HH3 := Lib.hid H3
  have KA := Lib.hid hKa
  have KB := Lib.hid hKb
  clear H1 H2 H3 hal hKa hKb hsz b2
  go_wp2_with fail
  refine (HGr.out _).mono ?_
  rintro e w3 ⟨rfl, b3⟩
  have hba := KA.out.below b3 (by simp; omega)
  have hbb := KB.out.below b3 (by simp)
  have y0 := hba.cell 0
  have y1 := hba.cell 1
  have z0 := hbb.cell 0
  have z1 := hbb.cell 1
  have H3 := Lib.hid (HH3.out.below b3 (Nat.le_refl _))
  have T3 := Lib.hid (Touch.of_below (B3.out.trans (b3.mono B3.out.size)) a.blocks)
  have hlow : ∀ k, a.blocks k → k < w2.heap.size := fun k hk => Nat.lt_of_lt_of_le (HH.out.low hk).2 B2.out.size
  have HLow := Lib.hid hlow
  simp only [List.getElem?_toArray, List.getElem?_cons_zero, List.getElem?_cons_succ] at y0 y1 z0 z1
  clear hba hbb b3 hlow c1 HT0 HT1 KA KB HH3
  generalize w2.heap.size = n0 at *
  have hka : ¬ pa.1 = 3 := by rw [HPa.out]; exact hk
  have hkd : (pa.1 != 3) = true := by simpa using hka
  unfold wUntil
  have HN : Hid (Did w B a (-22, s) (.returned (.int .i64 (-22))) w3) := ⟨rfl, Next.same H3.out T3.out⟩
  go_wp2_with fail
  go_ret
  exact HN.out
set_option maxHeartbeats 8000000 in
set_option maxRecDepth 100000 in
theorem unfit_again (B : Nat) (a : At) (s : St) (w : World) (H : RvIs w B a s.M s.h s.O) (hO : s.O.length < 4900) (hk : (topV s.O 0).1 ≠ 3) (s0 : ByteArray) (hs0 : s0.size ≤ 100000) (hW : (⟨(ups s0).toArray⟩ : ByteArray) = wAgain) :
    Calls Try.prog 15 #[.pointer (some ⟨a.sb, 0, none⟩), .string s0] w (Did w B a ((-22, s))) := by
  have HW := Lib.hid hW
  have HGr := Lib.hid (fun w => great_any s0 w hs0)
  have hfew := H.few
  have hsm := H.small
  have hhe := H.here
  have HT0 := Lib.hid (top0 B a s.M s.h s.O w H)
  have HT1 := Lib.hid (fun w1 H1 => top1 B a s.M s.h s.O w1 H1)
  rw [HW.out] at HGr
  obtain ⟨pa, hpa⟩ : ∃ p, p = topV (s.O) 0 := ⟨_, rfl⟩
  obtain ⟨pb, hpb⟩ : ∃ p, p = topV (s.O) 1 := ⟨_, rfl⟩
  rw [← hpa] at HT0
  rw [← hpb] at HT1
  have HH := Lib.hid H
  have HPa := Lib.hid hpa
  have HPb := Lib.hid hpb
  clear hW H HW hpa hpb
  go_enter Try.func15, Try.ntmps15
  go_wp2_with fail
  refine HT0.out.mono ?_
  rintro e w1 ⟨rfl, b1⟩
  have H1 := Lib.hid (HH.out.below b1 (Nat.le_refl _))
  have B1 := Lib.hid b1
  clear b1
  go_wp2_with fail
  refine (HT1.out _ H1.out).mono ?_
  rintro e w2 ⟨rfl, b2⟩
  have B2 := Lib.hid (B1.out.trans (b2.mono B1.out.size))
  have H2 := H1.out.below b2 (Nat.le_refl _)
  have H3 := (H2.alloc (.cells #[.int .i64 pa.1, .int .i64 pa.2] 63)).alloc (.cells #[.int .i64 pb.1, .int .i64 pb.2] 63)
  have hal := ((Below.refl w2.heap.size w2).alloc (Nat.le_refl _) (.cells #[.int .i64 pa.1, .int .i64 pa.2] 63)).alloc (by simp) (.cells #[.int .i64 pb.1, .int .i64 pb.2] 63)
  have B3 := Lib.hid (B2.out.trans (hal.mono B2.out.size))
  have hKa := (Blk.new w2 63 #[.int .i64 pa.1, .int .i64 pa.2]).alloc (.cells #[.int .i64 pb.1, .int .i64 pb.2] 63)
  have hKb := Blk.new (w2.alloc (.cells #[.int .i64 pa.1, .int .i64 pa.2] 63)) 63 #[.int .i64 pb.1, .int .i64 pb.2]
  have hsz : (w2.alloc (.cells #[.int .i64 pa.1, .int .i64 pa.2] 63)).heap.size = w2.heap.size + 1 := by simp
  rw [hsz] at hKb
  have c1 := H3.c1
  have HH3 := Lib.hid H3
  have KA := Lib.hid hKa
  have KB := Lib.hid hKb
  clear H1 H2 H3 hal hKa hKb hsz b2
  go_wp2_with fail
  refine (HGr.out _).mono ?_
  rintro e w3 ⟨rfl, b3⟩
  have hba := KA.out.below b3 (by simp; omega)
  have hbb := KB.out.below b3 (by simp)
  have y0 := hba.cell 0
  have y1 := hba.cell 1
  have z0 := hbb.cell 0
  have z1 := hbb.cell 1
  have H3 := Lib.hid (HH3.out.below b3 (Nat.le_refl _))
  have T3 := Lib.hid (Touch.of_below (B3.out.trans (b3.mono B3.out.size)) a.blocks)
  have hlow : ∀ k, a.blocks k → k < w2.heap.size := fun k hk => Nat.lt_of_lt_of_le (HH.out.low hk).2 B2.out.size
  have HLow := Lib.hid hlow
  simp only [List.getElem?_toArray, List.getElem?_cons_zero, List.getElem?_cons_succ] at y0 y1 z0 z1
  clear hba hbb b3 hlow c1 HT0 HT1 KA KB HH3
  generalize w2.heap.size = n0 at *
  have hka : ¬ pa.1 = 3 := by rw [HPa.out]; exact hk
  have hkd : (pa.1 != 3) = true := by simpa using hka
  unfold wAgain
  have HN : Hid (Did w B a (-22, s) (.returned (.int .i64 (-22))) w3) := ⟨rfl, Next.same H3.out T3.out⟩
  go_wp2_with fail
  go_ret
  exact HN.out
set_option maxHeartbeats 8000000 in
set_option maxRecDepth 100000 in
theorem unfit_while (B : Nat) (a : At) (s : St) (w : World) (H : RvIs w B a s.M s.h s.O) (hO : s.O.length < 4900) (hk : (topV s.O 0).1 ≠ 3) (s0 : ByteArray) (hs0 : s0.size ≤ 100000) (hW : (⟨(ups s0).toArray⟩ : ByteArray) = wWhile) :
    Calls Try.prog 15 #[.pointer (some ⟨a.sb, 0, none⟩), .string s0] w (Did w B a ((-22, s))) := by
  have HW := Lib.hid hW
  have HGr := Lib.hid (fun w => great_any s0 w hs0)
  have hfew := H.few
  have hsm := H.small
  have hhe := H.here
  have HT0 := Lib.hid (top0 B a s.M s.h s.O w H)
  have HT1 := Lib.hid (fun w1 H1 => top1 B a s.M s.h s.O w1 H1)
  rw [HW.out] at HGr
  obtain ⟨pa, hpa⟩ : ∃ p, p = topV (s.O) 0 := ⟨_, rfl⟩
  obtain ⟨pb, hpb⟩ : ∃ p, p = topV (s.O) 1 := ⟨_, rfl⟩
  rw [← hpa] at HT0
  rw [← hpb] at HT1
  have HH := Lib.hid H
  have HPa := Lib.hid hpa
  have HPb := Lib.hid hpb
  clear hW H HW hpa hpb
  go_enter Try.func15, Try.ntmps15
  go_wp2_with fail
  refine HT0.out.mono ?_
  rintro e w1 ⟨rfl, b1⟩
  have H1 := Lib.hid (HH.out.below b1 (Nat.le_refl _))
  have B1 := Lib.hid b1
  clear b1
  go_wp2_with fail
  refine (HT1.out _ H1.out).mono ?_
  rintro e w2 ⟨rfl, b2⟩
  have B2 := Lib.hid (B1.out.trans (b2.mono B1.out.size))
  have H2 := H1.out.below b2 (Nat.le_refl _)
  have H3 := (H2.alloc (.cells #[.int .i64 pa.1, .int .i64 pa.2] 63)).alloc (.cells #[.int .i64 pb.1, .int .i64 pb.2] 63)
  have hal := ((Below.refl w2.heap.size w2).alloc (Nat.le_refl _) (.cells #[.int .i64 pa.1, .int .i64 pa.2] 63)).alloc (by simp) (.cells #[.int .i64 pb.1, .int .i64 pb.2] 63)
  have B3 := Lib.hid (B2.out.trans (hal.mono B2.out.size))
  have hKa := (Blk.new w2 63 #[.int .i64 pa.1, .int .i64 pa.2]).alloc (.cells #[.int .i64 pb.1, .int .i64 pb.2] 63)
  have hKb := Blk.new (w2.alloc (.cells #[.int .i64 pa.1, .int .i64 pa.2] 63)) 63 #[.int .i64 pb.1, .int .i64 pb.2]
  have hsz : (w2.alloc (.cells #[.int .i64 pa.1, .int .i64 pa.2] 63)).heap.size = w2.heap.size + 1 := by simp
  rw [hsz] at hKb
  have c1 := H3.c1
  have HH3 := Lib.hid H3
  have KA := Lib.hid hKa
  have KB := Lib.hid hKb
  clear H1 H2 H3 hal hKa hKb hsz b2
  go_wp2_with fail
  refine (HGr.out _).mono ?_
  rintro e w3 ⟨rfl, b3⟩
  have hba := KA.out.below b3 (by simp; omega)
  have hbb := KB.out.below b3 (by simp)
  have y0 := hba.cell 0
  have y1 := hba.cell 1
  have z0 := hbb.cell 0
  have z1 := hbb.cell 1
  have H3 := Lib.hid (HH3.out.below b3 (Nat.le_refl _))
  have T3 := Lib.hid (Touch.of_below (B3.out.trans (b3.mono B3.out.size)) a.blocks)
  have hlow : ∀ k, a.blocks k → k < w2.heap.size := fun k hk => Nat.lt_of_lt_of_le (HH.out.low hk).2 B2.out.size
  have HLow := Lib.hid hlow
  simp only [List.getElem?_toArray, List.getElem?_cons_zero, List.getElem?_cons_succ] at y0 y1 z0 z1
  clear hba hbb b3 hlow c1 HT0 HT1 KA KB HH3
  generalize w2.heap.size = n0 at *
  have hka : ¬ pa.1 = 3 := by rw [HPa.out]; exact hk
  have hkd : (pa.1 != 3) = true := by simpa using hka
  unfold wWhile
  have HN : Hid (Did w B a (-22, s) (.returned (.int .i64 (-22))) w3) := ⟨rfl, Next.same H3.out T3.out⟩
  go_wp2_with fail
  go_ret
  exact HN.out
set_option maxHeartbeats 8000000 in
set_option maxRecDepth 100000 in
theorem unfit_loop (B : Nat) (a : At) (s : St) (w : World) (H : RvIs w B a s.M s.h s.O) (hO : s.O.length < 4900) (hk : (topV s.O 0).1 ≠ 5) (s0 : ByteArray) (hs0 : s0.size ≤ 100000) (hW : (⟨(ups s0).toArray⟩ : ByteArray) = wLoop) :
    Calls Try.prog 15 #[.pointer (some ⟨a.sb, 0, none⟩), .string s0] w (Did w B a ((-22, s))) := by
  have HW := Lib.hid hW
  have HGr := Lib.hid (fun w => great_any s0 w hs0)
  have hfew := H.few
  have hsm := H.small
  have hhe := H.here
  have HT0 := Lib.hid (top0 B a s.M s.h s.O w H)
  have HT1 := Lib.hid (fun w1 H1 => top1 B a s.M s.h s.O w1 H1)
  rw [HW.out] at HGr
  obtain ⟨pa, hpa⟩ : ∃ p, p = topV (s.O) 0 := ⟨_, rfl⟩
  obtain ⟨pb, hpb⟩ : ∃ p, p = topV (s.O) 1 := ⟨_, rfl⟩
  rw [← hpa] at HT0
  rw [← hpb] at HT1
  have HH := Lib.hid H
  have HPa := Lib.hid hpa
  have HPb := Lib.hid hpb
  clear hW H HW hpa hpb
  go_enter Try.func15, Try.ntmps15
  go_wp2_with fail
  refine HT0.out.mono ?_
  rintro e w1 ⟨rfl, b1⟩
  have H1 := Lib.hid (HH.out.below b1 (Nat.le_refl _))
  have B1 := Lib.hid b1
  clear b1
  go_wp2_with fail
  refine (HT1.out _ H1.out).mono ?_
  rintro e w2 ⟨rfl, b2⟩
  have B2 := Lib.hid (B1.out.trans (b2.mono B1.out.size))
  have H2 := H1.out.below b2 (Nat.le_refl _)
  have H3 := (H2.alloc (.cells #[.int .i64 pa.1, .int .i64 pa.2] 63)).alloc (.cells #[.int .i64 pb.1, .int .i64 pb.2] 63)
  have hal := ((Below.refl w2.heap.size w2).alloc (Nat.le_refl _) (.cells #[.int .i64 pa.1, .int .i64 pa.2] 63)).alloc (by simp) (.cells #[.int .i64 pb.1, .int .i64 pb.2] 63)
  have B3 := Lib.hid (B2.out.trans (hal.mono B2.out.size))
  have hKa := (Blk.new w2 63 #[.int .i64 pa.1, .int .i64 pa.2]).alloc (.cells #[.int .i64 pb.1, .int .i64 pb.2] 63)
  have hKb := Blk.new (w2.alloc (.cells #[.int .i64 pa.1, .int .i64 pa.2] 63)) 63 #[.int .i64 pb.1, .int .i64 pb.2]
  have hsz : (w2.alloc (.cells #[.int .i64 pa.1, .int .i64 pa.2] 63)).heap.size = w2.heap.size + 1 := by simp
  rw [hsz] at hKb
  have c1 := H3.c1
  have HH3 := Lib.hid H3
  have KA := Lib.hid hKa
  have KB := Lib.hid hKb
  clear H1 H2 H3 hal hKa hKb hsz b2
  go_wp2_with fail
  refine (HGr.out _).mono ?_
  rintro e w3 ⟨rfl, b3⟩
  have hba := KA.out.below b3 (by simp; omega)
  have hbb := KB.out.below b3 (by simp)
  have y0 := hba.cell 0
  have y1 := hba.cell 1
  have z0 := hbb.cell 0
  have z1 := hbb.cell 1
  have H3 := Lib.hid (HH3.out.below b3 (Nat.le_refl _))
  have T3 := Lib.hid (Touch.of_below (B3.out.trans (b3.mono B3.out.size)) a.blocks)
  have hlow : ∀ k, a.blocks k → k < w2.heap.size := fun k hk => Nat.lt_of_lt_of_le (HH.out.low hk).2 B2.out.size
  have HLow := Lib.hid hlow
  simp only [List.getElem?_toArray, List.getElem?_cons_zero, List.getElem?_cons_succ] at y0 y1 z0 z1
  clear hba hbb b3 hlow c1 HT0 HT1 KA KB HH3
  generalize w2.heap.size = n0 at *
  have hka : ¬ pa.1 = 5 := by rw [HPa.out]; exact hk
  have hkd : (pa.1 != 5) = true := by simpa using hka
  unfold wLoop
  have HN : Hid (Did w B a (-22, s) (.returned (.int .i64 (-22))) w3) := ⟨rfl, Next.same H3.out T3.out⟩
  go_wp2_with fail
  go_ret
  exact HN.out
set_option maxHeartbeats 8000000 in
set_option maxRecDepth 100000 in
theorem unfit_plus (B : Nat) (a : At) (s : St) (w : World) (H : RvIs w B a s.M s.h s.O) (hO : s.O.length < 4900) (hk : (topV s.O 0).1 ≠ 5) (s0 : ByteArray) (hs0 : s0.size ≤ 100000) (hW : (⟨(ups s0).toArray⟩ : ByteArray) = wPlus) :
    Calls Try.prog 15 #[.pointer (some ⟨a.sb, 0, none⟩), .string s0] w (Did w B a ((-22, s))) := by
  have HW := Lib.hid hW
  have HGr := Lib.hid (fun w => great_any s0 w hs0)
  have hfew := H.few
  have hsm := H.small
  have hhe := H.here
  have HT0 := Lib.hid (top0 B a s.M s.h s.O w H)
  have HT1 := Lib.hid (fun w1 H1 => top1 B a s.M s.h s.O w1 H1)
  rw [HW.out] at HGr
  obtain ⟨pa, hpa⟩ : ∃ p, p = topV (s.O) 0 := ⟨_, rfl⟩
  obtain ⟨pb, hpb⟩ : ∃ p, p = topV (s.O) 1 := ⟨_, rfl⟩
  rw [← hpa] at HT0
  rw [← hpb] at HT1
  have HH := Lib.hid H
  have HPa := Lib.hid hpa
  have HPb := Lib.hid hpb
  clear hW H HW hpa hpb
  go_enter Try.func15, Try.ntmps15
  go_wp2_with fail
  refine HT0.out.mono ?_
  rintro e w1 ⟨rfl, b1⟩
  have H1 := Lib.hid (HH.out.below b1 (Nat.le_refl _))
  have B1 := Lib.hid b1
  clear b1
  go_wp2_with fail
  refine (HT1.out _ H1.out).mono ?_
  rintro e w2 ⟨rfl, b2⟩
  have B2 := Lib.hid (B1.out.trans (b2.mono B1.out.size))
  have H2 := H1.out.below b2 (Nat.le_refl _)
  have H3 := (H2.alloc (.cells #[.int .i64 pa.1, .int .i64 pa.2] 63)).alloc (.cells #[.int .i64 pb.1, .int .i64 pb.2] 63)
  have hal := ((Below.refl w2.heap.size w2).alloc (Nat.le_refl _) (.cells #[.int .i64 pa.1, .int .i64 pa.2] 63)).alloc (by simp) (.cells #[.int .i64 pb.1, .int .i64 pb.2] 63)
  have B3 := Lib.hid (B2.out.trans (hal.mono B2.out.size))
  have hKa := (Blk.new w2 63 #[.int .i64 pa.1, .int .i64 pa.2]).alloc (.cells #[.int .i64 pb.1, .int .i64 pb.2] 63)
  have hKb := Blk.new (w2.alloc (.cells #[.int .i64 pa.1, .int .i64 pa.2] 63)) 63 #[.int .i64 pb.1, .int .i64 pb.2]
  have hsz : (w2.alloc (.cells #[.int .i64 pa.1, .int .i64 pa.2] 63)).heap.size = w2.heap.size + 1 := by simp
  rw [hsz] at hKb
  have c1 := H3.c1
  have HH3 := Lib.hid H3
  have KA := Lib.hid hKa
  have KB := Lib.hid hKb
  clear H1 H2 H3 hal hKa hKb hsz b2
  go_wp2_with fail
  refine (HGr.out _).mono ?_
  rintro e w3 ⟨rfl, b3⟩
  have hba := KA.out.below b3 (by simp; omega)
  have hbb := KB.out.below b3 (by simp)
  have y0 := hba.cell 0
  have y1 := hba.cell 1
  have z0 := hbb.cell 0
  have z1 := hbb.cell 1
  have H3 := Lib.hid (HH3.out.below b3 (Nat.le_refl _))
  have T3 := Lib.hid (Touch.of_below (B3.out.trans (b3.mono B3.out.size)) a.blocks)
  have hlow : ∀ k, a.blocks k → k < w2.heap.size := fun k hk => Nat.lt_of_lt_of_le (HH.out.low hk).2 B2.out.size
  have HLow := Lib.hid hlow
  simp only [List.getElem?_toArray, List.getElem?_cons_zero, List.getElem?_cons_succ] at y0 y1 z0 z1
  clear hba hbb b3 hlow c1 HT0 HT1 KA KB HH3
  generalize w2.heap.size = n0 at *
  have hka : ¬ pa.1 = 5 := by rw [HPa.out]; exact hk
  have hkd : (pa.1 != 5) = true := by simpa using hka
  unfold wPlus
  have HN : Hid (Did w B a (-22, s) (.returned (.int .i64 (-22))) w3) := ⟨rfl, Next.same H3.out T3.out⟩
  go_wp2_with fail
  go_ret
  exact HN.out
set_option maxHeartbeats 8000000 in
set_option maxRecDepth 100000 in
theorem unfit_then (B : Nat) (a : At) (s : St) (w : World) (H : RvIs w B a s.M s.h s.O) (hO : s.O.length < 4900) (hk : (topV s.O 0).1 ≠ 1) (hk2 : (topV s.O 0).1 ≠ 2) (s0 : ByteArray) (hs0 : s0.size ≤ 100000) (hW : (⟨(ups s0).toArray⟩ : ByteArray) = wThen) :
    Calls Try.prog 15 #[.pointer (some ⟨a.sb, 0, none⟩), .string s0] w (Did w B a ((-22, s))) := by
  have HW := Lib.hid hW
  have HGr := Lib.hid (fun w => great_any s0 w hs0)
  have hfew := H.few
  have hsm := H.small
  have hhe := H.here
  have HT0 := Lib.hid (top0 B a s.M s.h s.O w H)
  have HT1 := Lib.hid (fun w1 H1 => top1 B a s.M s.h s.O w1 H1)
  rw [HW.out] at HGr
  obtain ⟨pa, hpa⟩ : ∃ p, p = topV (s.O) 0 := ⟨_, rfl⟩
  obtain ⟨pb, hpb⟩ : ∃ p, p = topV (s.O) 1 := ⟨_, rfl⟩
  rw [← hpa] at HT0
  rw [← hpb] at HT1
  have HH := Lib.hid H
  have HPa := Lib.hid hpa
  have HPb := Lib.hid hpb
  clear hW H HW hpa hpb
  go_enter Try.func15, Try.ntmps15
  go_wp2_with fail
  refine HT0.out.mono ?_
  rintro e w1 ⟨rfl, b1⟩
  have H1 := Lib.hid (HH.out.below b1 (Nat.le_refl _))
  have B1 := Lib.hid b1
  clear b1
  go_wp2_with fail
  refine (HT1.out _ H1.out).mono ?_
  rintro e w2 ⟨rfl, b2⟩
  have B2 := Lib.hid (B1.out.trans (b2.mono B1.out.size))
  have H2 := H1.out.below b2 (Nat.le_refl _)
  have H3 := (H2.alloc (.cells #[.int .i64 pa.1, .int .i64 pa.2] 63)).alloc (.cells #[.int .i64 pb.1, .int .i64 pb.2] 63)
  have hal := ((Below.refl w2.heap.size w2).alloc (Nat.le_refl _) (.cells #[.int .i64 pa.1, .int .i64 pa.2] 63)).alloc (by simp) (.cells #[.int .i64 pb.1, .int .i64 pb.2] 63)
  have B3 := Lib.hid (B2.out.trans (hal.mono B2.out.size))
  have hKa := (Blk.new w2 63 #[.int .i64 pa.1, .int .i64 pa.2]).alloc (.cells #[.int .i64 pb.1, .int .i64 pb.2] 63)
  have hKb := Blk.new (w2.alloc (.cells #[.int .i64 pa.1, .int .i64 pa.2] 63)) 63 #[.int .i64 pb.1, .int .i64 pb.2]
  have hsz : (w2.alloc (.cells #[.int .i64 pa.1, .int .i64 pa.2] 63)).heap.size = w2.heap.size + 1 := by simp
  rw [hsz] at hKb
  have c1 := H3.c1
  have HH3 := Lib.hid H3
  have KA := Lib.hid hKa
  have KB := Lib.hid hKb
  clear H1 H2 H3 hal hKa hKb hsz b2
  go_wp2_with fail
  refine (HGr.out _).mono ?_
  rintro e w3 ⟨rfl, b3⟩
  have hba := KA.out.below b3 (by simp; omega)
  have hbb := KB.out.below b3 (by simp)
  have y0 := hba.cell 0
  have y1 := hba.cell 1
  have z0 := hbb.cell 0
  have z1 := hbb.cell 1
  have H3 := Lib.hid (HH3.out.below b3 (Nat.le_refl _))
  have T3 := Lib.hid (Touch.of_below (B3.out.trans (b3.mono B3.out.size)) a.blocks)
  have hlow : ∀ k, a.blocks k → k < w2.heap.size := fun k hk => Nat.lt_of_lt_of_le (HH.out.low hk).2 B2.out.size
  have HLow := Lib.hid hlow
  simp only [List.getElem?_toArray, List.getElem?_cons_zero, List.getElem?_cons_succ] at y0 y1 z0 z1
  clear hba hbb b3 hlow c1 HT0 HT1 KA KB HH3
  generalize w2.heap.size = n0 at *
  have hka : ¬ pa.1 = 1 := by rw [HPa.out]; exact hk
  have hkd : (pa.1 != 1) = true := by simpa using hka
  have hkc : ¬ pa.1 = 2 := by rw [HPa.out]; exact hk2
  have hkf : (pa.1 != 2) = true := by simpa using hkc
  unfold wThen
  have HN : Hid (Did w B a (-22, s) (.returned (.int .i64 (-22))) w3) := ⟨rfl, Next.same H3.out T3.out⟩
  go_wp2_with fail
  go_ret
  exact HN.out
set_option maxHeartbeats 8000000 in
set_option maxRecDepth 100000 in
theorem unfit_repeat (B : Nat) (a : At) (s : St) (w : World) (H : RvIs w B a s.M s.h s.O) (hO : s.O.length < 4900) (hk : (topV s.O 0).1 ≠ 4) (s0 : ByteArray) (hs0 : s0.size ≤ 100000) (hW : (⟨(ups s0).toArray⟩ : ByteArray) = wRepeat) :
    Calls Try.prog 15 #[.pointer (some ⟨a.sb, 0, none⟩), .string s0] w (Did w B a ((-22, s))) := by
  have HW := Lib.hid hW
  have HGr := Lib.hid (fun w => great_any s0 w hs0)
  have hfew := H.few
  have hsm := H.small
  have hhe := H.here
  have HT0 := Lib.hid (top0 B a s.M s.h s.O w H)
  have HT1 := Lib.hid (fun w1 H1 => top1 B a s.M s.h s.O w1 H1)
  rw [HW.out] at HGr
  obtain ⟨pa, hpa⟩ : ∃ p, p = topV (s.O) 0 := ⟨_, rfl⟩
  obtain ⟨pb, hpb⟩ : ∃ p, p = topV (s.O) 1 := ⟨_, rfl⟩
  rw [← hpa] at HT0
  rw [← hpb] at HT1
  have HH := Lib.hid H
  have HPa := Lib.hid hpa
  have HPb := Lib.hid hpb
  clear hW H HW hpa hpb
  go_enter Try.func15, Try.ntmps15
  go_wp2_with fail
  refine HT0.out.mono ?_
  rintro e w1 ⟨rfl, b1⟩
  have H1 := Lib.hid (HH.out.below b1 (Nat.le_refl _))
  have B1 := Lib.hid b1
  clear b1
  go_wp2_with fail
  refine (HT1.out _ H1.out).mono ?_
  rintro e w2 ⟨rfl, b2⟩
  have B2 := Lib.hid (B1.out.trans (b2.mono B1.out.size))
  have H2 := H1.out.below b2 (Nat.le_refl _)
  have H3 := (H2.alloc (.cells #[.int .i64 pa.1, .int .i64 pa.2] 63)).alloc (.cells #[.int .i64 pb.1, .int .i64 pb.2] 63)
  have hal := ((Below.refl w2.heap.size w2).alloc (Nat.le_refl _) (.cells #[.int .i64 pa.1, .int .i64 pa.2] 63)).alloc (by simp) (.cells #[.int .i64 pb.1, .int .i64 pb.2] 63)
  have B3 := Lib.hid (B2.out.trans (hal.mono B2.out.size))
  have hKa := (Blk.new w2 63 #[.int .i64 pa.1, .int .i64 pa.2]).alloc (.cells #[.int .i64 pb.1, .int .i64 pb.2] 63)
  have hKb := Blk.new (w2.alloc (.cells #[.int .i64 pa.1, .int .i64 pa.2] 63)) 63 #[.int .i64 pb.1, .int .i64 pb.2]
  have hsz : (w2.alloc (.cells #[.int .i64 pa.1, .int .i64 pa.2] 63)).heap.size = w2.heap.size + 1 := by simp
  rw [hsz] at hKb
  have c1 := H3.c1
  have HH3 := Lib.hid H3
  have KA := Lib.hid hKa
  have KB := Lib.hid hKb
  clear H1 H2 H3 hal hKa hKb hsz b2
  go_wp2_with fail
  refine (HGr.out _).mono ?_
  rintro e w3 ⟨rfl, b3⟩
  have hba := KA.out.below b3 (by simp; omega)
  have hbb := KB.out.below b3 (by simp)
  have y0 := hba.cell 0
  have y1 := hba.cell 1
  have z0 := hbb.cell 0
  have z1 := hbb.cell 1
  have H3 := Lib.hid (HH3.out.below b3 (Nat.le_refl _))
  have T3 := Lib.hid (Touch.of_below (B3.out.trans (b3.mono B3.out.size)) a.blocks)
  have hlow : ∀ k, a.blocks k → k < w2.heap.size := fun k hk => Nat.lt_of_lt_of_le (HH.out.low hk).2 B2.out.size
  have HLow := Lib.hid hlow
  simp only [List.getElem?_toArray, List.getElem?_cons_zero, List.getElem?_cons_succ] at y0 y1 z0 z1
  clear hba hbb b3 hlow c1 HT0 HT1 KA KB HH3
  generalize w2.heap.size = n0 at *
  have hka : ¬ pa.1 = 4 := by rw [HPa.out]; exact hk
  have hkd : (pa.1 != 4) = true := by simpa using hka
  unfold wRepeat
  have HN : Hid (Did w B a (-22, s) (.returned (.int .i64 (-22))) w3) := ⟨rfl, Next.same H3.out T3.out⟩
  go_wp2_with fail
  go_ret
  exact HN.out
set_option maxHeartbeats 8000000 in
set_option maxRecDepth 100000 in
theorem unfit_repeat2 (B : Nat) (a : At) (s : St) (w : World) (H : RvIs w B a s.M s.h s.O) (hO : s.O.length < 4900) (hk : (topV s.O 0).1 = 4) (hk2 : (topV s.O 1).1 ≠ 3) (s0 : ByteArray) (hs0 : s0.size ≤ 100000) (hW : (⟨(ups s0).toArray⟩ : ByteArray) = wRepeat) :
    Calls Try.prog 15 #[.pointer (some ⟨a.sb, 0, none⟩), .string s0] w (Did w B a ((-22, s))) := by
  have HW := Lib.hid hW
  have HGr := Lib.hid (fun w => great_any s0 w hs0)
  have hfew := H.few
  have hsm := H.small
  have hhe := H.here
  have HT0 := Lib.hid (top0 B a s.M s.h s.O w H)
  have HT1 := Lib.hid (fun w1 H1 => top1 B a s.M s.h s.O w1 H1)
  rw [HW.out] at HGr
  obtain ⟨pa, hpa⟩ : ∃ p, p = topV (s.O) 0 := ⟨_, rfl⟩
  obtain ⟨pb, hpb⟩ : ∃ p, p = topV (s.O) 1 := ⟨_, rfl⟩
  rw [← hpa] at HT0
  rw [← hpb] at HT1
  have HH := Lib.hid H
  have HPa := Lib.hid hpa
  have HPb := Lib.hid hpb
  clear hW H HW hpa hpb
  go_enter Try.func15, Try.ntmps15
  go_wp2_with fail
  refine HT0.out.mono ?_
  rintro e w1 ⟨rfl, b1⟩
  have H1 := Lib.hid (HH.out.below b1 (Nat.le_refl _))
  have B1 := Lib.hid b1
  clear b1
  go_wp2_with fail
  refine (HT1.out _ H1.out).mono ?_
  rintro e w2 ⟨rfl, b2⟩
  have B2 := Lib.hid (B1.out.trans (b2.mono B1.out.size))
  have H2 := H1.out.below b2 (Nat.le_refl _)
  have H3 := (H2.alloc (.cells #[.int .i64 pa.1, .int .i64 pa.2] 63)).alloc (.cells #[.int .i64 pb.1, .int .i64 pb.2] 63)
  have hal := ((Below.refl w2.heap.size w2).alloc (Nat.le_refl _) (.cells #[.int .i64 pa.1, .int .i64 pa.2] 63)).alloc (by simp) (.cells #[.int .i64 pb.1, .int .i64 pb.2] 63)
  have B3 := Lib.hid (B2.out.trans (hal.mono B2.out.size))
  have hKa := (Blk.new w2 63 #[.int .i64 pa.1, .int .i64 pa.2]).alloc (.cells #[.int .i64 pb.1, .int .i64 pb.2] 63)
  have hKb := Blk.new (w2.alloc (.cells #[.int .i64 pa.1, .int .i64 pa.2] 63)) 63 #[.int .i64 pb.1, .int .i64 pb.2]
  have hsz : (w2.alloc (.cells #[.int .i64 pa.1, .int .i64 pa.2] 63)).heap.size = w2.heap.size + 1 := by simp
  rw [hsz] at hKb
  have c1 := H3.c1
  have HH3 := Lib.hid H3
  have KA := Lib.hid hKa
  have KB := Lib.hid hKb
  clear H1 H2 H3 hal hKa hKb hsz b2
  go_wp2_with fail
  refine (HGr.out _).mono ?_
  rintro e w3 ⟨rfl, b3⟩
  have hba := KA.out.below b3 (by simp; omega)
  have hbb := KB.out.below b3 (by simp)
  have y0 := hba.cell 0
  have y1 := hba.cell 1
  have z0 := hbb.cell 0
  have z1 := hbb.cell 1
  have H3 := Lib.hid (HH3.out.below b3 (Nat.le_refl _))
  have T3 := Lib.hid (Touch.of_below (B3.out.trans (b3.mono B3.out.size)) a.blocks)
  have hlow : ∀ k, a.blocks k → k < w2.heap.size := fun k hk => Nat.lt_of_lt_of_le (HH.out.low hk).2 B2.out.size
  have HLow := Lib.hid hlow
  simp only [List.getElem?_toArray, List.getElem?_cons_zero, List.getElem?_cons_succ] at y0 y1 z0 z1
  clear hba hbb b3 hlow c1 HT0 HT1 KA KB HH3
  generalize w2.heap.size = n0 at *
  have hka : pa.1 = 4 := by rw [HPa.out]; exact hk
  rw [hka] at y0
  have hka2 : ¬ pb.1 = 3 := by rw [HPb.out]; exact hk2
  have hkd : (pb.1 != 3) = true := by simpa using hka2
  unfold wRepeat
  have HN : Hid (Did w B a (-22, s) (.returned (.int .i64 (-22))) w3) := ⟨rfl, Next.same H3.out T3.out⟩
  go_wp2_with fail
  go_ret
  exact HN.out
end Go.Proofs.Ytndjbjhgkggeiaa.Rv
