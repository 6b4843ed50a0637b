/-
  Lemmas on the way, for every input that they name: RvK.
-/
import Derived.Test.YtndjbjhgkggeiaaQ19
set_option linter.unusedVariables false
set_option linter.unusedSimpArgs false
set_option linter.deprecated false
namespace Go.Proofs.Ytndjbjhgkggeiaa.Rv
open Go.RowKit Go.Proofs.Ytndjbjhgkggeiaa.Wv
set_option maxHeartbeats 8000000 in
set_option maxRecDepth 100000 in
theorem form_loop (B : Nat) (a : At) (s : St) (w : World) (H : RvIs w B a s.M s.h s.O) (hO : s.O.length < 4900) (hk : (topV s.O 0).1 = 5) (s0 : ByteArray) (hs0 : s0.size ≤ 100000) (hW : (⟨(ups s0).toArray⟩ : ByteArray) = wLoop) :
    Calls Try.prog 15 #[.pointer (some ⟨a.sb, 0, none⟩), .string s0] w (Did w B a (backwardR s s.O.dropLast (last s.O) 37)) := by
  have HW := Lib.hid hW
  have HGr := Lib.hid (fun w => great_any s0 w hs0)
  have hfew := H.few
  have hsm := H.small
  have hhe := H.here
  have HT0 := Lib.hid (top0 B a s.M s.h s.O w H)
  have HT1 := Lib.hid (fun w1 H1 => top1 B a s.M s.h s.O w1 H1)
  rw [HW.out] at HGr
  obtain ⟨pa, hpa⟩ : ∃ p, p = topV (s.O) 0 := ⟨_, rfl⟩
  obtain ⟨pb, hpb⟩ : ∃ p, p = topV (s.O) 1 := ⟨_, rfl⟩
  rw [← hpa] at HT0
  rw [← hpb] at HT1
  have HH := Lib.hid H
  have HPa := Lib.hid hpa
  have HPb := Lib.hid hpb
  clear hW H HW hpa hpb
  go_enter Try.func15, Try.ntmps15
  go_wp2_with fail
  refine HT0.out.mono ?_
  rintro e w1 ⟨rfl, b1⟩
  have H1 := Lib.hid (HH.out.below b1 (Nat.le_refl _))
  have B1 := Lib.hid b1
  clear b1
  go_wp2_with fail
  refine (HT1.out _ H1.out).mono ?_
  rintro e w2 ⟨rfl, b2⟩
  have B2 := Lib.hid (B1.out.trans (b2.mono B1.out.size))
  have H2 := H1.out.below b2 (Nat.le_refl _)
  have H3 := (H2.alloc (.cells #[.int .i64 pa.1, .int .i64 pa.2] 63)).alloc (.cells #[.int .i64 pb.1, .int .i64 pb.2] 63)
  have hal := ((Below.refl w2.heap.size w2).alloc (Nat.le_refl _) (.cells #[.int .i64 pa.1, .int .i64 pa.2] 63)).alloc (by simp) (.cells #[.int .i64 pb.1, .int .i64 pb.2] 63)
  have B3 := Lib.hid (B2.out.trans (hal.mono B2.out.size))
  have hKa := (Blk.new w2 63 #[.int .i64 pa.1, .int .i64 pa.2]).alloc (.cells #[.int .i64 pb.1, .int .i64 pb.2] 63)
  have hKb := Blk.new (w2.alloc (.cells #[.int .i64 pa.1, .int .i64 pa.2] 63)) 63 #[.int .i64 pb.1, .int .i64 pb.2]
  have hsz : (w2.alloc (.cells #[.int .i64 pa.1, .int .i64 pa.2] 63)).heap.size = w2.heap.size + 1 := by simp
  rw [hsz] at hKb
  have c1 := H3.c1
  have HH3 := Lib.hid H3
  have KA := Lib.hid hKa
  have KB := Lib.hid hKb
  clear H1 H2 H3 hal hKa hKb hsz b2
  go_wp2_with fail
  refine (HGr.out _).mono ?_
  rintro e w3 ⟨rfl, b3⟩
  have hba := KA.out.below b3 (by simp; omega)
  have hbb := KB.out.below b3 (by simp)
  have y0 := hba.cell 0
  have y1 := hba.cell 1
  have z0 := hbb.cell 0
  have z1 := hbb.cell 1
  have H3 := Lib.hid (HH3.out.below b3 (Nat.le_refl _))
  have T3 := Lib.hid (Touch.of_below (B3.out.trans (b3.mono B3.out.size)) a.blocks)
  have hlow : ∀ k, a.blocks k → k < w2.heap.size := fun k hk => Nat.lt_of_lt_of_le (HH.out.low hk).2 B2.out.size
  have HLow := Lib.hid hlow
  simp only [List.getElem?_toArray, List.getElem?_cons_zero, List.getElem?_cons_succ] at y0 y1 z0 z1
  clear hba hbb b3 hlow c1 HT0 HT1 KA KB HH3
  generalize w2.heap.size = n0 at *
  have hka : pa.1 = 5 := by rw [HPa.out]; exact hk
  rw [hka] at y0
  unfold wLoop
  unfold wLoop at HGr
  have hn0 : n0 < w3.heap.size := World.block_lt_of_cell? w3 ⟨n0, 0, none⟩ y0
  have Hn0 := Lib.hid hn0
  clear hn0
  go_wp2_with fail
  refine (HGr.out _).mono ?_
  rintro e w3b ⟨rfl, b4⟩
  have y1b := (b4.cell (p := ⟨n0, 1, none⟩) Hn0.out).trans y1
  have H3b := Lib.hid (H3.out.below b4 (Nat.le_refl _))
  have T3b := Lib.hid (T3.out.trans (Touch.of_below b4 (fun _ => False)) (fun _ h => h.elim))
  clear b4 y0 y1 z0 z1
  have hlast : (last s.O).2 = pa.2 := by
    obtain ⟨O1, p, hO1, hp1⟩ := topV_some s.O (by rw [← HPa.out, hka]; decide)
    rw [HPa.out, hp1, hO1, last_snoc]
  have hl := lay2 B a s w3b H3b.out 37 pa.2 2
  by_cases hr : s.h + 2 ≤ s.M.length
  · have hres : backwardR s s.O.dropLast (last s.O) 37 = (0, ⟨lay s.M s.h [37, pa.2], s.h + 2, s.O.dropLast⟩) := by unfold backwardR; rw [if_pos hr, hlast]
    have Hres := Lib.hid hres
    clear hres hlast
    rw [layR_yes (s := s) (by simpa using hr)] at hl
    have HL := Lib.hid hl
    clear hl
    go_wp2_with fail
    refine HL.out.mono ?_
    rintro e w4 ⟨rfl, H4, T4⟩
    simp only [List.length_cons, List.length_nil, Nat.zero_add] at H4
    obtain ⟨O1, p, hO1, hp1⟩ := topV_some s.O (by rw [← HPa.out]; rw [hka]; decide)
    have H5 := H4
    rw [hO1] at H5
    have PD := pop_done H5
    have hdl : s.O.dropLast = O1 := by rw [hO1]; simp
    have HN : Hid (Did w B a (backwardR s s.O.dropLast (last s.O) 37) (.returned (.int .i64 0)) (w4.setCell ⟨a.sb, 2, none⟩ (.slice a.OA O1.length a.ocap))) := by
      show Did _ _ _ _ _ _
      rw [Hres.out, hdl]
      exact ⟨rfl, Next.same PD.1 ((T3b.out.trans T4 (fun _ h => Or.inl h)).trans PD.2 (fun _ h => Or.inl h))⟩
    have HNd : Hid (Did w B a (backwardR s s.O.dropLast (last s.O) 37) (.returned (.int .i64 0)) ((w4.setCell ⟨a.sb, 2, none⟩ (.slice a.OA O1.length a.ocap)).drewN 1)) := by
      show Did _ _ _ _ _ _
      rw [Hres.out, hdl]
      exact ⟨rfl, Next.same (PD.1.drewN 1) (((T3b.out.trans T4 (fun _ h => Or.inl h)).trans PD.2 (fun _ h => Or.inl h)).drewN 1)⟩
    have c2 := H5.c2
    have f2 := H5.f2
    have hlen : (O1 ++ [p]).length = O1.length + 1 := by simp
    rw [hlen] at c2
    obtain ⟨g9, hA9⟩ := opn_addr H5 (by omega)
    have hcap : O1.length + 1 ≤ a.ocap := by
      rcases H5.opn.2 with ⟨h0, _⟩ | ⟨_, cap', _, hv, _, _, hnc, _⟩
      · rw [hA9] at h0; cases h0
      · injection hv with _ _ h2; rw [hlen] at hnc; omega
    have hlo : O1.length ≤ 5000 := by have := H5.few; rw [hlen] at this; omega
    rw [hA9] at c2 HN HNd
    have e1 : IntKind.i64.wrap (O1.length : Int) = (O1.length : Int) := IntWalk.i64_in _ (by omega)
    have i2 : (0 : Int) ≤ (O1.length : Int) := by omega
    have i3 : (O1.length : Int) ≤ (a.ocap : Int) := by omega
    clear H5 PD hdl
    go_upto_region 59 with fail
    go_region_with (fail)
    all_goals
      go_wp2_with fail
      go_ret
      first | exact HN.out | exact HNd.out
  · have hres : backwardR s s.O.dropLast (last s.O) 37 = (-8, s) := by unfold backwardR; rw [if_neg hr]
    have Hres := Lib.hid hres
    clear hres hlast
    rw [layR_no (s := s) (by simpa using hr)] at hl
    have HL := Lib.hid hl
    clear hl
    go_wp2_with fail
    refine HL.out.mono ?_
    rintro e w4 ⟨rfl, H4, T4⟩
    have HN : Hid (Did w B a (backwardR s s.O.dropLast (last s.O) 37) (.returned (.int .i64 (-8))) w4) := by
      show Did _ _ _ _ _ _
      rw [Hres.out]
      exact ⟨rfl, Next.same H4 (T3b.out.trans T4 (fun _ h => Or.inl h))⟩
    clear H4 T4
    go_wp2_with fail
    go_ret
    exact HN.out
set_option maxHeartbeats 8000000 in
set_option maxRecDepth 100000 in
theorem form_plus (B : Nat) (a : At) (s : St) (w : World) (H : RvIs w B a s.M s.h s.O) (hO : s.O.length < 4900) (hk : (topV s.O 0).1 = 5) (s0 : ByteArray) (hs0 : s0.size ≤ 100000) (hW : (⟨(ups s0).toArray⟩ : ByteArray) = wPlus) :
    Calls Try.prog 15 #[.pointer (some ⟨a.sb, 0, none⟩), .string s0] w (Did w B a (backwardR s s.O.dropLast (last s.O) 38)) := by
  have HW := Lib.hid hW
  have HGr := Lib.hid (fun w => great_any s0 w hs0)
  have hfew := H.few
  have hsm := H.small
  have hhe := H.here
  have HT0 := Lib.hid (top0 B a s.M s.h s.O w H)
  have HT1 := Lib.hid (fun w1 H1 => top1 B a s.M s.h s.O w1 H1)
  rw [HW.out] at HGr
  obtain ⟨pa, hpa⟩ : ∃ p, p = topV (s.O) 0 := ⟨_, rfl⟩
  obtain ⟨pb, hpb⟩ : ∃ p, p = topV (s.O) 1 := ⟨_, rfl⟩
  rw [← hpa] at HT0
  rw [← hpb] at HT1
  have HH := Lib.hid H
  have HPa := Lib.hid hpa
  have HPb := Lib.hid hpb
  clear hW H HW hpa hpb
  go_enter Try.func15, Try.ntmps15
  go_wp2_with fail
  refine HT0.out.mono ?_
  rintro e w1 ⟨rfl, b1⟩
  have H1 := Lib.hid (HH.out.below b1 (Nat.le_refl _))
  have B1 := Lib.hid b1
  clear b1
  go_wp2_with fail
  refine (HT1.out _ H1.out).mono ?_
  rintro e w2 ⟨rfl, b2⟩
  have B2 := Lib.hid (B1.out.trans (b2.mono B1.out.size))
  have H2 := H1.out.below b2 (Nat.le_refl _)
  have H3 := (H2.alloc (.cells #[.int .i64 pa.1, .int .i64 pa.2] 63)).alloc (.cells #[.int .i64 pb.1, .int .i64 pb.2] 63)
  have hal := ((Below.refl w2.heap.size w2).alloc (Nat.le_refl _) (.cells #[.int .i64 pa.1, .int .i64 pa.2] 63)).alloc (by simp) (.cells #[.int .i64 pb.1, .int .i64 pb.2] 63)
  have B3 := Lib.hid (B2.out.trans (hal.mono B2.out.size))
  have hKa := (Blk.new w2 63 #[.int .i64 pa.1, .int .i64 pa.2]).alloc (.cells #[.int .i64 pb.1, .int .i64 pb.2] 63)
  have hKb := Blk.new (w2.alloc (.cells #[.int .i64 pa.1, .int .i64 pa.2] 63)) 63 #[.int .i64 pb.1, .int .i64 pb.2]
  have hsz : (w2.alloc (.cells #[.int .i64 pa.1, .int .i64 pa.2] 63)).heap.size = w2.heap.size + 1 := by simp
  rw [hsz] at hKb
  have c1 := H3.c1
  have HH3 := Lib.hid H3
  have KA := Lib.hid hKa
  have KB := Lib.hid hKb
  clear H1 H2 H3 hal hKa hKb hsz b2
  go_wp2_with fail
  refine (HGr.out _).mono ?_
  rintro e w3 ⟨rfl, b3⟩
  have hba := KA.out.below b3 (by simp; omega)
  have hbb := KB.out.below b3 (by simp)
  have y0 := hba.cell 0
  have y1 := hba.cell 1
  have z0 := hbb.cell 0
  have z1 := hbb.cell 1
  have H3 := Lib.hid (HH3.out.below b3 (Nat.le_refl _))
  have T3 := Lib.hid (Touch.of_below (B3.out.trans (b3.mono B3.out.size)) a.blocks)
  have hlow : ∀ k, a.blocks k → k < w2.heap.size := fun k hk => Nat.lt_of_lt_of_le (HH.out.low hk).2 B2.out.size
  have HLow := Lib.hid hlow
  simp only [List.getElem?_toArray, List.getElem?_cons_zero, List.getElem?_cons_succ] at y0 y1 z0 z1
  clear hba hbb b3 hlow c1 HT0 HT1 KA KB HH3
  generalize w2.heap.size = n0 at *
  have hka : pa.1 = 5 := by rw [HPa.out]; exact hk
  rw [hka] at y0
  unfold wPlus
  unfold wPlus at HGr
  have hn0 : n0 < w3.heap.size := World.block_lt_of_cell? w3 ⟨n0, 0, none⟩ y0
  have Hn0 := Lib.hid hn0
  clear hn0
  go_wp2_with fail
  refine (HGr.out _).mono ?_
  rintro e w3b ⟨rfl, b4⟩
  have y1b := (b4.cell (p := ⟨n0, 1, none⟩) Hn0.out).trans y1
  have H3b := Lib.hid (H3.out.below b4 (Nat.le_refl _))
  have T3b := Lib.hid (T3.out.trans (Touch.of_below b4 (fun _ => False)) (fun _ h => h.elim))
  clear b4 y0 y1 z0 z1
  have hlast : (last s.O).2 = pa.2 := by
    obtain ⟨O1, p, hO1, hp1⟩ := topV_some s.O (by rw [← HPa.out, hka]; decide)
    rw [HPa.out, hp1, hO1, last_snoc]
  have hl := lay2 B a s w3b H3b.out 38 pa.2 2
  by_cases hr : s.h + 2 ≤ s.M.length
  · have hres : backwardR s s.O.dropLast (last s.O) 38 = (0, ⟨lay s.M s.h [38, pa.2], s.h + 2, s.O.dropLast⟩) := by unfold backwardR; rw [if_pos hr, hlast]
    have Hres := Lib.hid hres
    clear hres hlast
    rw [layR_yes (s := s) (by simpa using hr)] at hl
    have HL := Lib.hid hl
    clear hl
    go_wp2_with fail
    refine HL.out.mono ?_
    rintro e w4 ⟨rfl, H4, T4⟩
    simp only [List.length_cons, List.length_nil, Nat.zero_add] at H4
    obtain ⟨O1, p, hO1, hp1⟩ := topV_some s.O (by rw [← HPa.out]; rw [hka]; decide)
    have H5 := H4
    rw [hO1] at H5
    have PD := pop_done H5
    have hdl : s.O.dropLast = O1 := by rw [hO1]; simp
    have HN : Hid (Did w B a (backwardR s s.O.dropLast (last s.O) 38) (.returned (.int .i64 0)) (w4.setCell ⟨a.sb, 2, none⟩ (.slice a.OA O1.length a.ocap))) := by
      show Did _ _ _ _ _ _
      rw [Hres.out, hdl]
      exact ⟨rfl, Next.same PD.1 ((T3b.out.trans T4 (fun _ h => Or.inl h)).trans PD.2 (fun _ h => Or.inl h))⟩
    have HNd : Hid (Did w B a (backwardR s s.O.dropLast (last s.O) 38) (.returned (.int .i64 0)) ((w4.setCell ⟨a.sb, 2, none⟩ (.slice a.OA O1.length a.ocap)).drewN 1)) := by
      show Did _ _ _ _ _ _
      rw [Hres.out, hdl]
      exact ⟨rfl, Next.same (PD.1.drewN 1) (((T3b.out.trans T4 (fun _ h => Or.inl h)).trans PD.2 (fun _ h => Or.inl h)).drewN 1)⟩
    have c2 := H5.c2
    have f2 := H5.f2
    have hlen : (O1 ++ [p]).length = O1.length + 1 := by simp
    rw [hlen] at c2
    obtain ⟨g9, hA9⟩ := opn_addr H5 (by omega)
    have hcap : O1.length + 1 ≤ a.ocap := by
      rcases H5.opn.2 with ⟨h0, _⟩ | ⟨_, cap', _, hv, _, _, hnc, _⟩
      · rw [hA9] at h0; cases h0
      · injection hv with _ _ h2; rw [hlen] at hnc; omega
    have hlo : O1.length ≤ 5000 := by have := H5.few; rw [hlen] at this; omega
    rw [hA9] at c2 HN HNd
    have e1 : IntKind.i64.wrap (O1.length : Int) = (O1.length : Int) := IntWalk.i64_in _ (by omega)
    have i2 : (0 : Int) ≤ (O1.length : Int) := by omega
    have i3 : (O1.length : Int) ≤ (a.ocap : Int) := by omega
    clear H5 PD hdl
    go_upto_region 59 with fail
    go_region_with (fail)
    all_goals
      go_wp2_with fail
      go_ret
      first | exact HN.out | exact HNd.out
  · have hres : backwardR s s.O.dropLast (last s.O) 38 = (-8, s) := by unfold backwardR; rw [if_neg hr]
    have Hres := Lib.hid hres
    clear hres hlast
    rw [layR_no (s := s) (by simpa using hr)] at hl
    have HL := Lib.hid hl
    clear hl
    go_wp2_with fail
    refine HL.out.mono ?_
    rintro e w4 ⟨rfl, H4, T4⟩
    have HN : Hid (Did w B a (backwardR s s.O.dropLast (last s.O) 38) (.returned (.int .i64 (-8))) w4) := by
      show Did _ _ _ _ _ _
      rw [Hres.out]
      exact ⟨rfl, Next.same H4 (T3b.out.trans T4 (fun _ h => Or.inl h))⟩
    clear H4 T4
    go_wp2_with fail
    go_ret
    exact HN.out
end Go.Proofs.Ytndjbjhgkggeiaa.Rv
