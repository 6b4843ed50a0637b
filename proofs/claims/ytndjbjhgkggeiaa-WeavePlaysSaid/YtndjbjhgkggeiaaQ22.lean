/-
  Lemmas on the way, for every input that they name: RvH.
-/
import Derived.Test.YtndjbjhgkggeiaaQ19
set_option linter.unusedVariables false
set_option linter.unusedSimpArgs false
set_option linter.deprecated false
namespace Go.Proofs.Ytndjbjhgkggeiaa.Rv
open Go.RowKit Go.Proofs.Ytndjbjhgkggeiaa.Wv
theorem push_gen {w w2 : World} {B : Nat} {a : At} {M : List Int} {h : Nat} {O0 O1 : List (Int × Int)} {k v : Int} {OA' : Option Addr} {ocap' : Nat} {o : Obj} (H : RvIs w B a M h O0)
    (ho : w2.ownsRow B 63 2 (.slice OA' (O1.length + 1) ocap') (O1.length + 1) (flat O1 ++ [.int .i64 k, .int .i64 v])) (hg : (w.alloc o).grownBy w2 (a.OA.map (·.block)))
    (hloc : OA'.map (·.block) = a.OA.map (·.block) ∨ OA'.map (·.block) = some (w.heap.size + 1))
    (hsb : w2.heap[a.sb]? = w.heap[a.sb]?) (hO : O1.length < 5000) :
    Next w B a M h (O1 ++ [(k, v)]) (w2.setCell ⟨a.sb, 2, none⟩ (.slice OA' (O1.length + 1) ocap')) := by
  have T1 : Touch w w2 (fun i => a.OA.map (·.block) = some i) :=
    (alloc_touch w o _).trans (Touch.of_grown (S := fun i => a.OA.map (·.block) = some i) hg (fun i hi => Or.inl hi)) (fun i hi => Or.inl hi)
  have T2 : Touch w2 (w2.setCell ⟨a.sb, 2, none⟩ (.slice OA' (O1.length + 1) ocap')) (fun i => i = a.sb) :=
    ⟨rfl, rfl, rfl, by simp [World.setCell], fun i _ hi => Below.heap_setCell w2 ⟨a.sb, 2, none⟩ _ i hi⟩
  have T : Touch w (w2.setCell ⟨a.sb, 2, none⟩ (.slice OA' (O1.length + 1) ocap')) (fun i => a.OA.map (·.block) = some i ∨ i = a.sb) :=
    (T1.mono (T := fun i => a.OA.map (·.block) = some i ∨ i = a.sb) (fun i hi => Or.inl (Or.inl hi))).trans T2 (fun i hi => Or.inl (Or.inr hi))
  have hnew : ∀ i, OA'.map (·.block) = some i → a.OA.map (·.block) = some i ∨ w.heap.size ≤ i := by
    intro i hi
    rcases hloc with h | h
    · exact Or.inl (h ▸ hi)
    · rw [h] at hi
      simp at hi
      exact Or.inr (by omega)
  have hne : ∀ i, OA'.map (·.block) = some i → i ≠ a.sb := by
    intro i hi e
    subst e
    rcases hnew a.sb hi with h | h
    · exact H.ne_opn h rfl
    · have := H.lt; omega
  refine ⟨⟨a.sb, a.MA, a.mcap, OA', ocap'⟩, rfl, { blk := ?_, base := H.base, mem := ?_, opn := ?_, here := H.here, small := H.small, few := by simp; omega }, ?_, ?_⟩
  · have hb := hsb.trans H.blk
    simp [World.setCell, Array.getElem?_modify, hb]
  · exact own_touch H.mem T (fun i hi => by
      rintro (h | h)
      · exact H.ne_both hi h
      · exact H.ne_mem hi h)
  · rw [flat_snoc]
    have := own_touch ho T2 (fun i hi => hne i hi)
    simpa using this
  · exact T.mono (fun i hi => Or.inl (by rcases hi with h | h; exact Or.inr (Or.inr h); exact Or.inl h))
  · rintro i (h | h | h)
    · exact Or.inl (Or.inl h)
    · exact Or.inl (Or.inr (Or.inl h))
    · rcases hnew i h with h1 | h1
      · exact Or.inl (Or.inr (Or.inr h1))
      · exact Or.inr h1
set_option maxHeartbeats 8000000 in
set_option maxRecDepth 100000 in
theorem form_else (B : Nat) (a : At) (s : St) (w : World) (H : RvIs w B a s.M s.h s.O) (hO : s.O.length < 4900) (q : Nat) (hk : topV s.O 0 = (1, (q : Int))) (hq : q < s.M.length) (s0 : ByteArray) (hs0 : s0.size ≤ 100000) (hW : (⟨(ups s0).toArray⟩ : ByteArray) = wElse) :
    Calls Try.prog 15 #[.pointer (some ⟨a.sb, 0, none⟩), .string s0] w (Did w B a (elseR s s.O.dropLast q)) := by
  obtain ⟨i0, hi, hz0, hz1, hz2⟩ := info_parts info63
  have HW := Lib.hid hW
  have HGr := Lib.hid (fun w => great_any s0 w hs0)
  have hfew := H.few
  have hsm := H.small
  have hhe := H.here
  have HT0 := Lib.hid (top0 B a s.M s.h s.O w H)
  have HT1 := Lib.hid (fun w1 H1 => top1 B a s.M s.h s.O w1 H1)
  rw [HW.out] at HGr
  obtain ⟨pa, hpa⟩ : ∃ p, p = topV (s.O) 0 := ⟨_, rfl⟩
  obtain ⟨pb, hpb⟩ : ∃ p, p = topV (s.O) 1 := ⟨_, rfl⟩
  rw [← hpa] at HT0
  rw [← hpb] at HT1
  have HH := Lib.hid H
  have HPa := Lib.hid hpa
  have HPb := Lib.hid hpb
  clear hW H HW hpa hpb
  go_enter Try.func15, Try.ntmps15
  go_wp2_with fail
  refine HT0.out.mono ?_
  rintro e w1 ⟨rfl, b1⟩
  have H1 := Lib.hid (HH.out.below b1 (Nat.le_refl _))
  have B1 := Lib.hid b1
  clear b1
  go_wp2_with fail
  refine (HT1.out _ H1.out).mono ?_
  rintro e w2 ⟨rfl, b2⟩
  have B2 := Lib.hid (B1.out.trans (b2.mono B1.out.size))
  have H2 := H1.out.below b2 (Nat.le_refl _)
  have H3 := (H2.alloc (.cells #[.int .i64 pa.1, .int .i64 pa.2] 63)).alloc (.cells #[.int .i64 pb.1, .int .i64 pb.2] 63)
  have hal := ((Below.refl w2.heap.size w2).alloc (Nat.le_refl _) (.cells #[.int .i64 pa.1, .int .i64 pa.2] 63)).alloc (by simp) (.cells #[.int .i64 pb.1, .int .i64 pb.2] 63)
  have B3 := Lib.hid (B2.out.trans (hal.mono B2.out.size))
  have hKa := (Blk.new w2 63 #[.int .i64 pa.1, .int .i64 pa.2]).alloc (.cells #[.int .i64 pb.1, .int .i64 pb.2] 63)
  have hKb := Blk.new (w2.alloc (.cells #[.int .i64 pa.1, .int .i64 pa.2] 63)) 63 #[.int .i64 pb.1, .int .i64 pb.2]
  have hsz : (w2.alloc (.cells #[.int .i64 pa.1, .int .i64 pa.2] 63)).heap.size = w2.heap.size + 1 := by simp
  rw [hsz] at hKb
  have c1 := H3.c1
  have HH3 := Lib.hid H3
  have KA := Lib.hid hKa
  have KB := Lib.hid hKb
  clear H1 H2 H3 hal hKa hKb hsz b2
  go_wp2_with fail
  refine (HGr.out _).mono ?_
  rintro e w3 ⟨rfl, b3⟩
  have hba := KA.out.below b3 (by simp; omega)
  have hbb := KB.out.below b3 (by simp)
  have y0 := hba.cell 0
  have y1 := hba.cell 1
  have z0 := hbb.cell 0
  have z1 := hbb.cell 1
  have H3 := Lib.hid (HH3.out.below b3 (Nat.le_refl _))
  have T3 := Lib.hid (Touch.of_below (B3.out.trans (b3.mono B3.out.size)) a.blocks)
  have hlow : ∀ k, a.blocks k → k < w2.heap.size := fun k hk => Nat.lt_of_lt_of_le (HH.out.low hk).2 B2.out.size
  have HLow := Lib.hid hlow
  simp only [List.getElem?_toArray, List.getElem?_cons_zero, List.getElem?_cons_succ] at y0 y1 z0 z1
  clear hba hbb b3 hlow c1 HT0 HT1 KA KB HH3
  generalize w2.heap.size = n0 at *
  obtain rfl : pa = (1, (q : Int)) := HPa.out.trans hk
  dsimp only at y0 y1
  have hl := lay2 B a s w3 H3.out 3 0 2
  unfold wElse
  by_cases hr : s.h + 2 ≤ s.M.length
  · have hres : elseR s s.O.dropLast q = (0, ⟨(lay s.M s.h [3, 0]).set q ((s.h : Int) + 2), s.h + 2, s.O.dropLast ++ [(2, (s.h : Int) + 1)]⟩) := by unfold elseR; rw [if_pos hr]
    have Hres := Lib.hid hres
    clear hres
    rw [layR_yes (s := s) (by simpa using hr)] at hl
    have HL := Lib.hid hl
    clear hl
    go_wp2_with fail
    refine HL.out.mono ?_
    rintro e w4 ⟨rfl, H4, T4⟩
    simp only [List.length_cons, List.length_nil, Nat.zero_add] at H4
    have hlen := lay_length s.M s.h [3, 0] (by simpa using hr)
    have hqq : q < (lay s.M s.h [3, 0]).length := by rw [hlen]; exact hq
    have y1' := touch_cell T4 y1 (fun hk => Nat.lt_irrefl _ (HLow.out _ hk))
    clear y0 y1 z0 z1
    obtain ⟨g, hA⟩ := mem_addr H4 (by have := hqq; omega)
    have c0 := H4.c0
    rw [hA] at c0
    have c1 := H4.c1
    have mc := mem_cell H4 hA q hqq
    have m1 := mc.1
    have m2 := mc.2
    have hq2 : (q : Int) < ((lay s.M s.h [3, 0]).length : Int) := by have := hqq; omega
    have hq3 : (0 : Int) ≤ (q : Int) := by omega
    have HHS := Lib.hid H4
    have HTS := Lib.hid (T3.out.trans T4 (fun _ h => Or.inl h))
    clear mc
    go_upto_region 14 with fail
    go_cut [] (fun wc => RvIs wc B a ((lay s.M s.h [3, 0]).set q ((s.h : Int) + 2)) (s.h + 2) s.O ∧ Touch w wc a.blocks)
    case first =>
      go_region_with (fail)
      all_goals
        go_wp2_with fail
        go_meet
        have SD := set_done HHS.out hA q ((s.h : Int) + 2)
        exact ⟨SD.1.drewN 1, (HTS.out.trans SD.2 (fun _ h => Or.inl h)).drewN 1⟩
    case rest =>
      obtain ⟨H6, T6⟩ := hcut
      clear c0 c1 m1 m2 HHS HTS
      obtain ⟨O1, p, hO1, hp1⟩ := topV_some s.O (by rw [hk]; exact (by decide : (1 : Int) ≠ 0))
      have H5 := H6
      rw [hO1] at H5
      have hdl : s.O.dropLast = O1 := by rw [hO1]; simp
      have hlen1 : (O1 ++ [p]).length = O1.length + 1 := by simp
      have c2 := H5.c2
      have f2 := H5.f2
      obtain ⟨g9, hA9⟩ := opn_addr H5 (by omega)
      have hcap : O1.length + 1 ≤ a.ocap := by
        rcases H5.opn.2 with ⟨h0, _⟩ | ⟨_, cap', _, hv, _, _, hnc, _⟩
        · rw [hA9] at h0; cases h0
        · injection hv with _ _ h2; rw [hlen1] at hnc; omega
      have hlo : O1.length < 4990 := by have : s.O.length = O1.length + 1 := by rw [hO1, hlen1]
                                        omega
      have hop : wc.ownsRow B 63 2 (.slice (some ⟨g9, 0, none⟩) O1.length a.ocap) O1.length (flat O1) := by
        have ho := H5.opn
        rw [flat_snoc, hlen1, hA9] at ho
        exact ownsRow_pop (flat_length O1) ho
      rw [hlen1] at c2
      rw [hA9] at c2
      have e1 : IntKind.i64.wrap (O1.length : Int) = (O1.length : Int) := IntWalk.i64_in _ (by omega)
      have i2 : (0 : Int) ≤ (O1.length : Int) := by omega
      have i3 : (O1.length : Int) ≤ (a.ocap : Int) := by omega
      have hopa := own_touch (own_touch hop ((Touch.refl wc (fun _ => False)).drewN 1) (fun _ _ h => h)) (alloc_touch (wc.drewN 1) (.cells #[.int .i64 2, .int .i64 ((s.h : Int) + 1)] 63) (fun _ => False)) (fun _ _ h => h)
      have c2a : (wc.alloc (.cells #[.int .i64 2, .int .i64 ((s.h : Int) + 1)] 63)).cell? ⟨a.sb, 2, none⟩ = _ := (touch_cell (alloc_touch wc (.cells #[.int .i64 2, .int .i64 ((s.h : Int) + 1)] 63) (fun _ => False)) c2 (fun h => h))
      have hs5 : s.h + 2 ≤ 5000 := by omega
      have e5 : IntKind.i64.wrap ((s.h : Int) + 1) = (s.h : Int) + 1 := IntWalk.i64_in _ (by omega)
      go_upto_region 15 with fail
      go_region_law (first
        | (refine step_append_any _ rfl _ _ 47 rfl B 63 i0 (.agg #[.int .i64 0, .int .i64 0]) 2 16 Try.underlying47 hi hz0 hz1 hz2 rfl (by decide) (.slice (some ⟨g9, 0, none⟩) O1.length a.ocap) O1.length (flat O1) rfl hopa (wc.heap.size + 1) (some ⟨wc.heap.size, 0, none⟩) 1 1 [.int .i64 2, .int .i64 ((s.h : Int) + 1)] rfl ⟨rfl, fun _ => ⟨_, rfl, Nat.lt_succ_self _, ?_⟩⟩ ?_ ?_ ?_ ?_ ?_
           · intro j u hj; rw [Go.WideShapes.add_plain]; show (wc.alloc _).cell? _ = _; rw [World.cell?, heap_alloc_new]; simpa using hj
           · intro u hu; simp at hu; rcases hu with rfl | rfl <;> rfl
           · unfold maxLen; omega
           · omega
           · have := H5.lt; have := H5.base; simp; omega
           intro v' w5 hown2 hg2 hloc
           obtain ⟨OA', ocap', rfl⟩ := own_slice hown2
           have hsb : w5.heap[a.sb]? = wc.heap[a.sb]? := by
             rw [hg2.block a.sb (by have := H5.lt; simp; omega) (fun e => by
               have h1 : a.OA.map (·.block) = some a.sb := by rw [hA9]; simpa [Value.ownBlock] using e.symm
               exact H5.ne_opn h1 rfl)]
             exact Below.heap_alloc wc _ a.sb H5.lt
           have d2 : w5.cell? ⟨a.sb, 2, none⟩ = _ := (World.cell?_of_block (w := wc) (a := ⟨a.sb, 2, none⟩) hsb).trans c2
           have g2 : w5.frozen? ⟨a.sb, 2, none⟩ = false := (World.frozen?_of_block (w := wc) (a := ⟨a.sb, 2, none⟩) hsb).trans f2))
      all_goals
        have hg3 : (wc.alloc (.cells #[.int .i64 2, .int .i64 ((s.h : Int) + 1)] 63)).grownBy w5 (a.OA.map (·.block)) := by rw [hA9]; exact ⟨hg2.os, hg2.tape, hg2.output, hg2.size, hg2.block⟩
        have N := Lib.hid (push_gen (k := 2) (v := ((s.h : Int) + 1)) (O1 := O1) H5 hown2 hg3 (by
          have hob : ∀ (A : Option Addr) (n c : Nat), (Value.slice A n c).ownBlock = A.map (·.block) := by intro A n c; cases A <;> rfl
          rw [hob, hob] at hloc
          rw [hA9]
          rcases hloc with e | e
          · exact .inl e
          · exact .inr (by rw [e]; simp)) hsb (by omega))
        have HN : Hid (Did w B a (elseR s s.O.dropLast q) (.returned (.int .i64 0)) (w5.setCell ⟨a.sb, 2, none⟩ (.slice OA' (O1.length + 1) ocap'))) := by
          show Did _ _ _ _ _ _
          rw [Hres.out, hdl]
          exact ⟨rfl, Next.trans rfl T6 (fun _ h => Or.inl h) N.out⟩
        clear hown2 hg2 hg3 hloc hsb c2 f2
        go_wp2_with fail
        go_ret
        exact HN.out
  · have hres : elseR s s.O.dropLast q = (-8, s) := by unfold elseR; rw [if_neg hr]
    have Hres := Lib.hid hres
    clear hres
    rw [layR_no (s := s) (by simpa using hr)] at hl
    have HL := Lib.hid hl
    clear hl
    go_wp2_with fail
    refine HL.out.mono ?_
    rintro e w4 ⟨rfl, H4, T4⟩
    have HN : Hid (Did w B a (elseR s s.O.dropLast q) (.returned (.int .i64 (-8))) w4) := by
      show Did _ _ _ _ _ _
      rw [Hres.out]
      exact ⟨rfl, Next.same H4 (T3.out.trans T4 (fun _ h => Or.inl h))⟩
    clear H4 T4
    go_wp2_with fail
    go_ret
    exact HN.out
end Go.Proofs.Ytndjbjhgkggeiaa.Rv
