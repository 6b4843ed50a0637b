/-
  Lemmas on the way, for every input that they name: RvO.
-/
import Derived.Test.YtndjbjhgkggeiaaQ28
import Derived.Test.YtndjbjhgkggeiaaQ29
set_option linter.unusedVariables false
set_option linter.unusedSimpArgs false
set_option linter.deprecated false
namespace Go.Proofs.Ytndjbjhgkggeiaa.Rv
open Go.RowKit Go.Proofs.Ytndjbjhgkggeiaa.Wv
set_option maxHeartbeats 4000000 in
set_option maxRecDepth 100000 in
theorem plays_bad (here : Int) (A Al : Option Addr) (n cap len lcap : Nat) (w : World) (h : 300 < n ∨ 80 < len) :
    Calls Try.prog 3 #[.slice A n cap, .int .i64 here, .slice Al len lcap] w fun e w' => e = .returned (.bool true) ∧ Below w.heap.size w w' := by
  by_cases h1 : 300 < n
  · have h2 : decide (300 < n) = true := by simpa using h1
    have h3 : (300 : Int) < (n : Int) := by omega
    go_enter Try.func3, Try.ntmps3
    go_wp2_with fail
    refine (alive_any _).mono ?_
    rintro e w1 ⟨rfl, hb1⟩
    go_wp2_with fail
    go_ret
    exact ⟨rfl, hb1⟩
  · have h2 : decide (300 < n) = false := by simpa using h1
    have h3 : ¬ (300 : Int) < (n : Int) := by omega
    have h4 : decide (80 < len) = true := by simp; omega
    have h5 : (80 : Int) < (len : Int) := by omega
    clear h
    go_enter Try.func3, Try.ntmps3
    go_wp2_with fail
    refine (alive_any _).mono ?_
    rintro e w1 ⟨rfl, hb1⟩
    go_wp2_with fail
    go_ret
    exact ⟨rfl, hb1⟩
set_option maxHeartbeats 16000000 in
set_option maxRecDepth 100000 in
theorem plays_walk (A : Option Addr) (cap : Nat) (mem : List Int) (here : Int) (Al : Option Addr) (len lcap : Nat) (f : Nat → OpV) (w : World) (hm : Reads w w.heap.size 1 A mem.length (ints mem)) (hops : OpsAt w Al len f) (hn : mem.length ≤ 300) (hl : len ≤ 80) :
    Calls Try.prog 3 #[.slice A mem.length cap, .int .i64 here, .slice Al len lcap] w fun e w' => e = .returned (.bool true) ∧ Below w.heap.size w w' := by
  obtain ⟨h0, hh0⟩ : ∃ h0 : Nat, (h0 : Int) = min (max here 0) mem.length := ⟨(min (max here 0) mem.length).toNat, by omega⟩
  have HM := Lib.hid hm
  have HOp := Lib.hid hops
  have HH0 := Lib.hid hh0
  have h2 : decide (300 < mem.length) = false := by simp; omega
  have h3 : ¬ (300 : Int) < (mem.length : Int) := by omega
  have h4 : decide (80 < len) = false := by simp; omega
  have h5 : ¬ (80 : Int) < (len : Int) := by omega
  clear hm hops hh0
  go_enter Try.func3, Try.ntmps3
  go_wp2_with fail
  refine (alive_any _).mono ?_
  rintro e w1 ⟨rfl, hb1⟩
  have HB1 := Lib.hid hb1
  have HL := Lib.hid (lent_any A cap mem w1 (reads_below HM.out hb1) hn)
  clear hb1
  go_wp2_with fail
  refine HL.out.mono ?_
  rintro e w2 ⟨Am, cm, rfl, ho2, hb2⟩
  have HB2 := Lib.hid hb2
  have HO2 := Lib.hid ho2
  have HB12 := Lib.hid (HB1.out.trans (hb2.mono HB1.out.size))
  have HN := Lib.hid (new_any w1.heap.size Am cm mem here w2 (lent_reads ho2).1 (by omega) h0 HH0.out)
  clear ho2 hb2 HL
  go_wp2_with fail
  refine HN.out.mono ?_
  rintro e w3 ⟨a0, rfl, H3, hb3⟩
  have HH3 := Lib.hid H3
  have HB3 := Lib.hid hb3
  have HB13 := Lib.hid (HB12.out.trans (hb3.mono HB12.out.size))
  have HNs := Lib.hid (news_any 0 cap A mem here w3 (reads_below HM.out HB13.out) (by omega) h0 HH0.out)
  clear H3 hb3 HN
  go_wp2_with fail
  refine HNs.out.mono ?_
  rintro e w4 ⟨ra0, rfl, H4, hb4⟩
  have HS0 := Lib.hid (All.start (mem := mem) HB1.out HO2.out HB2.out HH3.out HB3.out H4 hb4)
  obtain ⟨sb, hsb⟩ : ∃ sb, sb = a0.sb := ⟨_, rfl⟩
  obtain ⟨rb, hrb⟩ : ∃ rb, rb = ra0.sb := ⟨_, rfl⟩
  rw [← hsb, ← hrb]
  have HSb := Lib.hid hsb
  have HRb := Lib.hid hrb
  clear H4 hb4 HNs HH3 HB3 HB2 HO2 HB1 HB12 HB13 hsb hrb
  unfold BkI.cells at HS0
  go_wp2_with fail
  generalize w4.alloc (.cells #[.slice none 0 0, .slice none 0 0, .slice none 0 0, .slice none 0 0, .slice none 0 0, .slice none 0 0, .slice none 0 0, .slice none 0 0, .slice none 0 0, .slice none 0 0, .slice none 0 0, .slice none 0 0] 38) = w5 at *
  generalize w4.heap.size = b at *
  go_loopg [11] (len + 1) (fun gg v11 wr => ∃ (i : Nat) (s : St) (a ra : At) (F : Nat → Prop), gg = len + 1 - i ∧ v11 = .int .i64 (i : Int) ∧ Hid (i ≤ len + 1) ∧ Hid (a.sb = sb ∧ ra.sb = rb) ∧ Hid (All w wr b Am cm mem s s a ra F) ∧ Hid (OkO s ∧ s.O.length ≤ i ∧ s.M.length = mem.length))
  case atStart => exact ⟨0, ⟨mem, h0, []⟩, a0, ra0, _, rfl, rfl, Nat.zero_le _, ⟨HSb.out.symm, HRb.out.symm⟩, HS0, ⟨(fun p hp => by cases hp), Nat.le_refl _, rfl⟩⟩
  case round =>
    obtain ⟨i, s, a, ra, F, hg, rfl, Hi, HSb2, HAl, HOk⟩ := hrel
    have Hg := Lib.hid hg
    clear hg HS0
    by_cases hlt : i ≤ len
    · have Hlt := Lib.hid hlt
      by_cases h0 : i = 0
      · subst h0
        have g1 : ((0 : Nat) : Int) ≤ (len : Int) := by omega
        obtain ⟨s2, hs2⟩ : ∃ s2, s2 = s := ⟨_, rfl⟩
        subst hs2
        have HA2 := HAl
        have HSb3 := HSb2
        have HOk2 : Hid (OkO s2 ∧ s2.O.length ≤ 0 + 1 ∧ s2.M.length = mem.length) := ⟨HOk.out.1, Nat.le_succ_of_le HOk.out.2.1, HOk.out.2.2⟩
        obtain ⟨wa, hwa⟩ : ∃ wa, wa = wr := ⟨_, rfl⟩
        subst hwa
        obtain ⟨a2, ha2⟩ : ∃ x, x = a := ⟨_, rfl⟩
        subst ha2
        obtain ⟨ra2, hra2⟩ : ∃ x, x = ra := ⟨_, rfl⟩
        subst hra2
        obtain ⟨F2, hF2⟩ : ∃ x, x = F := ⟨_, rfl⟩
        subst hF2
        clear hlt
        have A2 := HA2.out
        have hsb2 : a2.sb = sb := HSb3.out.1
        have hrb2 : ra2.sb = rb := HSb3.out.2
        have HMm := Lib.hid (mem_sb w.heap.size sb a2 hsb2 s2 _ A2.wv)
        clear hsb2 hrb2 A2
        go_wp2_with fail
        refine HMm.out.mono ?_
        rintro e w6 ⟨A6, c6, rfl, ho6, hb6⟩
        have HO6 := Lib.hid ho6
        have HB6 := Lib.hid hb6
        have HKp := Lib.hid (BkI.keep_any w.heap.size b F2 (.slice A6 s2.M.length c6) (ints s2.M) w6 (HA2.out.quiet hb6).bk (HA2.out.quiet hb6).bel.size
          (by have h := ho6; unfold Bk.Own; rw [show (ints s2.M).length = s2.M.length by simp [ints]]; exact ⟨h.1, h.2.imp id fun ⟨g, cap, cur, e1, hb, rest⟩ => ⟨g, cap, cur, e1, Nat.le_trans HA2.out.bel.size hb, rest⟩⟩)
          (by simp [ints]; have := HOk2.out.2.2; omega) (ints_is _) (fun k hk hF => by have := (ho6.lt k hk).1; have := (HA2.out.lo k hF).2; omega))
        clear ho6 hb6 HMm
        go_wp2_with fail
        refine HKp.out.mono ?_
        rintro e w7 ⟨rfl, F', I7, hF7, T7⟩
        have hk7 := HA2.out.keep HB6.out HO6.out I7 hF7 T7
        have HA7 := Lib.hid hk7.1
        have HO7 := Lib.hid hk7.2
        clear I7 hF7 T7 hk7 HKp HO6 HB6
        have c0 := HA7.out.rv.c0
        have c1 := HA7.out.rv.c1
        have c2 := HA7.out.rv.c2
        rw [HSb3.out.2] at c0 c1 c2
        have HSm : Hid (∀ m, Calls Try.prog 18 #[.slice A6 s2.M.length c6, .slice ra2.MA s2.M.length ra2.mcap] (w7.drewN m) fun e w' => e = .returned (.bool true) ∧ ∃ m', w' = w7.drewN m') := fun m => (
          same_ints A6 ra2.MA c6 ra2.mcap _ _ s2.M (w7.drewN m) (own_reads (w := w7.drewN m) HO7.out) (own_reads (w := w7.drewN m) HA7.out.rv.mem) (by have := HOk2.out.2.2; omega)).mono fun e w' ⟨he, q, hw⟩ => ⟨he, m + q, by rw [hw, World.drewN_drewN]⟩
        have HHr : Hid (∀ m, Calls Try.prog 19 #[.pointer (some ⟨sb, 0, none⟩)] (w7.drewN m) fun e w' => e = .returned (.int .i64 s2.h) ∧ ∃ m', w' = w7.drewN m') := fun m => (here_sb w.heap.size sb a2 HSb3.out.1 s2 (w7.drewN m) (HA7.out.wv.drewN m)).mono fun e w' ⟨he, hw⟩ => ⟨he, m, hw.symm⟩
        have HOp2 : Hid (∀ m, Calls Try.prog 20 #[.pointer (some ⟨sb, 0, none⟩)] (w7.drewN m) fun e w' => e = .returned (.int .i64 s2.O.length) ∧ ∃ m', w' = w7.drewN m') := fun m => (open_sb w.heap.size sb a2 HSb3.out.1 s2 (w7.drewN m) (HA7.out.wv.drewN m)).mono fun e w' ⟨he, hw⟩ => ⟨he, m, hw.symm⟩
        go_wp2_with fail
        go_quiet (first | (go_at_call 18; exact HSm.out _) | (go_at_call 19; exact HHr.out _) | (go_at_call 20; exact HOp2.out _))
        go_wp2_with fail
        go_roundg (len + 1 - (0 + 1))
        case rel => exact ⟨0 + 1, s2, a2, ra2, _, rfl, by go_num, by have := Hlt.out; show _ ≤ _; omega, ⟨HSb3.out.1, HSb3.out.2⟩, (HA7.out.quiet (below_of_draw (Below.refl _ _) _)), HOk2⟩
        case measure => rw [Hg.out]; have := Hlt.out; omega
      · obtain ⟨j, rfl⟩ : ∃ j, i = j + 1 := ⟨i - 1, by omega⟩
        have hjl : j < len := by omega
        obtain ⟨ob, off, rfl, hob, hoc⟩ := HOp.out.resolve_left (by omega)
        obtain ⟨x0, x1, x2, x3, x4⟩ := hoc j hjl
        have bel := HAl.out.bel
        have y0 := (bel.cell (p := ⟨ob, _, none⟩) hob).trans x0
        have y1 := (bel.cell (p := ⟨ob, _, none⟩) hob).trans x1
        have y2 := (bel.cell (p := ⟨ob, _, none⟩) hob).trans x2
        have y3 := (bel.cell (p := ⟨ob, _, none⟩) hob).trans x3
        clear x0 x1 x2 x3 hoc bel hlt h0
        generalize f j = o at *
        obtain ⟨ok, on, ov, os⟩ := o
        dsimp only at y0 y1 y2 y3 x4
        have g1 : ((j + 1 : Nat) : Int) ≤ (len : Int) := by omega
        have g2 : (0 : Int) < ((j + 1 : Nat) : Int) := by omega
        have hb1 := (Below.refl wr.heap.size wr).alloc (Nat.le_refl _) (.cells #[.int .i64 ok, .int .i64 on, .int .i64 ov, .string os] 40)
        have hk1 := Blk.new wr 40 #[.int .i64 ok, .int .i64 on, .int .i64 ov, .string os]
        have p0 := hk1.cell 0
        have p1 := hk1.cell 1
        have p2 := hk1.cell 2
        have p3 := hk1.cell 3
        simp only [List.getElem?_toArray, List.getElem?_cons_zero, List.getElem?_cons_succ] at p0 p1 p2 p3
        have HA1 := Lib.hid (HAl.out.quiet hb1)
        have hno : ¬ a.blocks wr.heap.size := fun h => Nat.lt_irrefl _ (HAl.out.wv.low h).2
        have hnor : ¬ ra.blocks wr.heap.size := fun h => Nat.lt_irrefl _ (HAl.out.rv.low h).2
        clear hb1 hk1
        by_cases hbig : 60 < os.size
        · have g3 : (60 : Int) < (os.size : Int) := by omega
          have g4 : decide (60 < os.size) = true := by simpa using hbig
          go_wp2_with fail
          go_ret
          exact ⟨rfl, HA1.out.bel⟩
        · have g3 : ¬ (60 : Int) < (os.size : Int) := by omega
          have g4 : decide (60 < os.size) = false := by simpa using hbig
          have HD1 : Hid (All w (wr.alloc (.cells #[.int .i64 ok, .int .i64 on, .int .i64 ov, .string os] 40)).drew b Am cm mem s s a ra F) := HA1.out.quiet (below_of_draw (Below.refl _ _) 1)
          go_upto_block 2 with fail
          rw [show ((j + 1 : Nat) : Int) = (j : Int) + 1 from rfl]
          have d1 : decide ((j : Int) + 1 ≤ (len : Int)) = true := decide_eq_true (by omega)
          have d2 : decide ((0 : Int) < (j : Int) + 1) = true := decide_eq_true (by omega)
          have d3 : decide ((60 : Int) < (os.size : Int)) = false := decide_eq_false g3
          simp only [d1, d2, d3, g4]
          clear d1 d2 d3
          go_cut [13] from 60 to 107 (fun v13 wc => v13 = .bool true ∧ ∃ (a2 ra2 : At), Hid (a2.sb = sb ∧ ra2.sb = rb) ∧ Hid (All w wc b Am cm mem (stepR s ok on ov os).2 (stepR s ok on ov os).2 a2 ra2 F))
          case first =>
            by_cases hk1 : ok = 1
            · subst hk1
              have hst : stepR s 1 on ov os = opR s on := by unfold stepR; simp
              have Hst := Lib.hid hst
              have HW1 := Lib.hid (Wv.op_sb w.heap.size sb a HSb2.out.1 s _ HD1.out.wv on)
              clear hst
              go_wp2_with fail
              go_region_held3 (fun W => W.cell? ⟨wr.heap.size, 0, none⟩ = some (.int .i64 1) ∧ W.cell? ⟨wr.heap.size, 1, none⟩ = some (.int .i64 on) ∧ W.cell? ⟨wr.heap.size, 2, none⟩ = some (.int .i64 ov) ∧ W.cell? ⟨wr.heap.size, 3, none⟩ = some (.string os)) (first | exact ⟨p0, p1, p2, p3⟩ | exact ⟨q0, q1, q2, q3⟩ | exact ⟨z0, z1, z2, z3⟩)
                (first
                | (go_at_call 8
                   refine HW1.out.mono ?_
                   rintro e wx ⟨rfl, a2, hs2, H2, T2, n2⟩
                   have A5 := HD1.out.weave H2 T2 n2
                   have q0 := touch_cell T2 p0 hno
                   have q1 := touch_cell T2 p1 hno
                   have q2 := touch_cell T2 p2 hno
                   have q3 := touch_cell T2 p3 hno
                   have HA5 := Lib.hid A5
                   have HS5 := Lib.hid hs2
                   have HR1 := Lib.hid (Rv.op_sb w.heap.size rb ra HSb2.out.2 s wx A5.rv on)
                   clear H2 T2 n2 A5 hs2)
                | (go_at_call 9
                   refine HR1.out.mono ?_
                   rintro e wa ⟨rfl, ra2, hr2, H3, T3, n3⟩
                   have HA2 := Lib.hid (HA5.out.ref H3 T3 n3)
                   have HSb3 : Hid (a2.sb = sb ∧ ra2.sb = rb) := ⟨HS5.out, hr2⟩
                   have z0 := touch_cell T3 q0 hnor
                   have z1 := touch_cell T3 q1 hnor
                   have z2 := touch_cell T3 q2 hnor
                   have z3 := touch_cell T3 q3 hnor
                   clear H3 T3 n3 hr2))
              all_goals
                go_wp2_with fail
                try simp only [Act.put, List.getElem_toArray, List.getElem_cons_zero, List.getElem_cons_succ, List.setIfInBounds_toArray, List.set_cons_zero, List.set_cons_succ]
                go_meet
                exact ⟨by first | rfl | simp, a2, ra2, HSb3, by rw [Hst.out]; exact HA2⟩
            · have e1 : (ok == 1) = false := by simpa using hk1
              by_cases hk2 : ok = 2
              · subst hk2
                have hst : stepR s 2 on ov os = argR s on ov := by unfold stepR; simp
                have Hst := Lib.hid hst
                have HW1 := Lib.hid (Wv.arg_sb w.heap.size sb a HSb2.out.1 s _ HD1.out.wv on ov)
                clear hst
                go_wp2_with fail
                go_region_held3 (fun W => W.cell? ⟨wr.heap.size, 0, none⟩ = some (.int .i64 2) ∧ W.cell? ⟨wr.heap.size, 1, none⟩ = some (.int .i64 on) ∧ W.cell? ⟨wr.heap.size, 2, none⟩ = some (.int .i64 ov) ∧ W.cell? ⟨wr.heap.size, 3, none⟩ = some (.string os)) (first | exact ⟨p0, p1, p2, p3⟩ | exact ⟨q0, q1, q2, q3⟩ | exact ⟨z0, z1, z2, z3⟩)
                  (first
                  | (go_at_call 10
                     refine HW1.out.mono ?_
                     rintro e wx ⟨rfl, a2, hs2, H2, T2, n2⟩
                     have A5 := HD1.out.weave H2 T2 n2
                     have q0 := touch_cell T2 p0 hno
                     have q1 := touch_cell T2 p1 hno
                     have q2 := touch_cell T2 p2 hno
                     have q3 := touch_cell T2 p3 hno
                     have HA5 := Lib.hid A5
                     have HS5 := Lib.hid hs2
                     have HR1 := Lib.hid (Rv.arg_sb w.heap.size rb ra HSb2.out.2 s wx A5.rv on ov)
                     clear H2 T2 n2 A5 hs2)
                  | (go_at_call 11
                     refine HR1.out.mono ?_
                     rintro e wa ⟨rfl, ra2, hr2, H3, T3, n3⟩
                     have HA2 := Lib.hid (HA5.out.ref H3 T3 n3)
                     have HSb3 : Hid (a2.sb = sb ∧ ra2.sb = rb) := ⟨HS5.out, hr2⟩
                     have z0 := touch_cell T3 q0 hnor
                     have z1 := touch_cell T3 q1 hnor
                     have z2 := touch_cell T3 q2 hnor
                     have z3 := touch_cell T3 q3 hnor
                     clear H3 T3 n3 hr2))
                all_goals
                  go_wp2_with fail
                  try simp only [Act.put, List.getElem_toArray, List.getElem_cons_zero, List.getElem_cons_succ, List.setIfInBounds_toArray, List.set_cons_zero, List.set_cons_succ]
                  go_meet
                  exact ⟨by first | rfl | simp, a2, ra2, HSb3, by rw [Hst.out]; exact HA2⟩
              · have e2 : (ok == 2) = false := by simpa using hk2
                by_cases hk3 : ok = 3
                · subst hk3
                  have hst : stepR s 3 on ov os = callR s on := by unfold stepR; simp
                  have Hst := Lib.hid hst
                  have HW1 := Lib.hid (Wv.call_sb w.heap.size sb a HSb2.out.1 s _ HD1.out.wv on)
                  clear hst
                  go_wp2_with fail
                  go_region_held3 (fun W => W.cell? ⟨wr.heap.size, 0, none⟩ = some (.int .i64 3) ∧ W.cell? ⟨wr.heap.size, 1, none⟩ = some (.int .i64 on) ∧ W.cell? ⟨wr.heap.size, 2, none⟩ = some (.int .i64 ov) ∧ W.cell? ⟨wr.heap.size, 3, none⟩ = some (.string os)) (first | exact ⟨p0, p1, p2, p3⟩ | exact ⟨q0, q1, q2, q3⟩ | exact ⟨z0, z1, z2, z3⟩)
                    (first
                    | (go_at_call 12
                       refine HW1.out.mono ?_
                       rintro e wx ⟨rfl, a2, hs2, H2, T2, n2⟩
                       have A5 := HD1.out.weave H2 T2 n2
                       have q0 := touch_cell T2 p0 hno
                       have q1 := touch_cell T2 p1 hno
                       have q2 := touch_cell T2 p2 hno
                       have q3 := touch_cell T2 p3 hno
                       have HA5 := Lib.hid A5
                       have HS5 := Lib.hid hs2
                       have HR1 := Lib.hid (Rv.call_sb w.heap.size rb ra HSb2.out.2 s wx A5.rv on)
                       clear H2 T2 n2 A5 hs2)
                    | (go_at_call 13
                       refine HR1.out.mono ?_
                       rintro e wa ⟨rfl, ra2, hr2, H3, T3, n3⟩
                       have HA2 := Lib.hid (HA5.out.ref H3 T3 n3)
                       have HSb3 : Hid (a2.sb = sb ∧ ra2.sb = rb) := ⟨HS5.out, hr2⟩
                       have z0 := touch_cell T3 q0 hnor
                       have z1 := touch_cell T3 q1 hnor
                       have z2 := touch_cell T3 q2 hnor
                       have z3 := touch_cell T3 q3 hnor
                       clear H3 T3 n3 hr2))
                  all_goals
                    go_wp2_with fail
                    try simp only [Act.put, List.getElem_toArray, List.getElem_cons_zero, List.getElem_cons_succ, List.setIfInBounds_toArray, List.set_cons_zero, List.set_cons_succ]
                    go_meet
                    exact ⟨by first | rfl | simp, a2, ra2, HSb3, by rw [Hst.out]; exact HA2⟩
                · have e3 : (ok == 3) = false := by simpa using hk3
                  have hst : stepR s ok on ov os = formR s ⟨(ups os).toArray⟩ := by unfold stepR; rw [if_neg hk1, if_neg hk2, if_neg hk3]
                  have Hst := Lib.hid hst
                  have HW1 := Lib.hid (Wv.form_sb w.heap.size sb a HSb2.out.1 s _ HD1.out.wv HOk.out.1 (by have := HOk.out.2.1; omega) os (by omega) _ rfl)
                  clear hst
                  go_wp2_with fail
                  go_region_held3 (fun W => W.cell? ⟨wr.heap.size, 0, none⟩ = some (.int .i64 ok) ∧ W.cell? ⟨wr.heap.size, 1, none⟩ = some (.int .i64 on) ∧ W.cell? ⟨wr.heap.size, 2, none⟩ = some (.int .i64 ov) ∧ W.cell? ⟨wr.heap.size, 3, none⟩ = some (.string os)) (first | exact ⟨p0, p1, p2, p3⟩ | exact ⟨q0, q1, q2, q3⟩ | exact ⟨z0, z1, z2, z3⟩)
                    (first
                    | (go_at_call 14
                       refine HW1.out.mono ?_
                       rintro e wx ⟨rfl, a2, hs2, H2, T2, n2⟩
                       have A5 := HD1.out.weave H2 T2 n2
                       have q0 := touch_cell T2 p0 hno
                       have q1 := touch_cell T2 p1 hno
                       have q2 := touch_cell T2 p2 hno
                       have q3 := touch_cell T2 p3 hno
                       have HA5 := Lib.hid A5
                       have HS5 := Lib.hid hs2
                       have HR1 := Lib.hid (Rv.form_sb w.heap.size rb ra HSb2.out.2 s wx A5.rv HOk.out.1 (by have := HOk.out.2.1; omega) os (by omega))
                       clear H2 T2 n2 A5 hs2)
                    | (go_at_call 15
                       refine HR1.out.mono ?_
                       rintro e wa ⟨rfl, ra2, hr2, H3, T3, n3⟩
                       have HA2 := Lib.hid (HA5.out.ref H3 T3 n3)
                       have HSb3 : Hid (a2.sb = sb ∧ ra2.sb = rb) := ⟨HS5.out, hr2⟩
                       have z0 := touch_cell T3 q0 hnor
                       have z1 := touch_cell T3 q1 hnor
                       have z2 := touch_cell T3 q2 hnor
                       have z3 := touch_cell T3 q3 hnor
                       clear H3 T3 n3 hr2))
                  all_goals
                    go_wp2_with fail
                    try simp only [Act.put, List.getElem_toArray, List.getElem_cons_zero, List.getElem_cons_succ, List.setIfInBounds_toArray, List.set_cons_zero, List.set_cons_succ]
                    go_meet
                    exact ⟨by first | rfl | simp, a2, ra2, HSb3, by rw [Hst.out]; exact HA2⟩
          case rest =>
            obtain ⟨rfl, a2, ra2, HSb3, HA2⟩ := hcut
            obtain ⟨F2, hF2⟩ : ∃ x, x = F := ⟨_, rfl⟩
            subst hF2
            have HGd := stepR_good s ok on ov os
            have HOk2 : Hid (OkO (stepR s ok on ov os).2 ∧ (stepR s ok on ov os).2.O.length ≤ j + 1 + 1 ∧ (stepR s ok on ov os).2.M.length = mem.length) := ⟨HGd.ok HOk.out.1, by have := HGd.few; have := HOk.out.2.1; omega, by rw [HGd.len]; exact HOk.out.2.2⟩
            clear HGd p0 p1 p2 p3 HA1 HD1
            generalize (stepR s ok on ov os).2 = s2 at *
            have A2 := HA2.out
            have hsb2 : a2.sb = sb := HSb3.out.1
            have hrb2 : ra2.sb = rb := HSb3.out.2
            have HMm := Lib.hid (mem_sb w.heap.size sb a2 hsb2 s2 _ A2.wv)
            clear hsb2 hrb2 A2
            go_wp2_with fail
            refine HMm.out.mono ?_
            rintro e w6 ⟨A6, c6, rfl, ho6, hb6⟩
            have HO6 := Lib.hid ho6
            have HB6 := Lib.hid hb6
            have HKp := Lib.hid (BkI.keep_any w.heap.size b F2 (.slice A6 s2.M.length c6) (ints s2.M) w6 (HA2.out.quiet hb6).bk (HA2.out.quiet hb6).bel.size
              (by have h := ho6; unfold Bk.Own; rw [show (ints s2.M).length = s2.M.length by simp [ints]]; exact ⟨h.1, h.2.imp id fun ⟨g, cap, cur, e1, hb, rest⟩ => ⟨g, cap, cur, e1, Nat.le_trans HA2.out.bel.size hb, rest⟩⟩)
              (by simp [ints]; have := HOk2.out.2.2; omega) (ints_is _) (fun k hk hF => by have := (ho6.lt k hk).1; have := (HA2.out.lo k hF).2; omega))
            clear ho6 hb6 HMm
            go_wp2_with fail
            refine HKp.out.mono ?_
            rintro e w7 ⟨rfl, F', I7, hF7, T7⟩
            have hk7 := HA2.out.keep HB6.out HO6.out I7 hF7 T7
            have HA7 := Lib.hid hk7.1
            have HO7 := Lib.hid hk7.2
            clear I7 hF7 T7 hk7 HKp HO6 HB6
            have c0 := HA7.out.rv.c0
            have c1 := HA7.out.rv.c1
            have c2 := HA7.out.rv.c2
            rw [HSb3.out.2] at c0 c1 c2
            have HSm : Hid (∀ m, Calls Try.prog 18 #[.slice A6 s2.M.length c6, .slice ra2.MA s2.M.length ra2.mcap] (w7.drewN m) fun e w' => e = .returned (.bool true) ∧ ∃ m', w' = w7.drewN m') := fun m => (
              same_ints A6 ra2.MA c6 ra2.mcap _ _ s2.M (w7.drewN m) (own_reads (w := w7.drewN m) HO7.out) (own_reads (w := w7.drewN m) HA7.out.rv.mem) (by have := HOk2.out.2.2; omega)).mono fun e w' ⟨he, q, hw⟩ => ⟨he, m + q, by rw [hw, World.drewN_drewN]⟩
            have HHr : Hid (∀ m, Calls Try.prog 19 #[.pointer (some ⟨sb, 0, none⟩)] (w7.drewN m) fun e w' => e = .returned (.int .i64 s2.h) ∧ ∃ m', w' = w7.drewN m') := fun m => (here_sb w.heap.size sb a2 HSb3.out.1 s2 (w7.drewN m) (HA7.out.wv.drewN m)).mono fun e w' ⟨he, hw⟩ => ⟨he, m, hw.symm⟩
            have HOp2 : Hid (∀ m, Calls Try.prog 20 #[.pointer (some ⟨sb, 0, none⟩)] (w7.drewN m) fun e w' => e = .returned (.int .i64 s2.O.length) ∧ ∃ m', w' = w7.drewN m') := fun m => (open_sb w.heap.size sb a2 HSb3.out.1 s2 (w7.drewN m) (HA7.out.wv.drewN m)).mono fun e w' ⟨he, hw⟩ => ⟨he, m, hw.symm⟩
            go_wp2_with fail
            go_quiet (first | (go_at_call 18; exact HSm.out _) | (go_at_call 19; exact HHr.out _) | (go_at_call 20; exact HOp2.out _))
            go_wp2_with fail
            go_roundg (len + 1 - ((j + 1) + 1))
            case rel => exact ⟨(j + 1) + 1, s2, a2, ra2, _, rfl, by go_num, by have := Hlt.out; show _ ≤ _; omega, ⟨HSb3.out.1, HSb3.out.2⟩, (HA7.out.quiet (below_of_draw (Below.refl _ _) _)), HOk2⟩
            case measure => rw [Hg.out]; have := Hlt.out; omega
    · have hi : i = len + 1 := by have := Hi.out; omega
      have g1 : ¬ (i : Int) ≤ (len : Int) := by omega
      have HStay : Hid (∀ wz, Below wr.heap.size wr wz → Calls Try.prog 21 #[.slice Am mem.length cm, .slice A mem.length cap] wz fun e w' => e = .returned (.bool true) ∧ ∃ q, w' = wz.drewN q) := fun wz hz =>
        stays_any w.heap.size wz.heap.size Am A cm cap mem wz (HAl.out.quiet hz).lt (reads_below HM.out (HAl.out.quiet hz).bel) hn
      have HApart : Hid (∀ wz, Below wr.heap.size wr wz → ∀ q, Calls Try.prog 22 #[.pointer (some ⟨b, 0, none⟩)] (wz.drewN q) fun e w' => e = .returned (.bool true) ∧ Below w.heap.size (wz.drewN q) w') := fun wz hz q =>
        BkI.apart_any w.heap.size b F (wz.drewN q) ((HAl.out.quiet hz).quiet (below_of_draw (Below.refl _ _) q)).bk ((HAl.out.quiet hz).quiet (below_of_draw (Below.refl _ _) q)).bel.size
      clear hlt hi
      go_wp2_with fail
      refine (op_nil _ _).mono ?_
      rintro e wz ⟨rfl, rfl⟩
      go_wp2_with fail
      refine (arg_nil _ _ _).mono ?_
      rintro e wz ⟨rfl, rfl⟩
      go_wp2_with fail
      refine (call_nil _ _).mono ?_
      rintro e wz ⟨rfl, rfl⟩
      go_wp2_with fail
      refine (form_nil _ (by decide) _).mono ?_
      rintro e wf ⟨rfl, hbf⟩
      have HBf := Lib.hid hbf
      clear hbf
      go_wp2_with fail
      refine (open_nil _).mono ?_
      rintro e wz ⟨rfl, rfl⟩
      go_wp2_with fail
      refine (here_nil _).mono ?_
      rintro e wz ⟨rfl, rfl⟩
      go_wp2_with fail
      refine (mem_nil _).mono ?_
      rintro e wz ⟨rfl, rfl⟩
      go_wp2_with fail
      refine (HStay.out _ HBf.out).mono ?_
      rintro e wz ⟨rfl, q, rfl⟩
      go_wp2_with fail
      refine (HApart.out _ HBf.out q).mono ?_
      rintro e wz ⟨rfl, hz⟩
      have HZ := Lib.hid ((HAl.out.bel.trans (HBf.out.mono HAl.out.bel.size)).trans (Below.trans (below_of_draw (Below.refl w.heap.size wf) q) hz))
      clear hz
      go_wp2_with fail
      go_ret
      exact ⟨rfl, HZ.out⟩
end Go.Proofs.Ytndjbjhgkggeiaa.Rv
