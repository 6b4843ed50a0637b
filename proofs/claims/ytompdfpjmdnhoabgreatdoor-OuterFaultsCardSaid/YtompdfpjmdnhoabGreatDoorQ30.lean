/-
  Lemmas on the way, for every input that they name: OoE, OoJ, OoK, OoM, OoS.
-/
import Derived.Test.YtompdfpjmdnhoabGreatDoorQ09
import Derived.Test.YtompdfpjmdnhoabGreatDoorQ12
import Derived.Test.YtompdfpjmdnhoabGreatDoorQ29
set_option linter.unusedVariables false
set_option linter.unusedSimpArgs false
set_option linter.deprecated false
namespace Go.Proofs.YtompdfpjmdnhoabGreatDoor.Ou
open Go.RowKit Go.Proofs.YtompdfpjmdnhoabGreatDoor.Rs Go.Proofs.YtompdfpjmdnhoabGreatDoor.Src
section
variable {w w' : World} {B ob : Nat} {L : Lo} {o : OS} {d : Dr}
def drRow (L : Lo) (d : Dr) : Res := .st L.db 96 #[.pointer (some ⟨L.da.sb, 0, none⟩), .string d.name, .int .i64 d.at_]
def oHead (ob : Nat) (L : Lo) (o : OS) : List Res := [.st ob 47 (oCells L o), .row 3 1 L.sv o.m.stack.length (ints o.m.stack), .row 3 1 L.bv o.m.back.length (ints o.m.back), .row 3 1 L.mv o.m.mem.length (ints o.m.mem),
    .st L.wb 59 #[L.wv], .row 62 4 L.wv o.words.length (wdsV o.words), .row 3 1 L.lv o.laid.length (ints o.laid)]
theorem draft_split (h : o.draft = some d) : oRes ob L o = (oHead ob L o ++ lineRes L o.line ++ [drRow L d]) ++ wvRes L.da d.s ++ [] := by
  unfold oRes
  rw [h, List.append_nil]
  simp only [List.append_assoc]
  rfl
theorem OIs.wvHeld (H : OIs w B ob L o) (h : o.draft = some d) : Held w B (wvRes L.da d.s) := by
  have h1 := H.held
  rw [draft_split h] at h1
  exact h1.left.right
theorem OIs.wv (H : OIs w B ob L o) (h : o.draft = some d) : Wv.WvIs w B L.da d.s.M d.s.h d.s.O := wvIs_of (H.wvHeld h) (H.lok.draft d h)
theorem OIs.dblk (H : OIs w B ob L o) (h : o.draft = some d) : Blk w L.db 96 #[.pointer (some ⟨L.da.sb, 0, none⟩), .string d.name, .int .i64 d.at_] := by
  have h1 := H.held
  rw [draft_split h] at h1
  exact h1.blk (List.mem_append_left _ (List.mem_append_left _ (List.mem_append_right _ (List.mem_singleton.2 rfl))))
theorem did_turns {r : Int × Wv.St} {e : Ending} (H : OIs w B ob L o) (h : o.draft = some d) (N : Wv.Did w B L.da r e w') :
    e = .returned (.int .i64 r.1) ∧ ∃ a', a'.sb = L.da.sb ∧ Turns w B (oRes ob L o) (oRes ob { L with da := a' } { o with draft := some { d with s := r.2 } }) w' ∧ Lok { L with da := a' } { o with draft := some { d with s := r.2 } } := by
  obtain ⟨he, N⟩ := N
  obtain ⟨a', hs, T, K⟩ := wv_turns (s := d.s) (s' := r.2) N
  refine ⟨he, a', hs, ?_, ⟨H.lok.line, fun d' e => by injection e with e; subst e; exact K, H.lok.pos⟩⟩
  have h1 := H.held
  rw [draft_split h] at h1
  have M := Turns_at _ _ T h1
  rw [draft_split h, draft_split (o := { o with draft := some { d with s := r.2 } }) rfl]
  have e1 : oHead ob { L with da := a' } { o with draft := some { d with s := r.2 } } = oHead ob L o := by
    unfold oHead oCells
    rw [h]
    rfl
  have e2 : lineRes { L with da := a' } o.line = lineRes L o.line := by cases o.line <;> rfl
  have e3 : drRow { L with da := a' } { d with s := r.2 } = drRow L d := by unfold drRow; rw [← hs]
  rw [e1, e3]
  show Turns w B _ ((oHead ob L o ++ lineRes { L with da := a' } o.line ++ [drRow L d]) ++ wvRes a' r.2 ++ []) w'
  rw [e2]
  exact M
theorem did_nx {f : Wv.St → Int × Wv.St} {e : Ending} (H : OIs w B ob L o) (h : o.draft = some d) (N : Wv.Did w B L.da (f d.s) e w') : e = .returned (.int .i64 (Ou.wv o f).1) ∧ Nx w B ob L o (Ou.wv o f).2 w' := by
  obtain ⟨he, a', _, T, K⟩ := did_turns H h N
  unfold Ou.wv
  rw [h]
  exact ⟨he, _, T, K⟩
theorem draft_cell (H : OIs w B ob L o) (h : o.draft = some d) : w.cell? ⟨ob, 14, none⟩ = some (.pointer (some ⟨L.db, 0, none⟩)) := by
  have := H.cell 14
  simp only [oCells, List.getElem?_toArray, List.getElem?_cons_zero, List.getElem?_cons_succ, h] at this
  exact this
theorem draft_none (H : OIs w B ob L o) (h : o.draft = none) : w.cell? ⟨ob, 14, none⟩ = some (.pointer none) := by
  have := H.cell 14
  simp only [oCells, List.getElem?_toArray, List.getElem?_cons_zero, List.getElem?_cons_succ, h] at this
  exact this
end
def Did (w : World) (B ob : Nat) (L : Lo) (o : OS) (r : Int × OS) (e : Ending) (w' : World) : Prop := e = .returned (.int .i64 r.1) ∧ Nx w B ob L o r.2 w'
set_option maxHeartbeats 1000000 in
theorem literal_any (B ob : Nat) (L : Lo) (o : OS) (w : World) (H : OIs w B ob L o) (hB : B ≤ w.heap.size) (v : Int) (hs : o.m.stack.length ≤ 48) :
    Calls Tryz.prog 44 #[.pointer (some ⟨ob, 0, none⟩), .int .i64 v] w (Did w B ob L o (literal o v)) := by
  unfold literal
  cases hd : o.draft with
  | none =>
    rw [if_neg (by simp)]
    have c14 := draft_none H hd
    have HP := Lib.hid (push_any B ob L o w H hB v hs)
    clear H hd hB
    go_enter Tryz.func44, Tryz.ntmps44
    go_wp2_with fail
    refine HP.out.mono ?_
    rintro e w2 ⟨rfl, N⟩
    have NN := Lib.hid N
    clear N
    go_wp2_with fail
    go_ret
    exact ⟨rfl, NN.out⟩
  | some d =>
    rw [if_pos (show (some d).isSome = true from rfl)]
    have c14 := draft_cell H hd
    have d0 : w.cell? ⟨L.db, 0, none⟩ = some (.pointer (some ⟨L.da.sb, 0, none⟩)) := (H.dblk hd).cell 0
    have HP := Lib.hid ((Wv.argm_any B L.da d.s w (H.wv hd) 2 v).mono fun e w' h => did_nx (f := fun s => Wv.argR s 2 v) H hd h)
    clear H hd hB
    unfold lit
    go_enter Tryz.func44, Tryz.ntmps44
    go_wp2_with fail
    refine HP.out.mono ?_
    rintro e w2 ⟨rfl, N⟩
    have NN := Lib.hid N
    clear N
    go_wp2_with fail
    go_ret
    exact ⟨rfl, NN.out⟩
end Go.Proofs.YtompdfpjmdnhoabGreatDoor.Ou
namespace Go.Proofs.YtompdfpjmdnhoabGreatDoor.Ou
open Go.RowKit Go.Proofs.YtompdfpjmdnhoabGreatDoor.Rs Go.Proofs.YtompdfpjmdnhoabGreatDoor.Src
theorem line_wv (L : Lo) (x : Option (List UInt8)) (v : Value) : lineRes { L with wv := v } x = lineRes L x := by cases x <;> rfl
theorem draft_wv (L : Lo) (x : Option Dr) (v : Value) : draftRes { L with wv := v } x = draftRes L x := by cases x <;> rfl
theorem words_turns {w w' : World} {B ob : Nat} {L : Lo} {o : OS} {wv' : Value} {ws' : List Wd} (H : OIs w B ob L o) (N : Turns w B (wRes L.wb L.wv o.words) (wRes L.wb wv' ws') w') :
    Turns w B (oRes ob L o) (oRes ob { L with wv := wv' } { o with words := ws' }) w' ∧ Lok { L with wv := wv' } { o with words := ws' } := by
  have h := H.held
  rw [oRes_words] at h
  have M := Turns_at _ _ N h
  refine ⟨?_, ⟨H.lok.line, H.lok.draft, H.lok.pos⟩⟩
  rw [oRes_words, oRes_words (L := { L with wv := wv' }) (o := { o with words := ws' })]
  show Turns w B _ (_ ++ wRes L.wb wv' ws' ++ (.row 3 1 L.lv o.laid.length (ints o.laid) :: (lineRes { L with wv := wv' } o.line ++ draftRes { L with wv := wv' } o.draft))) w'
  rw [line_wv, draft_wv]
  exact M
def setFrom : Array Value → Nat → List Value → Array Value
  | vs, _, [] => vs
  | vs, i, u :: us => setFrom (vs.setIfInBounds i u) (i + 1) us
theorem Turns_sets {B b : Nat} {T : TypeId} {R : List Res} : ∀ (us : List Value) (i : Nat) (vs : Array Value) (w : World), Held w B (.st b T vs :: R) → Turns w B (.st b T vs :: R) (.st b T (setFrom vs i us) :: R) (w.setCells b i us)
  | [], _, _, _, h => Turns.refl h
  | u :: us, i, vs, w, h => by
    have N := Turns.set h i u
    exact N.trans (Turns_sets us (i + 1) _ _ N.held)
theorem line_mach (L : Lo) (x : Option (List UInt8)) (a b c : Value) : lineRes { L with sv := a, bv := b, mv := c } x = lineRes L x := by cases x <;> rfl
theorem draft_mach (L : Lo) (x : Option Dr) (a b c : Value) : draftRes { L with sv := a, bv := b, mv := c } x = draftRes L x := by cases x <;> rfl
theorem mach_cells (L : Lo) (o : OS) (sv bv mv : Value) (m : Mc.S) : setFrom (oCells L o) 0 (Mc.sCells sv bv mv m).toList = oCells { L with sv := sv, bv := bv, mv := mv } { o with m := m } := by
  simp [setFrom, oCells, Mc.sCells]
theorem machine_turns {w w1 : World} {B ob : Nat} {L : Lo} {o : OS} {m : Mc.S} {sv bv mv : Value} (H : OIs w B ob L o) (hB : B ≤ w.heap.size) (H0 : Held w1 w.heap.size (Mc.stRows sv bv mv m)) (k : Below w.heap.size w w1) (hp : 0 < m.mem.length) :
    Turns w B (oRes ob L o) (oRes ob { L with sv := sv, bv := bv, mv := mv } { o with m := m }) (w1.setCells ob 0 (Mc.sCells sv bv mv m).toList) ∧ Lok { L with sv := sv, bv := bv, mv := mv } { o with m := m } ∧ Blk w1 ob 47 (oCells L o) := by
  have N0 : Turns w B [] (Mc.stRows sv bv mv m) w1 := ⟨H0.mono hB, Touch.of_below k _, fun i hi => .inr (H0.low hi).1⟩
  have N1 := Turns.made H.held N0
  have N2 : Turns w B (oRes ob L o) (Mc.stRows sv bv mv m ++ .st ob 47 (oCells L o) :: (oRes ob L o).tail.tail.tail.tail) w1 :=
    N1.sub ((List.Sublist.refl _).append (List.Sublist.cons_cons _ ((List.sublist_cons_self _ _).trans ((List.sublist_cons_self _ _).trans (List.sublist_cons_self _ _)))))
  have N3 := N2.perm List.perm_middle
  have N4 := N3.trans (Turns_sets (Mc.sCells sv bv mv m).toList 0 _ _ N3.held)
  refine ⟨?_, ⟨H.lok.line, H.lok.draft, hp⟩, N3.held.blk (List.mem_cons_self ..)⟩
  have e : oRes ob { L with sv := sv, bv := bv, mv := mv } { o with m := m } = .st ob 47 (setFrom (oCells L o) 0 (Mc.sCells sv bv mv m).toList) :: (Mc.stRows sv bv mv m ++ (oRes ob L o).tail.tail.tail.tail) := by
    rw [mach_cells]
    have e1 := line_mach L o.line sv bv mv
    have e2 := draft_mach L o.draft sv bv mv
    unfold oRes
    dsimp only
    rw [e1, e2]
    rfl
  rw [e]
  exact N4
theorem laid_cells {w : World} {lb : Nat} {C : List Int} (K : Blk w lb 3 (ints C).toArray) : ∀ j v, (ints C)[j]? = some v → w.cell? ((⟨lb, 0, none⟩ : Addr).add j) = some v := by
  intro j v hj
  have := K.cell j
  rw [Go.WideShapes.add_plain]
  simpa [hj] using this
set_option maxHeartbeats 4000000 in
set_option maxRecDepth 100000 in
theorem define_any (B ob : Nat) (L : Lo) (o : OS) (w : World) (H : OIs w B ob L o) (W : Wo o) (hB : B ≤ w.heap.size) (n : ByteArray) (hn : rightN n = true) (C : List Int) (k : Nat) (hk : k = C.length) (hpos : 0 < C.length) (hC : C.length ≤ 100) (lb c : Nat)
    (K : Blk w lb 3 (ints C).toArray) (hf : lb ∉ blks (oRes ob L o)) (hl : o.laid.length ≤ 1000000000) :
    Calls Tryz.prog 88 #[.pointer (some ⟨ob, 0, none⟩), .string n, .slice (some ⟨lb, 0, none⟩) k c] w (Did w B ob L o (define o n C)) := by
  have nm := W.m.nm
  have hmem : o.m.mem.length ≤ 5000 := by omega
  have hhere : o.here ≤ 5000 := by have := W.here; omega
  have c10 := words_cell H
  have HLn := Lib.hid (len_any L.wb B L.wv o.words w H.words)
  have HRm := Lib.hid (room_any B ob L o w H k hmem hhere)
  have HH := Lib.hid H
  have HK := Lib.hid hk
  unfold define
  by_cases h200 : 200 ≤ o.words.length
  · rw [if_pos h200]
    have hi : (200 : Int) ≤ (o.words.length : Int) := by omega
    have hd : decide (200 ≤ o.words.length) = true := by simpa using h200
    clear H W nm hmem hhere hB hn hpos hC K hf hl hk
    go_enter Tryz.func88, Tryz.ntmps88
    go_wp2_with fail
    refine HLn.out.mono ?_
    rintro e w2 ⟨rfl, rfl⟩
    go_wp2_with fail
    go_ret
    exact ⟨rfl, HH.out.nx⟩
  · rw [if_neg h200, ← hk]
    have hi : ¬ (200 : Int) ≤ (o.words.length : Int) := by omega
    have hd : decide (200 ≤ o.words.length) = false := by simpa using h200
    by_cases hr : room o k ≠ 0
    · rw [if_pos hr]
      have hrd : decide (room o k = 0) = false := by simpa using hr
      have HR := Lib.hid hr
      have hrb : (room o k == 0) = false := by simpa using hr
      clear H W nm hmem hhere hB hn hpos hC K hf hl hk
      generalize room o k = rc at *
      go_enter Tryz.func88, Tryz.ntmps88
      go_wp2_with fail
      refine HLn.out.mono ?_
      rintro e w2 ⟨rfl, rfl⟩
      go_wp2_with fail
      refine HRm.out.mono ?_
      rintro e w2 ⟨rfl, q, rfl⟩
      go_wp2_with fail
      go_ret
      exact ⟨rfl, HH.out.nx.drewN q⟩
    · rw [if_neg hr]
      have hr0 : room o k = 0 := by simpa using hr
      rw [hr0] at HRm
      have hrm : o.here + C.length ≤ o.m.mem.length := by rw [← hk]; exact room_ok hr0 W
      have hsm : n.size ≤ 100000 := right_small hn
      have HA := Lib.hid (fun q => add_yes L.wb B L.wv o.words ⟨n, o.here, -1, false⟩ (w.drewN q) (H.words.drewN q) hB hn (by omega) hsm)
      have ea : (add o.words ⟨n, o.here, -1, false⟩).2 = o.words ++ [⟨n, o.here, -1, false⟩] := by unfold add; rw [if_neg (by simp [hn]), if_neg h200]
      rw [ea]
      have HC := Lib.hid (fun (L2 : Lo) (w2 : World) (H2 : OIs w2 B ob L2 { o with words := o.words ++ [⟨n, o.here, -1, false⟩] }) (hB2 : B ≤ w2.heap.size) (K2 : Blk w2 lb 3 (ints C).toArray) => lay_any B ob L2 { o with words := o.words ++ [⟨n, o.here, -1, false⟩] } w2 H2 hB2 C k hk lb c (laid_cells K2) hpos hrm hmem hl)
      have HKb := Lib.hid K
      have HF := Lib.hid hf
      have HB := Lib.hid hB
      clear H W nm hmem hhere hB hn hpos hC K hf hl hk hrm hsm ea hr hr0
      go_enter Tryz.func88, Tryz.ntmps88
      go_wp2_with fail
      refine HLn.out.mono ?_
      rintro e w2 ⟨rfl, rfl⟩
      go_wp2_with fail
      refine HRm.out.mono ?_
      rintro e w2 ⟨rfl, q, rfl⟩
      have c11 := here_cell HH.out
      have HAq := Lib.hid (HA.out (q + 1))
      unfold wdC at HAq
      have T0 := Lib.hid ((Turns.refl HH.out.held).drewN (q + 1))
      have HI := Lib.hid (HH.out.drewN (q + 1))
      clear HA
      go_upto_region 6 with fail
      go_region_with ((go_at_call 26; refine HAq.out.mono ?_; rintro e w3 ⟨rfl, wv', N3⟩; obtain ⟨NW, KW⟩ := words_turns HI.out N3; have HNW := Lib.hid (T0.out.trans NW); have HKW := Lib.hid KW; clear N3 NW KW))
      all_goals
        have HCq := Lib.hid (HC.out _ _ ⟨HNW.out.held, HKW.out⟩ (Nat.le_trans HB.out HNW.out.size) ((HNW.out.touch.block lb HKb.out.lt HF.out).trans HKb.out))
        clear HC HAq
        go_wp2_with fail
        refine HCq.out.mono ?_
        rintro e w4 ⟨rfl, N4⟩
        have NN := Lib.hid (Nx.step HNW.out N4.nx)
        clear N4
        go_wp2_with fail
        go_ret
        exact ⟨rfl, NN.out⟩
end Go.Proofs.YtompdfpjmdnhoabGreatDoor.Ou
namespace Go.Proofs.YtompdfpjmdnhoabGreatDoor.Ou
open Go.RowKit Go.Proofs.YtompdfpjmdnhoabGreatDoor.Rs Go.Proofs.YtompdfpjmdnhoabGreatDoor.Src
theorem reads_new (w : World) (C : List Int) : ∀ j v, (ints C)[j]? = some v → (w.alloc (.cells (ints C).toArray 3)).cell? ((⟨w.heap.size, 0, none⟩ : Addr).add j) = some v := laid_cells (Blk.new w 3 (ints C).toArray)
set_option maxHeartbeats 2000000 in
set_option maxRecDepth 100000 in
theorem comma_any (B ob : Nat) (L : Lo) (o : OS) (w : World) (H : OIs w B ob L o) (W : Wo o) (hB : B ≤ w.heap.size) (hl : o.laid.length ≤ 1000000000) :
    Calls Tryz.prog 83 #[.pointer (some ⟨ob, 0, none⟩)] w (Did w B ob L o (comma o)) := by
  have HP := Lib.hid (pop_any B ob L o w H W.m.ns)
  have HK := Lib.hid (pop_kept o W)
  have HE : Hid (comma o = if (pop o).2.1 ≠ 0 then ((pop o).2.1, (pop o).2.2) else if room (pop o).2.2 1 ≠ 0 then (room (pop o).2.2 1, (pop o).2.2) else (0, layO (pop o).2.2 [(pop o).1])) := rfl
  have hl2 : Hid ((pop o).2.2.laid.length ≤ 1000000000) := by show _ ≤ _; rw [HK.out.2.2.1]; exact hl
  clear H W hl
  generalize pop o = r at *
  obtain ⟨v, c, o2⟩ := r
  go_enter Tryz.func83, Tryz.ntmps83
  go_wp2_with fail
  refine HP.out.mono ?_
  rintro e w2 ⟨rfl, L2, N2, K2, _⟩
  have HN2 := Lib.hid N2
  have HK2 := Lib.hid K2
  have HB2 := Lib.hid (Nat.le_trans hB N2.size)
  clear N2 K2 HP hB
  by_cases hc : c = 0
  · subst hc
    have HE := Lib.hid (HE.out.trans (if_neg (by simp)))
    have Wk := HK.out.1.wo
    have nm := Wk.m.nm
    have hmem : o2.m.mem.length ≤ 5000 := by omega
    have H2 : OIs w2 B ob L2 o2 := ⟨HN2.out.held, HK2.out⟩
    have HRm := Lib.hid (room_any B ob L2 o2 w2 H2 1 hmem (by have := Wk.here; omega))
    have HH2 := Lib.hid H2
    by_cases hr : room o2 1 ≠ 0
    · have HE := Lib.hid (HE.out.trans (if_pos hr))
      have hrb : (room o2 1 == 0) = false := by simpa using hr
      have hrd : decide (room o2 1 = 0) = false := by simpa using hr
      have HR := Lib.hid hr
      clear H2 Wk nm hmem
      generalize room o2 1 = rc at *
      go_wp2_with fail
      refine HRm.out.mono ?_
      rintro e w3 ⟨rfl, q, rfl⟩
      go_wp2_with fail
      go_ret
      rw [HE.out]
      exact ⟨rfl, L2, HN2.out.drewN q, HK2.out⟩
    · have HE := Lib.hid (HE.out.trans (if_neg hr))
      have hr0 : room o2 1 = 0 := by simpa using hr
      rw [hr0] at HRm
      have hrm : o2.here + [v].length ≤ o2.m.mem.length := room_ok hr0 Wk
      have HC := Lib.hid (fun q => lay_any B ob L2 o2 ((w2.drewN q).alloc (.cells #[.int .i64 v] 3)) ((H2.drewN q).alloc _) (Nat.le_trans HB2.out (by simp)) [v] 1 rfl w2.heap.size 1 (reads_new (w2.drewN q) [v]) (by simp) hrm hmem hl2.out)
      clear H2 Wk nm hmem hrm hr hr0
      go_wp2_with fail
      refine HRm.out.mono ?_
      rintro e w3 ⟨rfl, q, rfl⟩
      go_wp2_with fail
      refine (HC.out q).mono ?_
      rintro e w3 ⟨rfl, N3⟩
      have NN3 := Lib.hid (Nx.step ((HN2.out.drewN q).trans (Turns.lone (HN2.out.drewN q).held (.cells #[.int .i64 v] 3))) N3.nx)
      clear N3
      go_wp2_with fail
      go_ret
      rw [HE.out]
      exact ⟨rfl, NN3.out⟩
  · have HE := Lib.hid (HE.out.trans (if_pos hc))
    have hcd : decide (c = 0) = false := by simpa using hc
    have hcb : (c == 0) = false := by simpa using hc
    go_wp2_with fail
    go_ret
    rw [HE.out]
    exact ⟨rfl, L2, HN2.out, HK2.out⟩
theorem o_here {w : World} {B ob : Nat} {L : Lo} {o : OS} (H : OIs w B ob L o) (x : Nat) : Nx w B ob L o { o with here := x } (w.setCell ⟨ob, 11, none⟩ (.int .i64 x)) := ⟨L, o_set H 11 (.int .i64 x) rfl rfl, ⟨H.lok.line, H.lok.draft, H.lok.pos⟩⟩
theorem o_base {w : World} {B ob : Nat} {L : Lo} {o : OS} (H : OIs w B ob L o) (x : Int) : Nx w B ob L o { o with base := x } (w.setCell ⟨ob, 12, none⟩ (.int .i64 x)) := ⟨L, o_set H 12 (.int .i64 x) rfl rfl, ⟨H.lok.line, H.lok.draft, H.lok.pos⟩⟩
theorem o_runs {w : World} {B ob : Nat} {L : Lo} {o : OS} (H : OIs w B ob L o) (x : Bool) : Nx w B ob L o { o with runs := x } (w.setCell ⟨ob, 15, none⟩ (.bool x)) := ⟨L, o_set H 15 (.bool x) rfl rfl, ⟨H.lok.line, H.lok.draft, H.lok.pos⟩⟩
theorem o_out {w : World} {B ob : Nat} {L : Lo} {o : OS} (H : OIs w B ob L o) (x : ByteArray) : Nx w B ob L o { o with m := { o.m with out := x } } (w.setCell ⟨ob, 5, none⟩ (.string x)) := ⟨L, o_set H 5 (.string x) rfl rfl, ⟨H.lok.line, H.lok.draft, H.lok.pos⟩⟩
set_option maxHeartbeats 2000000 in
set_option maxRecDepth 100000 in
theorem allot_any (B ob : Nat) (L : Lo) (o : OS) (w : World) (H : OIs w B ob L o) (W : Wo o) (hB : B ≤ w.heap.size) :
    Calls Tryz.prog 84 #[.pointer (some ⟨ob, 0, none⟩)] w (Did w B ob L o (allot o)) := by
  have HP := Lib.hid (pop_any B ob L o w H W.m.ns)
  have HK := Lib.hid (pop_kept o W)
  have HE : Hid (allot o = if (pop o).2.1 ≠ 0 then ((pop o).2.1, (pop o).2.2) else if (pop o).1 < -((pop o).2.2.here : Int) ∨ ((pop o).2.2.m.mem.length : Int) - (pop o).2.2.here < (pop o).1 then (-8, (pop o).2.2)
    else (0, { (pop o).2.2 with here := (((pop o).2.2.here : Int) + (pop o).1).toNat })) := rfl
  clear H W
  generalize pop o = r at *
  obtain ⟨v, c, o2⟩ := r
  go_enter Tryz.func84, Tryz.ntmps84
  go_wp2_with fail
  refine HP.out.mono ?_
  rintro e w2 ⟨rfl, L2, N2, K2, _⟩
  have HN2 := Lib.hid N2
  have HK2 := Lib.hid K2
  clear N2 K2 HP hB
  by_cases hc : c = 0
  · subst hc
    have HE := Lib.hid (HE.out.trans (if_neg (by simp)))
    have Wk := HK.out.1.wo
    have nm := Wk.m.nm
    have hh := Wk.here
    have H2 : OIs w2 B ob L2 o2 := ⟨HN2.out.held, HK2.out⟩
    obtain ⟨MA, mc, _, c4⟩ := mem_cell H2
    have c11 := here_cell H2
    have f11 := H2.frozen 11
    have HO := Lib.hid (fun q z => o_here (H2.drewN q) z)
    have hw1 : wrap64 (-(o2.here : Int)) = -(o2.here : Int) := by clear HE HK HN2 HK2 HO H2; unfold wrap64; omega
    have hw2 : wrap64 ((o2.m.mem.length : Int) - (o2.here : Int)) = (o2.m.mem.length : Int) - (o2.here : Int) := by clear HE HK HN2 HK2 HO H2; unfold wrap64; omega
    have hv1 : IntKind.i64.wrap (-(o2.here : Int)) = -(o2.here : Int) := IntWalk.i64_in _ (by clear HE HK HN2 HK2 HO H2; omega)
    have hv2 : IntKind.i64.wrap ((o2.m.mem.length : Int) - (o2.here : Int)) = (o2.m.mem.length : Int) - (o2.here : Int) := IntWalk.i64_in _ (by clear HE HK HN2 HK2 HO H2; omega)
    clear H2 Wk
    by_cases h1 : v < -(o2.here : Int)
    · have HE := Lib.hid (HE.out.trans (if_pos (.inl h1)))
      clear hh nm
      go_wp2
      go_quiet (fail)
      go_wp2_with fail
      go_ret
      rw [HE.out]
      exact ⟨rfl, L2, HN2.out.drewN _, HK2.out⟩
    · by_cases h2 : (o2.m.mem.length : Int) - (o2.here : Int) < v
      · have HE := Lib.hid (HE.out.trans (if_pos (.inr h2)))
        clear hh nm
        go_wp2
        go_quiet (fail)
        go_wp2_with fail
        go_ret
        rw [HE.out]
        exact ⟨rfl, L2, HN2.out.drewN _, HK2.out⟩
      · have HE := Lib.hid (HE.out.trans (if_neg (not_or.2 ⟨h1, h2⟩)))
        obtain ⟨z, hz⟩ := Int.eq_ofNat_of_zero_le (show 0 ≤ (o2.here : Int) + v by omega)
        have hw3 : wrap64 ((o2.here : Int) + v) = (z : Int) := by clear HE HK HN2 HK2 HO c4 c11 f11; unfold wrap64; omega
        have hv3 : IntKind.i64.wrap ((o2.here : Int) + v) = (z : Int) := (IntWalk.i64_in _ (by clear HE HK HN2 HK2 HO c4 c11 f11; omega)).trans hz
        have HW4 : Hid (wrap64 (z : Int) = (z : Int)) := by clear HE HK HN2 HK2 HO c4 c11 f11; show wrap64 (z : Int) = (z : Int); unfold wrap64; omega
        rw [hz, Int.toNat_natCast] at HE
        clear hh nm
        go_wp2
        go_quiet (fail)
        go_wp2_with fail
        go_ret
        rw [HE.out, HW4.out]
        exact ⟨rfl, Nx.step (HN2.out.drewN _) (HO.out _ _)⟩
  · have HE := Lib.hid (HE.out.trans (if_pos hc))
    have hcd : decide (c = 0) = false := by simpa using hc
    have hcb : (c == 0) = false := by simpa using hc
    go_wp2_with fail
    go_ret
    rw [HE.out]
    exact ⟨rfl, L2, HN2.out, HK2.out⟩
end Go.Proofs.YtompdfpjmdnhoabGreatDoor.Ou
namespace Go.Proofs.YtompdfpjmdnhoabGreatDoor.Ou
open Go.RowKit Go.Proofs.YtompdfpjmdnhoabGreatDoor.Rs Go.Proofs.YtompdfpjmdnhoabGreatDoor.Src
theorem wv_some {o : OS} {d : Dr} {f : Wv.St → Int × Wv.St} (h : o.draft = some d) : wv o f = ((f d.s).1, { o with draft := some { d with s := (f d.s).2 } }) := by unfold wv; rw [h]
theorem wv_isSome {o : OS} {f : Wv.St → Int × Wv.St} : (wv o f).2.draft.isSome = o.draft.isSome := by
  unfold wv
  split <;> simp_all
theorem say_cons (o : OS) (c : UInt8) (l : List UInt8) : sayW o (c :: l) = if (lit o c.toNat).1 ≠ 0 then lit o c.toNat else if (opW (lit o c.toNat).2 41).1 ≠ 0 then opW (lit o c.toNat).2 41 else sayW (opW (lit o c.toNat).2 41).2 l := rfl
theorem drop_cons {t : ByteArray} {j : Nat} (h : j < t.size) : t.data.toList.drop j = t[j] :: t.data.toList.drop (j + 1) := by
  have h2 : j < t.data.toList.length := h
  rw [List.drop_eq_getElem_cons h2]
  rfl
theorem Did.pre {w w1 w' : World} {B ob : Nat} {L : Lo} {o : OS} {r : R} {e : Ending} (N : Turns w B (oRes ob L o) (oRes ob L o) w1) (K : Did w1 B ob L o r e w') : Did w B ob L o r e w' := ⟨K.1, Nx.step N K.2⟩
theorem Did.step {w w1 w' : World} {B ob : Nat} {L L1 : Lo} {o o1 : OS} {r : R} {e : Ending} (N : Turns w B (oRes ob L o) (oRes ob L1 o1) w1) (K : Did w1 B ob L1 o1 r e w') : Did w B ob L o r e w' := ⟨K.1, Nx.step N K.2⟩
theorem arg_did {w : World} {B ob : Nat} {L : Lo} {o : OS} {d : Dr} (H : OIs w B ob L o) (h : o.draft = some d) (c v : Int) :
    Calls Tryz.prog 63 #[.pointer (some ⟨L.da.sb, 0, none⟩), .int .i64 c, .int .i64 v] w (Did w B ob L o (Ou.wv o fun s => Wv.argR s c v)) :=
  (Wv.argm_any B L.da d.s w (H.wv h) c v).mono fun _ _ k => did_nx (f := fun s => Wv.argR s c v) H h k
theorem op_did {w : World} {B ob : Nat} {L : Lo} {o : OS} {d : Dr} (H : OIs w B ob L o) (h : o.draft = some d) (c : Int) :
    Calls Tryz.prog 53 #[.pointer (some ⟨L.da.sb, 0, none⟩), .int .i64 c] w (Did w B ob L o (opW o c)) :=
  (Wv.op_any B L.da d.s w (H.wv h) c).mono fun _ _ k => did_nx (f := fun s => Wv.opR s c) H h k
theorem call_did {w : World} {B ob : Nat} {L : Lo} {o : OS} {d : Dr} (H : OIs w B ob L o) (h : o.draft = some d) (x : Int) :
    Calls Tryz.prog 54 #[.pointer (some ⟨L.da.sb, 0, none⟩), .int .i64 x] w (Did w B ob L o (Ou.wv o fun s => Wv.callR s x)) :=
  (Wv.call_any B L.da d.s w (H.wv h) x).mono fun _ _ k => did_nx (f := fun s => Wv.callR s x) H h k
theorem form_did {w : World} {B ob : Nat} {L : Lo} {o : OS} {d : Dr} (H : OIs w B ob L o) (W : Wo o) (h : o.draft = some d) (ho : d.s.O.length < 4900) (u : ByteArray) (hu : u.size ≤ 100000) :
    Calls Tryz.prog 82 #[.pointer (some ⟨L.da.sb, 0, none⟩), .string u] w (Did w B ob L o (Ou.wv o fun s => Wv.formR s ⟨(ups u).toArray⟩)) :=
  (Wv.form_any B L.da d.s w (H.wv h) (W.draft d h).ok ho u hu).mono fun _ _ k => did_nx (f := fun s => Wv.formR s ⟨(ups u).toArray⟩) H h k
set_option maxHeartbeats 4000000 in
set_option maxRecDepth 100000 in
theorem say_any (B ob : Nat) (L : Lo) (o : OS) (w : World) (H : OIs w B ob L o) (W : Wo o) (hB : B ≤ w.heap.size) (t : ByteArray) (ht : t.size ≤ 100000) :
    Calls Tryz.prog 78 #[.pointer (some ⟨ob, 0, none⟩), .string t] w (Did w B ob L o (say o t)) := by
  unfold say
  cases hd : o.draft with
  | none =>
    rw [if_pos (show (none : Option Dr).isSome = false from rfl)]
    have c14 := draft_none H hd
    have c5 : w.cell? ⟨ob, 5, none⟩ = some (.string o.m.out) := H.cell 5
    have f5 := H.frozen 5
    have hot := W.m.ot
    have hO := Lib.hid (o_out H (o.m.out ++ t))
    rw [hd] at hO
    have hN := Lib.hid H.nx
    have hw : wrap64 ((o.m.out.size : Int) + (t.size : Int)) = ((o.m.out.size + t.size : Nat) : Int) := by clear H W hO hN; unfold wrap64; omega
    clear H W hd hB
    by_cases hb : 2000 < o.m.out.size + t.size
    · rw [if_pos hb]
      have hbi : (2000 : Int) < ((o.m.out.size + t.size : Nat) : Int) := by omega
      have hbi2 : (2000 : Int) < (o.m.out.size : Int) + (t.size : Int) := by omega
      have hbd : decide (2000 < o.m.out.size + t.size) = true := by simpa using hb
      clear ht hot
      go_enter Tryz.func78, Tryz.ntmps78
      go_wp2_with fail
      go_ret
      exact ⟨rfl, hN.out⟩
    · rw [if_neg hb]
      have hbi : ¬ (2000 : Int) < ((o.m.out.size + t.size : Nat) : Int) := by omega
      have hbi2 : ¬ (2000 : Int) < (o.m.out.size : Int) + (t.size : Int) := by omega
      have hbd : decide (2000 < o.m.out.size + t.size) = false := by simpa using hb
      clear ht hot
      go_enter Tryz.func78, Tryz.ntmps78
      go_wp2_with fail
      go_ret
      exact ⟨rfl, hO.out⟩
  | some d =>
    rw [if_neg (show ¬ (some d).isSome = false from by simp)]
    have c14 := draft_cell H hd
    have HT0 := Lib.hid (Turns.refl H.held)
    have HK0 := Lib.hid H.lok
    have HD0 : Hid (o.draft.isSome = true) := by show o.draft.isSome = true; rw [hd]; rfl
    clear H W hd hB
    go_enter Tryz.func78, Tryz.ntmps78
    go_wp2_with fail
    clear c14
    go_loopg [35] t.size (fun g v wr => ∃ (i : Nat) (oj : OS) (Lj : Lo), g = t.size - i ∧ v = .int .i64 i ∧ i ≤ t.size ∧ Hid (Turns w B (oRes ob L o) (oRes ob Lj oj) wr) ∧ Hid (Lok Lj oj) ∧ Hid (oj.draft.isSome = true) ∧ Hid (sayW oj (t.data.toList.drop i) = sayW o t.data.toList))
    case atStart => exact ⟨0, o, L, rfl, rfl, by omega, HT0, HK0, HD0, rfl⟩
    case round =>
      obtain ⟨i, oj, Lj, hg, rfl, hi, HT, HK, HDr, HS⟩ := hrel
      have Hg := Lib.hid hg
      clear hg HT0 HK0 HD0
      by_cases hlt : i < t.size
      · have hii : (i : Int) < (t.size : Int) := by omega
        have hid2 : decide (i < t.size) = true := by simpa using hlt
        have hw : IntKind.i64.wrap (i : Int) = (i : Int) := IntWalk.i64_in _ (by omega)
        have hw2 : IntKind.i64.wrap (t[i].toNat : Int) = (t[i].toNat : Int) := IntWalk.i64_in _ (by have := t[i].toNat_lt; omega)
        have e4 : wrap64 ((i : Int) + 1) = ((i + 1 : Nat) : Int) := by unfold wrap64; omega
        obtain ⟨d, hd⟩ := Option.isSome_iff_exists.1 HDr.out
        have hI : OIs wr B ob Lj oj := ⟨HT.out.held, HK.out⟩
        have c14 := draft_cell hI hd
        have d0 : wr.cell? ⟨Lj.db, 0, none⟩ = some (.pointer (some ⟨Lj.da.sb, 0, none⟩)) := (hI.dblk hd).cell 0
        have HA := Lib.hid ((arg_did (hI.drewN 1) hd 2 (t[i].toNat : Int)).mono fun _ _ k => Did.pre ((Turns.refl hI.held).drewN 1) k)
        have HS1 : Hid ((if (lit oj (t[i].toNat : Int)).1 ≠ 0 then lit oj (t[i].toNat : Int) else if (opW (lit oj (t[i].toNat : Int)).2 41).1 ≠ 0 then opW (lit oj (t[i].toNat : Int)).2 41 else sayW (opW (lit oj (t[i].toNat : Int)).2 41).2 (t.data.toList.drop (i + 1))) = sayW o t.data.toList) := by
          show _ = _
          rw [← HS.out, drop_cons hlt, say_cons]
        have HDr2 : Hid ((lit oj (t[i].toNat : Int)).2.draft.isSome = true) := by
          show (wv oj _).2.draft.isSome = true
          rw [wv_isSome]
          exact HDr.out
        change Hid (Calls _ _ _ _ (Did wr B ob Lj oj (lit oj (t[i].toNat : Int)))) at HA
        generalize lit oj (t[i].toNat : Int) = r at *
        obtain ⟨c1, o2⟩ := r
        clear hI hd HS HDr
        go_upto_region 9 with fail
        go_region_with ((go_at_call 63; refine HA.out.mono ?_; rintro e w2 ⟨rfl, N2⟩; have HN2 := Lib.hid N2; clear N2))
        all_goals
          obtain ⟨L2, N2, K2⟩ := HN2.out
          have HT2 := Lib.hid (HT.out.trans N2)
          have HK2 := Lib.hid K2
          clear N2 K2 HN2 HA c14 d0
          by_cases hc1 : c1 = 0
          · subst hc1
            have HS2 := Lib.hid ((if_neg (by simp)).symm.trans HS1.out)
            obtain ⟨d2, hd2⟩ := Option.isSome_iff_exists.1 HDr2.out
            have hI2 : OIs w2 B ob L2 o2 := ⟨HT2.out.held, HK2.out⟩
            have c14 := draft_cell hI2 hd2
            have d0 : w2.cell? ⟨L2.db, 0, none⟩ = some (.pointer (some ⟨L2.da.sb, 0, none⟩)) := (hI2.dblk hd2).cell 0
            have HO := Lib.hid (op_did hI2 hd2 41)
            have HDr3 : Hid ((opW o2 41).2.draft.isSome = true) := by
              show (wv o2 _).2.draft.isSome = true
              rw [wv_isSome]
              exact HDr2.out
            clear hI2 hd2 HS1 HDr2
            generalize opW o2 41 = r at *
            obtain ⟨c2, o3⟩ := r
            go_wp2_with fail
            refine HO.out.mono ?_
            rintro e w3 ⟨rfl, L3, N3, K3⟩
            have HT3 := Lib.hid (HT2.out.trans N3)
            have HK3 := Lib.hid K3
            clear N3 K3 HO c14 d0
            by_cases hc2 : c2 = 0
            · subst hc2
              have HS3 := Lib.hid ((if_neg (by simp)).symm.trans HS2.out)
              go_wp2_with fail
              go_roundg (t.size - (i + 1))
              case rel => exact ⟨i + 1, o3, L3, rfl, rfl, by omega, HT3, HK3, HDr3, HS3⟩
              case measure => have := Hg.out; omega
            · have HS3 := Lib.hid ((if_pos hc2).symm.trans HS2.out)
              have hcd : decide (c2 = 0) = false := by simpa using hc2
              have hcb : (c2 == 0) = false := by simpa using hc2
              go_wp2_with fail
              go_ret
              rw [← HS3.out]
              exact ⟨rfl, L3, HT3.out, HK3.out⟩
          · have HS2 := Lib.hid ((if_pos hc1).symm.trans HS1.out)
            have hcd : decide (c1 = 0) = false := by simpa using hc1
            have hcb : (c1 == 0) = false := by simpa using hc1
            go_wp2_with fail
            go_ret
            rw [← HS2.out]
            exact ⟨rfl, L2, HT2.out, HK2.out⟩
      · obtain rfl : i = t.size := by omega
        have HS2 : Hid ((0, oj) = sayW o t.data.toList) := by
          show _ = _
          rw [← HS.out, show t.data.toList.drop t.size = [] from List.drop_length]
          rfl
        go_wp2_with fail
        go_ret
        rw [← HS2.out]
        exact ⟨rfl, Lj, HT.out, HK.out⟩
end Go.Proofs.YtompdfpjmdnhoabGreatDoor.Ou
namespace Go.Proofs.YtompdfpjmdnhoabGreatDoor.Ou
open Go.RowKit Go.Proofs.YtompdfpjmdnhoabGreatDoor.Rs Go.Proofs.YtompdfpjmdnhoabGreatDoor.Src
theorem op5 {s : Wv.St} (h : (Wv.opR s 5).1 = 0) : (Wv.opR s 5).2.h = s.h + 1 := by
  have e : Wv.opR s 5 = Wv.layR s [5] := by unfold Wv.opR; rw [if_pos (by decide)]
  rw [e] at h ⊢
  unfold Wv.layR at h ⊢
  split at h
  · rename_i hc
    rw [if_pos hc]
    rfl
  · cases h
theorem cells14 (L : Lo) (o : OS) : (oCells L o).setIfInBounds 14 (.pointer none) = oCells L { o with draft := none } := by simp [oCells, ptrIf]
theorem draft_off {w : World} {B ob : Nat} {L : Lo} {o : OS} (H : OIs w B ob L o) : Nx w B ob L o { o with draft := none } (w.setCell ⟨ob, 14, none⟩ (.pointer none)) := by
  have N := Turns.set (R := (oRes ob L o).tail) (b := ob) (T := 47) (vs := oCells L o) H.held 14 (.pointer none)
  rw [cells14] at N
  refine ⟨L, N.sub ?_, ⟨H.lok.line, (fun d e => by cases e), H.lok.pos⟩⟩
  refine List.Sublist.cons_cons _ ?_
  show List.Sublist (_ ++ (lineRes L o.line ++ [])) (_ ++ (lineRes L o.line ++ draftRes L o.draft))
  exact (List.Sublist.refl _).append ((List.Sublist.refl _).append (List.nil_sublist _))
theorem mem_form (B : Nat) (a : Wv.At) (M : List Int) (h : Nat) (O : List (Int × Int)) (w : World) (H : Wv.WvIs w B a M h O) (hM : 0 < M.length) :
    Calls Tryz.prog 112 #[.pointer (some ⟨a.sb, 0, none⟩)] w fun e w' => ∃ g gc, e = .returned (.slice (some ⟨g, 0, none⟩) M.length gc) ∧ Row w' w.heap.size 3 1 (.slice (some ⟨g, 0, none⟩) M.length gc) M.length (ints M) ∧ M.length ≤ gc ∧ Below w.heap.size w w' := by
  refine (Wv.mem_any B a M h O w H).mono ?_
  rintro e w' ⟨A', c, rfl, ho, hb⟩
  have hr := Row.of_own ho
  obtain ⟨g, c', hv, hn, _⟩ := hr.form hM
  injection hv with h1 _ h3
  subst h1 h3
  exact ⟨g, c' + 1, rfl, hr, hn, hb⟩
theorem clone_piece (g c : Nat) (M : List Int) (a h : Nat) (hah : a < h) (hhM : h ≤ M.length) (hM : M.length ≤ 5000) (B : Nat) (w : World) (R : Row w B 3 1 (.slice (some ⟨g, 0, none⟩) M.length c) M.length (ints M)) :
    Calls Tryz.prog 33 #[.slice (some ⟨g, a, none⟩) (h - a) (c - a)] w fun e w' => ∃ lb lc, e = .returned (.slice (some ⟨lb, 0, none⟩) (h - a) lc) ∧ (∀ j v, (ints ((M.take h).drop a))[j]? = some v → w'.cell? ((⟨lb, 0, none⟩ : Addr).add j) = some v) ∧ w.heap.size ≤ lb ∧ Below w.heap.size w w' := by
  obtain ⟨g', c', hv, hcc, _, _, hcell, _⟩ := R.form (by omega)
  injection hv with hv1 _ hv3
  injection hv1 with hv1
  injection hv1 with hv1
  subst hv1 hv3
  have hc : ∀ j, j < (M.drop a).length → w.cell? ⟨g, a + j, none⟩ = some (.int .i64 ((M.drop a).getD j 0)) := by
    intro j hj
    rw [List.length_drop] at hj
    have h1 := hcell (a + j) (by omega)
    rw [h1, ints_get _ _ (by omega)]
    congr 2
    rw [List.getD_eq_getElem?_getD, List.getD_eq_getElem?_getD, List.getElem?_drop]
  refine (Tryz.slices_Clone_int g a (h - a) (c' + 1 - a) (M.drop a) w (by rw [List.length_drop]; omega) (by omega) hc).mono ?_
  rintro e w' ⟨v', rfl, ho, _, hb⟩
  have e1 : ((M.drop a).take (h - a)) = (M.take h).drop a := by rw [List.drop_take]
  rw [e1] at ho
  have hr := Row.of_own ho
  obtain ⟨lb, lc, hv, _, hlb, _, hcl, _⟩ := hr.form (by omega)
  subst hv
  refine ⟨lb, lc + 1, rfl, fun j v hj => ?_, hlb, hb⟩
  rw [Go.WideShapes.add_plain, Nat.zero_add]
  have hlt := (List.getElem?_eq_some_iff.1 hj).1
  rw [hcl j (by rw [ints_length, List.length_drop, List.length_take] at hlt; omega)]
  exact hj
set_option maxHeartbeats 8000000 in
set_option maxRecDepth 100000 in
theorem finish_any (B ob : Nat) (L : Lo) (o : OS) (w : World) (H : OIs w B ob L o) (W : Wo o) (hB : B ≤ w.heap.size) (d : Dr) (hd : o.draft = some d) (hl : o.laid.length ≤ 1000000000) :
    Calls Tryz.prog 79 #[.pointer (some ⟨ob, 0, none⟩)] w (Did w B ob L o (finish o)) := by
  have c14 := draft_cell H hd
  have d0 : w.cell? ⟨L.db, 0, none⟩ = some (.pointer (some ⟨L.da.sb, 0, none⟩)) := (H.dblk hd).cell 0
  have HO := Lib.hid ((Wv.op_any B L.da d.s w (H.wv hd) 5).mono fun e w' k => did_turns H hd k)
  have HWs := Lib.hid (wv_kept o (fun s => Wv.opR s 5) W (does_op 5))
  have e0 : opW o 5 = ((Wv.opR d.s 5).1, { o with draft := some { d with s := (Wv.opR d.s 5).2 } }) := wv_some hd
  have HF : Hid (finish o = if (opW o 5).1 ≠ 0 then opW o 5 else match (opW o 5).2.draft with
    | none => opW o 5
    | some d => if 0 < d.s.O.length then (-22, (opW o 5).2)
      else let q := add (opW o 5).2.words ⟨d.name, d.at_, -1, false⟩
        if q.1 ≠ 0 then (q.1, (opW o 5).2) else (0, { layO { (opW o 5).2 with words := q.2, here := d.at_ } ((d.s.M.take d.s.h).drop d.at_) with draft := none })) := rfl
  rw [e0] at HF
  have HK : Hid (Wo { o with draft := some { d with s := (Wv.opR d.s 5).2 } }) := by
    have h := HWs.out.wo
    have e1 : (Ou.wv o (fun s => Wv.opR s 5)) = _ := e0
    rw [e1] at h
    exact h
  have Hop := Lib.hid (fun h => op5 (s := d.s) h)
  have HA0 := Lib.hid (W.draft d hd).at_
  have HL := Lib.hid hl
  have HB := Lib.hid hB
  clear H W hB hd hl e0 HWs
  dsimp only at HF
  generalize Wv.opR d.s 5 = r at *
  obtain ⟨c1, s1⟩ := r
  dsimp only at HF HO HK Hop
  go_enter Tryz.func79, Tryz.ntmps79
  go_wp2_with fail
  refine HO.out.mono ?_
  rintro e w1 ⟨rfl, a', hsb, N1, K1⟩
  clear hsb
  have HN1 := Lib.hid N1
  have HK1 := Lib.hid K1
  clear N1 K1 HO c14 d0
  by_cases hc1 : c1 = 0
  · subst hc1
    have HF1 := Lib.hid (HF.out.trans (if_neg (by simp)))
    have H1 : OIs w1 B ob { L with da := a' } { o with draft := some { d with s := s1 } } := ⟨HN1.out.held, HK1.out⟩
    have DB : Blk w1 L.db 96 #[.pointer (some ⟨a'.sb, 0, none⟩), .string d.name, .int .i64 d.at_] := H1.dblk (d := { d with s := s1 }) rfl
    have p0 := DB.cell 0
    simp only [List.getElem?_toArray, List.getElem?_cons_zero] at p0
    have WI : Wv.WvIs w1 B a' s1.M s1.h s1.O := H1.wv (d := { d with s := s1 }) rfl
    have HOp := Lib.hid (Wv.open_any B a' s1.M s1.h s1.O w1 WI)
    have HH1 := Lib.hid H1
    have HDB := Lib.hid DB
    clear H1 DB WI HF
    by_cases hO : 0 < s1.O.length
    · have HF2 := Lib.hid (HF1.out.trans (if_pos hO))
      have hOi : (0 : Int) < (s1.O.length : Int) := by clear HN1 HK1; omega
      have hOd : decide (0 < s1.O.length) = true := by simpa using hO
      clear hO
      go_wp2_with fail
      refine HOp.out.mono ?_
      rintro e w2 ⟨rfl, rfl⟩
      go_wp2_with fail
      go_ret
      rw [HF2.out]
      exact ⟨rfl, { L with da := a' }, HN1.out, HK1.out⟩
    · have HF2 := Lib.hid (HF1.out.trans (if_neg hO))
      have hOi : ¬ (0 : Int) < (s1.O.length : Int) := by clear HN1 HK1; omega
      have hOd : decide (0 < s1.O.length) = false := by simpa using hO
      have c10 := words_cell HH1.out
      have p1 := HDB.out.cell 1
      have p2 := HDB.out.cell 2
      simp only [List.getElem?_toArray, List.getElem?_cons_zero, List.getElem?_cons_succ] at p1 p2
      have DK := HK.out.draft { d with s := s1 } rfl
      have hnm : rightN d.name = true := DK.nm
      clear hO HF1
      by_cases h200 : 200 ≤ o.words.length
      · have eadd : add o.words ⟨d.name, d.at_, -1, false⟩ = (-8, o.words) := by unfold add; rw [if_neg (by simp [hnm]), if_pos h200]
        rw [eadd] at HF2
        have HF3 := Lib.hid (HF2.out.trans (if_pos (by simp)))
        have HAd := Lib.hid (add_full L.wb B L.wv o.words ⟨d.name, d.at_, -1, false⟩ (w1.drewN 1) (HH1.out.words.drewN 1) hnm h200 (right_small hnm))
        unfold wdC at HAd
        have HH1d := Lib.hid (HH1.out.drewN 1)
        clear hnm h200 eadd HF2 DK
        go_wp2_with fail
        refine HOp.out.mono ?_
        rintro e w2 ⟨rfl, rfl⟩
        go_upto_region 7 with fail
        go_region_with ((go_at_call 26; refine HAd.out.mono ?_; rintro e w3 ⟨rfl, k3⟩; have HN3 := Lib.hid ((HN1.out.drewN 1).trans (Turns.of_below HH1d.out.held k3 (Nat.le_refl _))); clear k3))
        all_goals
          go_wp2_with fail
          go_ret
          rw [HF3.out]
          exact ⟨rfl, { L with da := a' }, HN3.out, HK1.out⟩
      · have hlt : o.words.length < 200 := Nat.lt_of_not_le h200
        have eadd : add o.words ⟨d.name, d.at_, -1, false⟩ = (0, o.words ++ [⟨d.name, d.at_, -1, false⟩]) := add_ok hnm hlt
        rw [eadd] at HF2
        have HF3 := Lib.hid (HF2.out.trans (if_neg (by simp)))
        have HAd := Lib.hid (add_yes L.wb B L.wv o.words ⟨d.name, d.at_, -1, false⟩ (w1.drewN 1) (HH1.out.words.drewN 1) (Nat.le_trans HB.out (show _ ≤ (w1.drewN 1).heap.size from HN1.out.size)) hnm hlt (right_small hnm))
        unfold wdC at HAd
        have HH1d := Lib.hid (HH1.out.drewN 1)
        have HH2 := Lib.hid (Hop.out rfl)
        have hmlen := DK.len
        have hmh := DK.here
        have hnm3 := HK.out.m.nm
        dsimp only at hmlen hmh
        have HHa : Hid (d.at_ < s1.h) := by show _ < _; rw [HH2.out]; exact Nat.lt_succ_of_le HA0.out
        have HHm : Hid (s1.h ≤ s1.M.length) := hmh
        have HM5 : Hid (s1.M.length ≤ 5000) := by show _ ≤ _; rw [hmlen]; exact Nat.le_trans hnm3 (by decide)
        have HCl : Hid (s1.h - d.at_ = ((s1.M.take s1.h).drop d.at_).length) := by show _ = _; rw [List.length_drop, List.length_take, Nat.min_eq_left hmh]
        have HCp : Hid (0 < ((s1.M.take s1.h).drop d.at_).length) := by show _ < _; rw [← HCl.out]; exact Nat.sub_pos_of_lt HHa.out
        have HCr0 : Hid (d.at_ + ((s1.M.take s1.h).drop d.at_).length ≤ o.m.mem.length) := by show _ ≤ _; rw [← HCl.out, Nat.add_sub_cancel' (Nat.le_of_lt HHa.out), ← hmlen]; exact hmh
        have HM5o0 : Hid (o.m.mem.length ≤ 5000) := Nat.le_trans hnm3 (by decide)
        have HLd0 : Hid (o.laid.length ≤ 1000000000) := HL.out
        clear hmlen hmh hnm3 hnm hlt h200 eadd HF2 DK HA0
        go_wp2_with fail
        refine HOp.out.mono ?_
        rintro e w2 ⟨rfl, rfl⟩
        go_upto_region 7 with fail
        go_region_with ((go_at_call 26; refine HAd.out.mono ?_; rintro e w2 ⟨rfl, wv', N2⟩; obtain ⟨NW, KW⟩ := words_turns HH1d.out N2; have HN2 := Lib.hid NW; have HK2 := Lib.hid KW; clear N2 NW KW))
        all_goals
          have H2 : OIs w2 B ob { L with da := a', wv := wv' } { o with draft := some { d with s := s1 }, words := o.words ++ [⟨d.name, d.at_, -1, false⟩] } := ⟨HN2.out.held, HK2.out⟩
          have DB2 := H2.dblk (d := { d with s := s1 }) rfl
          have c11 := here_cell H2
          have f11 := H2.frozen 11
          have q2 : w2.cell? ⟨L.db, 2, none⟩ = some (.int .i64 d.at_) := DB2.cell 2
          have HT2 := Lib.hid ((HN1.out.drewN 1).trans HN2.out)
          have NHt := o_set (o' := { o with draft := some { d with s := s1 }, words := o.words ++ [⟨d.name, d.at_, -1, false⟩], here := d.at_ }) H2 11 (.int .i64 (d.at_ : Int)) rfl rfl
          have NHk : Lok { L with da := a', wv := wv' } { o with draft := some { d with s := s1 }, words := o.words ++ [⟨d.name, d.at_, -1, false⟩], here := d.at_ } := ⟨H2.lok.line, H2.lok.draft, H2.lok.pos⟩
          have T3 := Lib.hid (HT2.out.trans NHt)
          have H3 : OIs (w2.setCell ⟨ob, 11, none⟩ (.int .i64 d.at_)) B ob { L with da := a', wv := wv' } { o with draft := some { d with s := s1 }, words := o.words ++ [⟨d.name, d.at_, -1, false⟩], here := d.at_ } := ⟨T3.out.held, NHk⟩
          have D3a : Blk (w2.setCell ⟨ob, 11, none⟩ (.int .i64 d.at_)) L.db 96 #[.pointer (some ⟨a'.sb, 0, none⟩), .string d.name, .int .i64 d.at_] := H3.dblk (d := { d with s := s1 }) rfl
          have H3h := Lib.hid H3
          have D3 := Lib.hid D3a
          clear H2 DB2 p0 p1 p2 c10 HAd HOp HN2 HK2 HH1d HDB NHt NHk H3 D3a
          go_upto_region 11 with fail
          clear c11 f11 q2
          have HT3 := Lib.hid T3.out
          clear HT2 T3
          generalize w2.setCell ⟨ob, 11, none⟩ (.int .i64 d.at_) = w3 at *
          have Hs := Lib.hid (H3h.out.drewN 1)
          have HBs : Hid (B ≤ (w3.drewN 1).heap.size) := Nat.le_trans HB.out (show w.heap.size ≤ w3.heap.size from HT3.out.size)
          have HMem := Lib.hid (mem_form B a' s1.M s1.h s1.O w3.drew (Hs.out.wv (d := { d with s := s1 }) rfl) (Nat.lt_of_lt_of_le (Nat.lt_of_le_of_lt (Nat.zero_le _) HHa.out) HHm.out))
          have D3d := Lib.hid (D3.out.drewN 1)
          have DA0 : Hid ((d.at_ : Int) ≤ (s1.h : Int)) := Int.ofNat_le.2 (Nat.le_of_lt HHa.out)
          have HS0 : (fun W : World => W.cell? ⟨L.db, 0, none⟩ = some (.pointer (some ⟨a'.sb, 0, none⟩)) ∧ W.cell? ⟨L.db, 2, none⟩ = some (.int .i64 d.at_)) w3.drew := ⟨D3.out.cell 0, D3.out.cell 2⟩
          have HSS := Lib.hid HS0
          refine Pb.wp_region_U (fun _ => true) (fun W : World => W.cell? ⟨L.db, 0, none⟩ = some (.pointer (some ⟨a'.sb, 0, none⟩)) ∧ W.cell? ⟨L.db, 2, none⟩ = some (.int .i64 d.at_)) (by kernel_rfl) ?_
          change Pb.wpU _ _ _ _ _ _ 18 #[false, false, false, false, false, false, false, false, false, false, false, false, false, false, false, false, false, false] _ _
          refine Pb.U_take (i := 0) (oi := { dst := some 48, op := .move (.tmp 0), type := 27, pos := "outer.go:316", after := #[], guard := none }) (v := .pointer (some ⟨ob, 0, none⟩)) rfl (by kernel_rfl) (by kernel_rfl) (by kernel_rfl) (by kernel_rfl) (fun _ _ _ h => h) (Or.inl ⟨by rfl, ?_⟩) (by assumption) ?_
          · intro W hSw; (try dsimp only at hSw); go_simp
          simp only [Act.put, List.setIfInBounds_toArray, List.set_cons_zero, List.set_cons_succ]
          refine Pb.U_take (i := 1) (oi := { dst := some 49, op := .move (.tmp 3), type := 45, pos := "outer.go:316", after := #[], guard := none }) (v := .pointer (some ⟨L.db, 0, none⟩)) rfl (by kernel_rfl) (by kernel_rfl) (by kernel_rfl) (by kernel_rfl) (fun _ _ _ h => h) (Or.inl ⟨by rfl, ?_⟩) (by assumption) ?_
          · intro W hSw; (try dsimp only at hSw); go_simp
          simp only [Act.put, List.setIfInBounds_toArray, List.set_cons_zero, List.set_cons_succ]
          refine Pb.U_take (i := 2) (oi := { dst := some 50, op := .nilCheck (.tmp 49), type := 0, pos := "outer.go:316", after := #[{ on := 1, ground := .data }], guard := none }) (v := .pointer (some ⟨L.db, 0, none⟩)) rfl (by kernel_rfl) (by kernel_rfl) (by kernel_rfl) (by kernel_rfl) (fun _ _ _ h => h) (Or.inl ⟨by rfl, ?_⟩) (by assumption) ?_
          · intro W hSw; (try dsimp only at hSw); go_simp
          simp only [Act.put, List.setIfInBounds_toArray, List.set_cons_zero, List.set_cons_succ]
          refine Pb.U_take (i := 3) (oi := { dst := some 51, op := .fieldAddr 96 (.tmp 50) 0, type := 0, pos := "outer.go:316", after := #[{ on := 2, ground := .data }], guard := none }) (v := .pointer (some ⟨L.db, 0, none⟩)) rfl (by kernel_rfl) (by kernel_rfl) (by kernel_rfl) (by kernel_rfl) (fun _ _ _ h => h) (Or.inl ⟨by rfl, ?_⟩) (by assumption) ?_
          · intro W hSw; (try dsimp only at hSw); go_simp
          simp only [Act.put, List.setIfInBounds_toArray, List.set_cons_zero, List.set_cons_succ]
          refine Pb.U_take (i := 4) (oi := { dst := some 52, op := .load 94 (.tmp 51), type := 94, pos := "outer.go:316", after := #[{ on := 3, ground := .data }], guard := none }) (v := .pointer (some ⟨a'.sb, 0, none⟩)) rfl (by kernel_rfl) (by kernel_rfl) (by kernel_rfl) (by kernel_rfl) (fun _ _ _ h => h) (Or.inl ⟨by rfl, ?_⟩) (by assumption) ?_
          · intro W hSw; (try dsimp only at hSw); go_simp
          simp only [Act.put, List.setIfInBounds_toArray, List.set_cons_zero, List.set_cons_succ]
          refine Pb.U_take (i := 6) (oi := { dst := some 54, op := .move (.tmp 3), type := 45, pos := "outer.go:316", after := #[], guard := none }) (v := .pointer (some ⟨L.db, 0, none⟩)) rfl (by kernel_rfl) (by kernel_rfl) (by kernel_rfl) (by kernel_rfl) (fun _ _ _ h => h) (Or.inl ⟨by rfl, ?_⟩) (by assumption) ?_
          · intro W hSw; (try dsimp only at hSw); go_simp
          simp only [Act.put, List.setIfInBounds_toArray, List.set_cons_zero, List.set_cons_succ]
          refine Pb.U_take (i := 7) (oi := { dst := some 55, op := .nilCheck (.tmp 54), type := 0, pos := "outer.go:316", after := #[{ on := 6, ground := .data }], guard := none }) (v := .pointer (some ⟨L.db, 0, none⟩)) rfl (by kernel_rfl) (by kernel_rfl) (by kernel_rfl) (by kernel_rfl) (fun _ _ _ h => h) (Or.inl ⟨by rfl, ?_⟩) (by assumption) ?_
          · intro W hSw; (try dsimp only at hSw); go_simp
          simp only [Act.put, List.setIfInBounds_toArray, List.set_cons_zero, List.set_cons_succ]
          refine Pb.U_take (i := 8) (oi := { dst := some 56, op := .fieldAddr 96 (.tmp 55) 2, type := 0, pos := "outer.go:316", after := #[{ on := 7, ground := .data }], guard := none }) (v := .pointer (some ⟨L.db, 2, none⟩)) rfl (by kernel_rfl) (by kernel_rfl) (by kernel_rfl) (by kernel_rfl) (fun _ _ _ h => h) (Or.inl ⟨by rfl, ?_⟩) (by assumption) ?_
          · intro W hSw; (try dsimp only at hSw); go_simp
          simp only [Act.put, List.setIfInBounds_toArray, List.set_cons_zero, List.set_cons_succ]
          refine Pb.U_take (i := 9) (oi := { dst := some 57, op := .load 3 (.tmp 56), type := 3, pos := "outer.go:316", after := #[{ on := 8, ground := .data }], guard := none }) (v := .int .i64 d.at_) rfl (by kernel_rfl) (by kernel_rfl) (by kernel_rfl) (by kernel_rfl) (fun _ _ _ h => h) (Or.inl ⟨by rfl, ?_⟩) (by assumption) ?_
          · intro W hSw; (try dsimp only at hSw); go_simp
          simp only [Act.put, List.setIfInBounds_toArray, List.set_cons_zero, List.set_cons_succ]
          refine Pb.U_take (i := 10) (oi := { dst := some 58, op := .move (.tmp 3), type := 45, pos := "outer.go:316", after := #[], guard := none }) (v := .pointer (some ⟨L.db, 0, none⟩)) rfl (by kernel_rfl) (by kernel_rfl) (by kernel_rfl) (by kernel_rfl) (fun _ _ _ h => h) (Or.inl ⟨by rfl, ?_⟩) (by assumption) ?_
          · intro W hSw; (try dsimp only at hSw); go_simp
          simp only [Act.put, List.setIfInBounds_toArray, List.set_cons_zero, List.set_cons_succ]
          refine Pb.U_take (i := 11) (oi := { dst := some 59, op := .nilCheck (.tmp 58), type := 0, pos := "outer.go:316", after := #[{ on := 10, ground := .data }], guard := none }) (v := .pointer (some ⟨L.db, 0, none⟩)) rfl (by kernel_rfl) (by kernel_rfl) (by kernel_rfl) (by kernel_rfl) (fun _ _ _ h => h) (Or.inl ⟨by rfl, ?_⟩) (by assumption) ?_
          · intro W hSw; (try dsimp only at hSw); go_simp
          simp only [Act.put, List.setIfInBounds_toArray, List.set_cons_zero, List.set_cons_succ]
          refine Pb.U_take (i := 12) (oi := { dst := some 60, op := .fieldAddr 96 (.tmp 59) 0, type := 0, pos := "outer.go:316", after := #[{ on := 11, ground := .data }], guard := none }) (v := .pointer (some ⟨L.db, 0, none⟩)) rfl (by kernel_rfl) (by kernel_rfl) (by kernel_rfl) (by kernel_rfl) (fun _ _ _ h => h) (Or.inl ⟨by rfl, ?_⟩) (by assumption) ?_
          · intro W hSw; (try dsimp only at hSw); go_simp
          simp only [Act.put, List.setIfInBounds_toArray, List.set_cons_zero, List.set_cons_succ]
          refine Pb.U_take (i := 13) (oi := { dst := some 61, op := .load 94 (.tmp 60), type := 94, pos := "outer.go:316", after := #[{ on := 12, ground := .data }], guard := none }) (v := .pointer (some ⟨a'.sb, 0, none⟩)) rfl (by kernel_rfl) (by kernel_rfl) (by kernel_rfl) (by kernel_rfl) (fun _ _ _ h => h) (Or.inl ⟨by rfl, ?_⟩) (by assumption) ?_
          · intro W hSw; (try dsimp only at hSw); go_simp
          simp only [Act.put, List.setIfInBounds_toArray, List.set_cons_zero, List.set_cons_succ]
          clear HS0
          refine Pb.U_ready (rs := [5]) (by kernel_rfl) (by simp) ?_
          refine Pb.AllReadyU.cons rfl (fun K hK => ?_) Pb.AllReadyU.nil
          go_simp
          refine HMem.out.mono ?_
          rintro e w4 ⟨g, gc, rfl, R4, hg4, k4⟩
          have H4 := Lib.hid (Hs.out.next (Turns.of_below Hs.out.held k4 (Nat.le_refl _)) Hs.out.lok)
          have S4 := Lib.hid (show (fun W : World => W.cell? ⟨L.db, 0, none⟩ = some (.pointer (some ⟨a'.sb, 0, none⟩)) ∧ W.cell? ⟨L.db, 2, none⟩ = some (.int .i64 d.at_)) w4 from ⟨(D3d.out.below k4 D3d.out.lt).cell 0, (D3d.out.below k4 D3d.out.lt).cell 2⟩)
          have R4h := Lib.hid R4
          have K4 := Lib.hid k4
          have G4 := Lib.hid hg4
          clear R4 k4 hg4 HMem HSS
          refine hK.out _ _ (fun _ => S4.out) ?_
          clear hK K
          simp only [Act.put, List.setIfInBounds_toArray, List.set_cons_zero, List.set_cons_succ]
          refine Pb.U_ready (rs := [14]) (by kernel_rfl) (by simp) ?_
          refine Pb.AllReadyU.cons rfl (fun K hK => ?_) Pb.AllReadyU.nil
          go_simp
          refine (Wv.here_any B a' s1.M s1.h s1.O w4 (H4.out.wv (d := { d with s := s1 }) rfl)).mono ?_
          rintro e w5 ⟨rfl, rfl⟩
          refine hK.out _ _ (fun _ => S4.out) ?_
          clear hK K
          simp only [Act.put, List.setIfInBounds_toArray, List.set_cons_zero, List.set_cons_succ]
          have da0 := DA0.out
          have hmg := G4.out
          have hgc : (s1.h : Int) ≤ (gc : Int) := Int.ofNat_le.2 (Nat.le_trans HHm.out G4.out)
          have hz0 : (0 : Int) ≤ (d.at_ : Int) := Int.natCast_nonneg _
          have hcne : ¬ gc = d.at_ := fun e => absurd (Nat.lt_of_lt_of_le HHa.out (Nat.le_trans HHm.out G4.out)) (by rw [e]; exact Nat.lt_irrefl _)
          refine Pb.U_take (i := 15) (oi := { dst := some 63, op := .slice 31 (.tmp 53) (some (.tmp 57)) (some (.tmp 62)) none, type := 31, pos := "outer.go:316", after := #[{ on := 5, ground := .data }, { on := 9, ground := .data }, { on := 14, ground := .data }], guard := none }) (v := .slice (some ⟨g, d.at_, none⟩) (s1.h - d.at_) (gc - d.at_)) rfl (by kernel_rfl) (by kernel_rfl) (by kernel_rfl) (by kernel_rfl) (fun _ _ _ h => h) (Or.inl ⟨by rfl, ?_⟩) (by assumption) ?_
          · intro W hSw; (try dsimp only at hSw); go_simp
          simp only [Act.put, List.setIfInBounds_toArray, List.set_cons_zero, List.set_cons_succ]
          refine Pb.U_ready (rs := [16]) (by kernel_rfl) (by simp) ?_
          refine Pb.AllReadyU.cons rfl (fun K hK => ?_) Pb.AllReadyU.nil
          go_simp
          refine (clone_piece g gc s1.M d.at_ s1.h HHa.out HHm.out HM5.out w3.drew.heap.size w4 R4h.out).mono ?_
          rintro e w5 ⟨lb, lc, rfl, C5, hl5, k5⟩
          have H5 := Lib.hid (H4.out.next (Turns.of_below H4.out.held k5 (Nat.le_refl _)) H4.out.lok)
          have D4 := Lib.hid (D3d.out.below K4.out D3d.out.lt)
          have D5 := Lib.hid (D4.out.below k5 D4.out.lt)
          have T5 := Lib.hid ((Turns.of_below Hs.out.held K4.out (Nat.le_refl _)).trans (Turns.of_below H4.out.held k5 (Nat.le_refl _)))
          have B5 := Lib.hid (Nat.le_trans HBs.out T5.out.size)
          have HLay := Lib.hid (lay_any B ob { L with da := a', wv := wv' } { o with draft := some { d with s := s1 }, words := o.words ++ [⟨d.name, d.at_, -1, false⟩], here := d.at_ } w5 H5.out B5.out ((s1.M.take s1.h).drop d.at_) (s1.h - d.at_) HCl.out lb lc C5 HCp.out HCr0.out HM5o0.out HLd0.out)
          have S5 := Lib.hid (show (fun W : World => W.cell? ⟨L.db, 0, none⟩ = some (.pointer (some ⟨a'.sb, 0, none⟩)) ∧ W.cell? ⟨L.db, 2, none⟩ = some (.int .i64 d.at_)) w5 from ⟨D5.out.cell 0, D5.out.cell 2⟩)
          clear C5 hl5 k5 S4 R4h K4
          refine hK.out _ _ (fun _ => S5.out) ?_
          clear hK K
          simp only [Act.put, List.setIfInBounds_toArray, List.set_cons_zero, List.set_cons_succ]
          refine Pb.U_ready (rs := [17]) (by kernel_rfl) (by simp) ?_
          refine Pb.AllReadyU.cons rfl (fun K hK => ?_) Pb.AllReadyU.nil
          go_simp
          refine HLay.out.mono ?_
          rintro e w6 ⟨rfl, L6, N6, K6, hda, hdb⟩
          have H6 := Lib.hid (H5.out.next N6 K6)
          have D6 := Lib.hid (H6.out.dblk (d := { d with s := s1 }) rfl)
          rw [hda, hdb] at D6
          have T6 := Lib.hid (T5.out.trans N6)
          have S6 := Lib.hid (show (fun W : World => W.cell? ⟨L.db, 0, none⟩ = some (.pointer (some ⟨a'.sb, 0, none⟩)) ∧ W.cell? ⟨L.db, 2, none⟩ = some (.int .i64 d.at_)) w6 from ⟨D6.out.cell 0, D6.out.cell 2⟩)
          clear N6 K6 hda hdb HLay S5 D4 D5 B5 H5 T5
          refine hK.out _ _ (fun _ => S6.out) ?_
          clear hK K
          simp only [Act.put, List.setIfInBounds_toArray, List.set_cons_zero, List.set_cons_succ]
          refine Pb.U_done (by kernel_rfl) ?_ _
          go_simp
          have c14 : w6.cell? ⟨ob, 14, none⟩ = some (.pointer (some ⟨L6.db, 0, none⟩)) := draft_cell H6.out (d := { d with s := s1 }) rfl
          have f14 := H6.out.frozen 14
          have NO := Lib.hid (draft_off H6.out)
          have TT := Lib.hid ((HT3.out.drewN 1).trans T6.out)
          clear H6 D6 T6 S6
          go_wp2_with fail
          go_ret
          rw [HF3.out]
          exact ⟨rfl, Nx.step TT.out NO.out⟩
  · have HF1 := Lib.hid (HF.out.trans (if_pos hc1))
    have hcd : decide (c1 = 0) = false := by simpa using hc1
    have hcb : (c1 == 0) = false := by simpa using hc1
    go_wp2_with fail
    go_ret
    rw [HF1.out]
    exact ⟨rfl, _, HN1.out, HK1.out⟩
end Go.Proofs.YtompdfpjmdnhoabGreatDoor.Ou
