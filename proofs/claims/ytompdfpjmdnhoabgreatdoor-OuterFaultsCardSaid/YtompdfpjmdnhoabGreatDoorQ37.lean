/-
  Lemmas on the way, for every input that they name: OpF, OpG, OpH, OpI, OqP.
-/
import Derived.Laws.Concat
import Derived.Test.YtompdfpjmdnhoabGreatDoorQ19
import Derived.Test.YtompdfpjmdnhoabGreatDoorQ35
import Derived.Test.YtompdfpjmdnhoabGreatDoorQ36
set_option linter.unusedVariables false
set_option linter.unusedSimpArgs false
set_option linter.deprecated false
namespace Go.Proofs.YtompdfpjmdnhoabGreatDoor.Ou
open Go.RowKit Go.Proofs.YtompdfpjmdnhoabGreatDoor.Rs Go.Proofs.YtompdfpjmdnhoabGreatDoor.Src Go.Proofs.YtompdfpjmdnhoabGreatDoor.Ft
theorem ends_kept : ∀ (n f : Nat) (o : OS) (q : Int × Nat × OS) (k : Nat), Ends n f o q → Wo o → Lim k o → Wo q.2.2 ∧ Lim k q.2.2
  | 0, _, _, _, _, h, _, _ => h.elim
  | n + 1, f, o, q, k, h, W, K => by
    have W2 := (go_wo o W).1
    have K2 := lim_go W K
    rcases h with ⟨_, rfl⟩ | ⟨_, h⟩
    · exact ⟨W2, K2⟩
    · exact ends_kept n _ _ q k h (run_wo f _ W2) (lim_m K2 _)
structure Ahead (w0 w : World) : Prop where
  hg : HandleIs w0
  tb : Dg.Tabs w0
  lo : w0.heap.size ≤ w.heap.size
  below : Below w0.heap.size w0 w
theorem Ahead.next {w0 w w' : World} (A : Ahead w0 w) (k : Below w.heap.size w w') : Ahead w0 w' := ⟨A.hg, A.tb, Nat.le_trans A.lo k.size, A.below.trans (k.mono A.lo)⟩
set_option maxHeartbeats 8000000 in
set_option maxRecDepth 100000 in
theorem play_any (w0 : World) (ls : List ByteArray) (c : Int) (o : OS) (hP : Lines ls 0 (new Mc.opName 800 inp0) (c, o)) (hn : ls.length ≤ 5) (lb cap : Nat) (w : World) (A : Ahead w0 w) (n : Nat) (hnn : n = ls.length)
    (hL : ∀ j (t : ByteArray), ls[j]? = some t → w.cell? ⟨lb, j, none⟩ = some (.string t)) (hlb : lb < w.heap.size) (hcap : n ≤ cap) :
    Calls Tryz.prog 15 #[.slice (some ⟨lb, 0, none⟩) n cap] w fun e w' => e = .returned (.tuple #[.string o.m.out, .int .i64 c]) ∧ Below w.heap.size w w' := by
  have HNw := Lib.hid (oNew_any 800 (by decide) (by decide) inp0 w)
  have HP := Lib.hid hP
  have HA := Lib.hid A
  have HL := Lib.hid hL
  have HNN := Lib.hid hnn
  have HW0 := Lib.hid (new_wo 800 (by decide) inp0 (by decide))
  have HL0 : Hid (Lim 1 (new Mc.opName 800 inp0)) := ⟨Nat.zero_le _, (fun d e => by cases e), Nat.le_refl _, by decide⟩
  have HN5 := Lib.hid hn
  have HCp := Lib.hid hcap
  have HLb := Lib.hid hlb
  have HLn : Hid ((new Mc.opName 800 inp0).line = none) := rfl
  have e800 : ((800 : Nat) : Int) = 800 := rfl
  rw [e800] at HNw
  clear hP A hL hn e800 hcap hlb hnn
  generalize new Mc.opName 800 inp0 = o0 at *
  unfold inp0 at HNw
  go_enter Tryz.func15, Tryz.ntmps15
  go_wp2_with fail
  refine HNw.out.mono ?_
  rintro e w1 ⟨ob, L, rfl, H1, k1⟩
  have HI1 := Lib.hid H1
  have HE1 : Hid (Env w0 w.heap.size w1) := ⟨HA.out.hg, HA.out.tb, HA.out.lo, HA.out.below.trans (k1.mono HA.out.lo), k1.size⟩
  have HK1 := Lib.hid k1
  clear H1 k1 HNw
  go_wp2_with fail
  go_loopg [5, 6] n (fun gg v5 v6 wr => ∃ (i : Nat) (oj : OS) (Lj : Lo) (cj : Int), gg = n - i ∧ v5 = .int .i64 cj ∧ v6 = .int .i64 i ∧ Hid (i ≤ n) ∧ Hid (OIs wr w.heap.size ob Lj oj) ∧ Hid (Env w0 w.heap.size wr) ∧ Hid (Below w.heap.size w wr) ∧ Hid (Wo oj) ∧ Hid (Lim (i + 1) oj) ∧ Hid (oj.line = none) ∧ Hid (Lines (ls.drop i) cj oj (c, o)))
  case atStart => exact ⟨0, o0, L, 0, rfl, rfl, rfl, Nat.zero_le _, HI1, HE1, HK1, HW0, HL0, HLn, HP⟩
  case round =>
    obtain ⟨i, oj, Lj, cj, hg, rfl, rfl, Hi, HI, HE, HK, HW, HM, HLi, HPj⟩ := hrel
    have Hg := Lib.hid hg
    clear hg HI1 HE1 HK1 HW0 HL0 HLn HP
    by_cases hlt : i < n
    · have hls : i < ls.length := by rw [← HNN.out]; exact hlt
      obtain ⟨t, ht⟩ : ∃ t, ls[i]? = some t := ⟨_, List.getElem?_eq_getElem hls⟩
      have ed : ls.drop i = t :: ls.drop (i + 1) := by
        rw [List.drop_eq_getElem_cons hls]
        rw [List.getElem?_eq_getElem hls] at ht
        injection ht with ht
        rw [ht]
      have hP2 := HPj.out
      rw [ed] at hP2
      obtain ⟨h600, m, q, hE, hq, hP3⟩ := hP2
      have x0 : wr.cell? ⟨lb, i, none⟩ = some (.string t) := (World.cell?_of_block (HK.out.block lb HLb.out)).trans (HL.out i t ht)
      have HLine := Lib.hid (line_any w0 (i + 1) w.heap.size ob Lj oj wr HE.out HI.out HW.out HM.out (by have := HN5.out; rw [← HNN.out] at this; omega) HLi.out t h600 3000 (by decide) m q hE)
      have hkept := ends_kept m 3000 (begin_ oj t) q (i + 1 + 1) hE ((HW.out.line' (some t.data.toList) fun x e => by injection e with e; subst e; exact h600).last' _) (lim_begin HM.out HLi.out t h600 (by have := HN5.out; rw [← HNN.out] at this; omega))
      have HW2 := Lib.hid hkept.1
      have HM2 := Lib.hid hkept.2
      have HQ := Lib.hid hq
      have HP3 := Lib.hid hP3
      have hi0 : (0 : Int) ≤ (i : Int) := Int.natCast_nonneg _
      have hii : (i : Int) < (n : Int) := lt_int hlt
      have hid2 : decide (i < n) = true := by simpa using hlt
      have Hlt := Lib.hid hlt
      have HWi := Lib.hid (wrap_inc (k := i) (by have := HN5.out; rw [← HNN.out] at this; omega))
      have e3 : ((3000 : Nat) : Int) = 3000 := rfl
      rw [e3] at HLine
      clear ht ed h600 hE hq hP3 hkept hls hlt HPj e3
      go_wp2_with fail
      refine HLine.out.mono ?_
      rintro e w2 ⟨rfl, L2, N2, K2⟩
      have HI2 := Lib.hid (HI.out.next N2 K2)
      have HE2 := Lib.hid (HE.out.turns HI.out.held N2)
      have HK2 := Lib.hid (HK.out.trans (N2.below HE.out.hB HI.out.held))
      clear N2 K2 HLine x0
      go_wp2_with fail
      rw [HWi.out]
      go_roundg (n - (i + 1))
      case rel => exact ⟨i + 1, q.2.2, L2, q.1, rfl, rfl, rfl, Hlt.out, HI2, HE2, HK2, HW2, HM2, HQ, HP3⟩
      case measure => exact sub_lt Hg.out Hlt.out
    · have hin : i = n := le_of_not Hi.out hlt
      subst hin
      have hP2 := HPj.out
      rw [HNN.out, List.drop_length] at hP2
      have hP3 : (c, o) = (cj, oj) := hP2
      injection hP3 with hc ho
      subst hc ho
      have HS := Lib.hid (state_any w.heap.size ob Lj o wr HI.out HW.out)
      have HKl := HK
      clear hP2 HPj hlt
      go_wp2_with fail
      refine HS.out.mono ?_
      rintro e w2 ⟨sv, bv, mv, rfl, H2, k2⟩
      have HK2 := Lib.hid (HKl.out.trans (k2.mono HKl.out.size))
      obtain ⟨A1, b1, rfl⟩ := (H2.row (e := 3) (sz := 1) (v := sv) (n := o.m.stack.length) (xs := ints o.m.stack) (by simp [Mc.stRows])).slice
      obtain ⟨A2, b2, rfl⟩ := (H2.row (e := 3) (sz := 1) (v := bv) (n := o.m.back.length) (xs := ints o.m.back) (by simp [Mc.stRows])).slice
      obtain ⟨A3, b3, rfl⟩ := (H2.row (e := 3) (sz := 1) (v := mv) (n := o.m.mem.length) (xs := ints o.m.mem) (by simp [Mc.stRows])).slice
      clear H2 k2 HS
      unfold Mc.sCells
      have fe : ∀ W, (Instr.field 33 (.agg #[.int .i64 o.m.ip, .int .i64 o.m.handler, .slice A1 o.m.stack.length b1, .slice A2 o.m.back.length b2, .slice A3 o.m.mem.length b3, .string o.m.out, .string o.m.inp, .int .i64 o.m.read, .int .i64 o.m.status, .int .i64 o.m.code]) 5).run Tryz.prog W = .ok (.string o.m.out) W := fun W => by kernel_rfl
      go_wp2_with fail
      go_ret2
      exact ⟨rfl, HK2.out⟩
theorem num_any (v : Int) (hv : Mc.In v) (w : World) : Calls Tryz.prog 9 #[.int .i64 v] w fun e w' => e = .returned (.string ⟨(Dg.putV v 10).toArray⟩) ∧ w = w' := by
  have HP := Lib.hid (Dg.rput_any v 10 hv.1 hv.2 w)
  go_enter Tryz.func9, Tryz.ntmps9
  go_wp2_with fail
  refine HP.out.mono ?_
  rintro e w2 ⟨rfl, rfl⟩
  go_wp2_with fail
  go_ret
  exact ⟨rfl, rfl⟩
theorem tells_any (w0 : World) (ls : List ByteArray) (o : OS) (hP : Lines ls 0 (new Mc.opName 800 inp0) (0, o)) (hn : ls.length ≤ 5) (lb cap : Nat) (w : World) (A : Ahead w0 w) (n : Nat) (hnn : n = ls.length)
    (hL : ∀ j (t : ByteArray), ls[j]? = some t → w.cell? ⟨lb, j, none⟩ = some (.string t)) (hlb : lb < w.heap.size) (hcap : n ≤ cap) :
    Calls Tryz.prog 8 #[.string o.m.out, .slice (some ⟨lb, 0, none⟩) n cap] w fun e w' => e = .returned (.bool true) ∧ Below w.heap.size w w' := by
  have HP := Lib.hid (play_any w0 ls 0 o hP hn lb cap w A n hnn hL hlb hcap)
  clear hP hn A hnn hL hlb hcap
  generalize o.m.out = out at *
  go_enter Tryz.func8, Tryz.ntmps8
  go_wp2_with fail
  refine HP.out.mono ?_
  rintro e w2 ⟨rfl, k⟩
  have HK := Lib.hid k
  clear k HP
  go_wp2_with fail
  go_ret
  exact ⟨rfl, HK.out⟩
end Go.Proofs.YtompdfpjmdnhoabGreatDoor.Ou
namespace Go.Proofs.YtompdfpjmdnhoabGreatDoor.Ou
open Go.RowKit Go.Proofs.YtompdfpjmdnhoabGreatDoor.Rs Go.Proofs.YtompdfpjmdnhoabGreatDoor.Src Go.Proofs.YtompdfpjmdnhoabGreatDoor.Ft
theorem tells1 (w0 : World) (tx want : ByteArray) (toks : List Tk) (out : List UInt8) (P : Plays [toks] 0 out) (ht : tx = ⟨(flat toks).toArray⟩) (hw : want = ⟨out.toArray⟩) (w : World) (A : Ahead w0 w) :
    Calls Tryz.prog 8 #[.string want, .slice (some ⟨w.heap.size, 0, none⟩) 1 1] (w.alloc (.cells #[.string tx] 9)) fun e w' => e = .returned (.bool true) ∧ Below w.heap.size w w' := by
  obtain ⟨_, o, hP, ho⟩ := P
  have ew : want = o.m.out := by rw [hw, ho]
  have k0 := (Below.refl w.heap.size w).alloc (Nat.le_refl _) (.cells #[.string tx] 9)
  rw [ew]
  refine (tells_any w0 [tx] o (by rw [ht]; exact hP) (by simp) w.heap.size 1 _ (A.next k0) 1 rfl (fun j t hj => ?_) (by simp) (Nat.le_refl _)).mono ?_
  · cases j with
    | zero =>
      injection hj with hj
      subst hj
      exact (Blk.new w 9 #[.string tx]).cell 0
    | succ j => simp at hj
  · rintro e w' ⟨he, k⟩
    exact ⟨he, k0.trans (k.mono (by simp))⟩
theorem tells2 (w0 : World) (tx ty want : ByteArray) (ta tb : List Tk) (out : List UInt8) (P : Plays [ta, tb] 0 out) (ht : tx = ⟨(flat ta).toArray⟩) (hu : ty = ⟨(flat tb).toArray⟩) (hw : want = ⟨out.toArray⟩) (w : World) (A : Ahead w0 w) :
    Calls Tryz.prog 8 #[.string want, .slice (some ⟨w.heap.size, 0, none⟩) 2 2] (w.alloc (.cells #[.string tx, .string ty] 9)) fun e w' => e = .returned (.bool true) ∧ Below w.heap.size w w' := by
  obtain ⟨_, o, hP, ho⟩ := P
  have ew : want = o.m.out := by rw [hw, ho]
  have k0 := (Below.refl w.heap.size w).alloc (Nat.le_refl _) (.cells #[.string tx, .string ty] 9)
  rw [ew]
  refine (tells_any w0 [tx, ty] o (by rw [ht, hu]; exact hP) (by simp) w.heap.size 2 _ (A.next k0) 2 rfl (fun j t hj => ?_) (by simp) (Nat.le_refl _)).mono ?_
  · have hb := Blk.new w 9 #[.string tx, .string ty]
    match j, hj with
    | 0, hj => injection hj with hj; subst hj; exact hb.cell 0
    | 1, hj => injection hj with hj; subst hj; exact hb.cell 1
    | j + 2, hj => simp at hj
  · rintro e w' ⟨he, k⟩
    exact ⟨he, k0.trans (k.mono (by simp))⟩
def aliveA : List Tk := bs [58, 32, 115, 113, 32, 100, 117, 112, 32, 42, 32, 59, 32, 51, 32, 115, 113, 32, 46]
def aliveB : List Tk := bs [110, 111, 119, 104, 101, 114, 101]
theorem alive_data : ∃ q1 q2 : Int × Nat × OS, Ends 60 99 (begin_ (new Mc.opName 400 ByteArray.empty) ⟨(flat aliveA).toArray⟩) q1 ∧ q1.1 = 0 ∧ q1.2.1 = 92 ∧ q1.2.2.line = none ∧ Ends 60 9 (begin_ q1.2.2 ⟨(flat aliveB).toArray⟩) q2 ∧ q2.1 = -13 ∧ q2.2.2.m.out = ⟨(Dg.putV 9 10 ++ [32]).toArray⟩ ∧ q2.2.2.here = 195 := by
  have ok0 : OOk (begT 400 ByteArray.empty) := by
    refine ⟨?_, (fun l e => by cases e), Nat.le_refl _, Nat.zero_le _⟩
    rw [begT_real]
    exact new_wo 400 (by decide) ByteArray.empty (by decide)
  have h1 : (Ou.lineT 60 99 (startT (begT 400 ByteArray.empty) aliveA [])).map (fun q => (q.1, q.2.1, q.2.2.line.isNone, q.2.2.t.log)) = some (0, 92, true, []) := by kernel_rfl
  have h2 : (Ou.lineT 60 99 (startT (begT 400 ByteArray.empty) aliveA [])).bind (fun q => (Ou.lineT 60 9 (startT q.2.2 aliveB [])).map fun r => (r.1, r.2.2.t.out, r.2.2.o.here, r.2.2.t.log)) = some (-13, [Dg.putV 9 10 ++ [32]], 195, []) := by kernel_rfl
  cases hq : Ou.lineT 60 99 (startT (begT 400 ByteArray.empty) aliveA []) with
  | none => rw [hq] at h1; cases h1
  | some q =>
    rw [hq] at h1 h2
    simp only [Option.map_some, Option.some.injEq, Prod.mk.injEq, Option.bind_some] at h1 h2
    obtain ⟨a1, a2, a3, a4⟩ := h1
    cases hr : Ou.lineT 60 9 (startT q.2.2 aliveB []) with
    | none => rw [hr] at h2; cases h2
    | some r =>
      rw [hr] at h2
      simp only [Option.map_some, Option.some.injEq, Prod.mk.injEq] at h2
      obtain ⟨b1, b2, b3, b4⟩ := h2
      have okA : ∀ t ∈ aliveA, t.Ok := fun t ht => by obtain ⟨b, _, rfl⟩ := List.mem_map.1 ht; trivial
      have okB : ∀ t ∈ aliveB, t.Ok := fun t ht => by obtain ⟨b, _, rfl⟩ := List.mem_map.1 ht; trivial
      obtain ⟨e1, e2⟩ := lineT_fits 60 99 _ _ hq (startT_ok ok0 aliveA [] okA (by decide)) (by rw [a4]; exact fun p hp => by cases hp)
      obtain ⟨f1, f2⟩ := lineT_fits 60 9 _ _ hr (startT_ok e2 aliveB [] okB (by decide)) (by rw [b4]; exact fun p hp => by cases hp)
      refine ⟨_, _, e1, a1, a2, ?_, f1, b1, ?_, b3⟩
      · show q.2.2.line.map flat = none
        cases hk : q.2.2.line with
        | none => rfl
        | some l => rw [hk] at a3; cases a3
      · show (⟨r.2.2.t.out.flatten.toArray⟩ : ByteArray) = _
        rw [b2]
        simp
end Go.Proofs.YtompdfpjmdnhoabGreatDoor.Ou
namespace Go.Proofs.YtompdfpjmdnhoabGreatDoor.Ou
open Go.RowKit Go.Proofs.YtompdfpjmdnhoabGreatDoor.Rs Go.Proofs.YtompdfpjmdnhoabGreatDoor.Src Go.Proofs.YtompdfpjmdnhoabGreatDoor.Ft
set_option maxHeartbeats 8000000 in
set_option maxRecDepth 100000 in
theorem alive_any (w0 w : World) (A : Ahead w0 w) : Calls Tryz.prog 7 #[] w fun e w' => e = .returned (.bool true) ∧ Below w.heap.size w w' := by
  obtain ⟨q1, q2, E1, h1, h2, h3, E2, h4, h5, h6⟩ := alive_data
  have HNw := Lib.hid (oNew_any 400 (by decide) (by decide) ByteArray.empty w)
  have HW0 := Lib.hid (new_wo 400 (by decide) ByteArray.empty (by decide))
  have HL0 : Hid (Lim 1 (new Mc.opName 400 ByteArray.empty)) := ⟨Nat.zero_le _, (fun d e => by cases e), Nat.le_refl _, by decide⟩
  have HLn : Hid ((new Mc.opName 400 ByteArray.empty).line = none) := rfl
  have e400 : ((400 : Nat) : Int) = 400 := rfl
  rw [e400] at HNw
  have ea : (⟨(flat aliveA).toArray⟩ : ByteArray) = ⟨#[58, 32, 115, 113, 32, 100, 117, 112, 32, 42, 32, 59, 32, 51, 32, 115, 113, 32, 46]⟩ := rfl
  have eb : (⟨(flat aliveB).toArray⟩ : ByteArray) = ⟨#[110, 111, 119, 104, 101, 114, 101]⟩ := rfl
  have e9 : (⟨(Dg.putV 9 10 ++ [32]).toArray⟩ : ByteArray) = ⟨#[57, 32]⟩ := by
    have : Dg.putV 9 10 = [57] := by
      unfold Dg.putV
      rw [if_neg (by omega), if_neg (by omega)]
      show [] ++ Dg.putL 10 9 = [57]
      rw [Dg.putL_small 10 9 (by omega)]
      rfl
    rw [this]
    rfl
  rw [ea] at E1
  rw [eb] at E2
  rw [e9] at h5
  have HE1 := Lib.hid E1
  have HE2 := Lib.hid E2
  have Hk1 := Lib.hid (fun W K => ends_kept 60 99 (begin_ (new Mc.opName 400 ByteArray.empty) ⟨#[58, 32, 115, 113, 32, 100, 117, 112, 32, 42, 32, 59, 32, 51, 32, 115, 113, 32, 46]⟩) q1 2 E1 W K)
  have Hk2 := Lib.hid (fun W K => ends_kept 60 9 (begin_ q1.2.2 ⟨#[110, 111, 119, 104, 101, 114, 101]⟩) q2 3 E2 W K)
  have HA := Lib.hid A
  have G3 := Lib.hid h3
  obtain ⟨c1, f1, o1⟩ := q1
  obtain ⟨c2, f2, o2⟩ := q2
  dsimp only at h1 h2 h3 h4 h5 h6 HE1 HE2 Hk1 Hk2 G3
  subst h1 h2 h4
  have H5 := Lib.hid h5
  have H6 := Lib.hid h6
  clear E1 E2 h3 h5 h6 ea eb e9 A e400
  generalize new Mc.opName 400 ByteArray.empty = o0 at *
  have ez : (ByteArray.empty : ByteArray) = ⟨#[]⟩ := rfl
  rw [ez] at HNw
  clear ez
  go_enter Tryz.func7, Tryz.ntmps7
  go_wp2_with fail
  refine HNw.out.mono ?_
  rintro e w1 ⟨ob, L, rfl, I1, k1⟩
  have HI1 := Lib.hid I1
  have HV1 : Hid (Env w0 w.heap.size w1) := ⟨HA.out.hg, HA.out.tb, HA.out.lo, HA.out.below.trans (k1.mono HA.out.lo), k1.size⟩
  have HK1 := Lib.hid k1
  have HLine := Lib.hid (line_any w0 1 w.heap.size ob L o0 w1 HV1.out I1 HW0.out HL0.out (by decide) HLn.out ⟨#[58, 32, 115, 113, 32, 100, 117, 112, 32, 42, 32, 59, 32, 51, 32, 115, 113, 32, 46]⟩ (by decide) 99 (by decide) 60 _ HE1.out)
  have e99 : ((99 : Nat) : Int) = 99 := rfl
  have e92 : ((92 : Nat) : Int) = 92 := rfl
  rw [e99] at HLine
  dsimp only at HLine
  rw [e92] at HLine
  have HB1 := Lib.hid (Hk1.out ((HW0.out.line' (some _) fun x e => by injection e with e; subst e; exact (by decide)).last' _) (lim_begin HL0.out HLn.out _ (by decide) (by decide)))
  clear I1 k1 HNw e99 e92 Hk1
  go_wp2_with fail
  refine HLine.out.mono ?_
  rintro e w2 ⟨rfl, L2, N2, K2⟩
  have HI2 := Lib.hid (HI1.out.next N2 K2)
  have HV2 := Lib.hid (HV1.out.turns HI1.out.held N2)
  have HK2 := Lib.hid (HK1.out.trans (N2.below HV1.out.hB HI1.out.held))
  have HLine2 := Lib.hid (line_any w0 2 w.heap.size ob L2 o1 w2 HV2.out HI2.out HB1.out.1 HB1.out.2 (by decide) G3.out ⟨#[110, 111, 119, 104, 101, 114, 101]⟩ (by decide) 9 (by decide) 60 _ HE2.out)
  have e99 : ((9 : Nat) : Int) = 9 := rfl
  rw [e99] at HLine2
  dsimp only at HLine2
  have HB2 := Lib.hid (Hk2.out ((HB1.out.1.line' (some _) fun x e => by injection e with e; subst e; exact (by decide)).last' _) (lim_begin HB1.out.2 G3.out _ (by decide) (by decide)))
  clear N2 K2 HLine e99 Hk2
  go_wp2_with fail
  refine HLine2.out.mono ?_
  rintro e w3 ⟨rfl, L3, N3, K3⟩
  have HI3 := Lib.hid (HI2.out.next N3 K3)
  have HV3 := Lib.hid (HV2.out.turns HI2.out.held N3)
  have HK3 := Lib.hid (HK2.out.trans (N3.below HV2.out.hB HI2.out.held))
  have HS := Lib.hid (state_any w.heap.size ob L3 o2 w3 HI3.out HB2.out.1)
  clear N3 K3 HLine2
  go_wp2_with fail
  refine HS.out.mono ?_
  rintro e w4 ⟨sv, bv, mv, rfl, H2, k4⟩
  have hI4 : OIs w4 w.heap.size ob L3 o2 := ⟨(Turns.of_below HI3.out.held k4 (Nat.le_refl _)).held, HI3.out.lok⟩
  have HK4 := Lib.hid (HK3.out.trans (k4.mono HK3.out.size))
  have HHr := Lib.hid (oHere_any w.heap.size ob L3 o2 w4 hI4)
  rw [H6.out] at HHr
  have e195 : ((195 : Nat) : Int) = 195 := rfl
  rw [e195] at HHr
  obtain ⟨A1, b1, rfl⟩ := (H2.row (e := 3) (sz := 1) (v := sv) (n := o2.m.stack.length) (xs := ints o2.m.stack) (by simp [Mc.stRows])).slice
  obtain ⟨A2, b2, rfl⟩ := (H2.row (e := 3) (sz := 1) (v := bv) (n := o2.m.back.length) (xs := ints o2.m.back) (by simp [Mc.stRows])).slice
  obtain ⟨A3, b3, rfl⟩ := (H2.row (e := 3) (sz := 1) (v := mv) (n := o2.m.mem.length) (xs := ints o2.m.mem) (by simp [Mc.stRows])).slice
  unfold Mc.sCells
  rw [H5.out]
  have fe : ∀ W, (Instr.field 33 (.agg #[.int .i64 o2.m.ip, .int .i64 o2.m.handler, .slice A1 o2.m.stack.length b1, .slice A2 o2.m.back.length b2, .slice A3 o2.m.mem.length b3, .string ⟨#[57, 32]⟩, .string o2.m.inp, .int .i64 o2.m.read, .int .i64 o2.m.status, .int .i64 o2.m.code]) 5).run Tryz.prog W = .ok (.string ⟨#[57, 32]⟩) W := fun W => by kernel_rfl
  clear hI4 k4 H2 HS e195
  go_wp2_with fail
  refine HHr.out.mono ?_
  rintro e w5 ⟨rfl, rfl⟩
  go_wp2_with fail
  go_ret
  exact ⟨rfl, HK4.out⟩
end Go.Proofs.YtompdfpjmdnhoabGreatDoor.Ou
namespace Go.Proofs.YtompdfpjmdnhoabGreatDoor.Ou
open Go.RowKit Go.Proofs.YtompdfpjmdnhoabGreatDoor.Rs Go.Proofs.YtompdfpjmdnhoabGreatDoor.Src Go.Proofs.YtompdfpjmdnhoabGreatDoor.Ft
theorem str_join (a b : ByteArray) (la lb : List UInt8) (ha : a = ⟨la.toArray⟩) (hb : b = ⟨lb.toArray⟩) : a ++ b = ⟨(la ++ lb).toArray⟩ := by
  rw [ha, hb]
  exact ByteArray.mk_append_mk la lb
theorem num_some (v b : Int) (hv : Mc.In v) (hb : 2 ≤ b ∧ b ≤ 36) : ∃ N : ByteArray, N = ⟨(Dg.putV v b).toArray⟩ ∧ N.size ≤ 65 :=
  ⟨_, rfl, putV_len2 v b hv hb⟩
theorem wr0 {a : Int} (h : Mc.In a) : Mc.wr (0 + a) = a := by
  unfold Mc.In at h
  unfold Mc.wr wrap64
  omega
theorem put0 : Dg.putV 0 10 = [48] := by
  unfold Dg.putV
  rw [if_neg (by omega), if_neg (by omega)]
  show [] ++ Dg.putL 10 0 = [48]
  rw [Dg.putL_small 10 0 (by omega)]
  rfl
theorem put65 : Dg.putV 65 10 = [54, 53] := by
  unfold Dg.putV
  rw [if_neg (by omega), if_neg (by omega)]
  show [] ++ Dg.putL 10 65 = [54, 53]
  rw [Dg.putL_step 10 65 (by omega) (by omega), Dg.putL_small 10 (65 / 10) (by omega)]
  rfl
end Go.Proofs.YtompdfpjmdnhoabGreatDoor.Ou
namespace Go.Proofs.YtompdfpjmdnhoabGreatDoor.Ou
open Go.RowKit Go.Proofs.YtompdfpjmdnhoabGreatDoor.Rs Go.Proofs.YtompdfpjmdnhoabGreatDoor.Src Go.Proofs.YtompdfpjmdnhoabGreatDoor.Ft
theorem play1 (w0 : World) (tx : ByteArray) (toks : List Tk) (c : Int) (out : List UInt8) (P : Plays [toks] c out) (ht : tx = ⟨(flat toks).toArray⟩) (want : ByteArray) (hw : want = ⟨out.toArray⟩) (w : World) (A : Ahead w0 w) :
    Calls Tryz.prog 15 #[.slice (some ⟨w.heap.size, 0, none⟩) 1 1] (w.alloc (.cells #[.string tx] 9)) fun e w' => e = .returned (.tuple #[.string want, .int .i64 c]) ∧ Below w.heap.size w w' := by
  obtain ⟨_, o, hP, ho⟩ := P
  have ew : want = o.m.out := by rw [hw, ho]
  have k0 := (Below.refl w.heap.size w).alloc (Nat.le_refl _) (.cells #[.string tx] 9)
  rw [ew]
  refine (play_any w0 [tx] c o (by rw [ht]; exact hP) (by simp) w.heap.size 1 _ (A.next k0) 1 rfl (fun j t hj => ?_) (by simp) (Nat.le_refl _)).mono ?_
  · cases j with
    | zero =>
      injection hj with hj
      subst hj
      exact (Blk.new w 9 #[.string tx]).cell 0
    | succ j => simp at hj
  · rintro e w' ⟨he, k⟩
    exact ⟨he, k0.trans (k.mono (by simp))⟩
theorem play3 (w0 : World) (tx ty tz : ByteArray) (ta tb tc : List Tk) (c : Int) (out : List UInt8) (P : Plays [ta, tb, tc] c out) (ht : tx = ⟨(flat ta).toArray⟩) (hu : ty = ⟨(flat tb).toArray⟩) (hz : tz = ⟨(flat tc).toArray⟩) (want : ByteArray) (hw : want = ⟨out.toArray⟩) (w : World) (A : Ahead w0 w) :
    Calls Tryz.prog 15 #[.slice (some ⟨w.heap.size, 0, none⟩) 3 3] (w.alloc (.cells #[.string tx, .string ty, .string tz] 9)) fun e w' => e = .returned (.tuple #[.string want, .int .i64 c]) ∧ Below w.heap.size w w' := by
  obtain ⟨_, o, hP, ho⟩ := P
  have ew : want = o.m.out := by rw [hw, ho]
  have k0 := (Below.refl w.heap.size w).alloc (Nat.le_refl _) (.cells #[.string tx, .string ty, .string tz] 9)
  rw [ew]
  refine (play_any w0 [tx, ty, tz] c o (by rw [ht, hu, hz]; exact hP) (by simp) w.heap.size 3 _ (A.next k0) 3 rfl (fun j t hj => ?_) (by simp) (Nat.le_refl _)).mono ?_
  · have hb := Blk.new w 9 #[.string tx, .string ty, .string tz]
    match j, hj with
    | 0, hj => injection hj with hj; subst hj; exact hb.cell 0
    | 1, hj => injection hj with hj; subst hj; exact hb.cell 1
    | 2, hj => injection hj with hj; subst hj; exact hb.cell 2
    | j + 3, hj => simp at hj
  · rintro e w' ⟨he, k⟩
    exact ⟨he, k0.trans (k.mono (by simp))⟩
theorem putM1 : Dg.putV (-1) 10 = [45, 49] := by
  unfold Dg.putV
  rw [if_neg (by omega), if_pos (by omega)]
  show [45] ++ Dg.putL 10 1 = [45, 49]
  rw [Dg.putL_small 10 1 (by omega)]
  rfl
end Go.Proofs.YtompdfpjmdnhoabGreatDoor.Ou
