/-
  Lemmas on the way, for every input that they name: DgE.
-/
import Derived.Test.YtompdfpjmdnhoabGreatDoorQ02
import Derived.Test.YtompdfpjmdnhoabGreatDoorQ19
set_option linter.unusedVariables false
set_option linter.unusedSimpArgs false
set_option linter.deprecated false
namespace Go.Proofs.YtompdfpjmdnhoabGreatDoor.Dg
open Go.RowKit Go.Lib
def upL (k : Nat) : List UInt8 := Lib.toUpperD (Utf8.encode (k : Int)).data.toList
def okB (l : List UInt8) (w : Int) : Bool := l.length != 0 && (Lib.indexByte allB.data.toList (l.headD 0) == w)
theorem ok_of (l : List UInt8) (w : Int) (h : okB l w = true) : ∃ x r, l = x :: r ∧ Lib.indexByte allB.data.toList x = w := by
  unfold okB at h
  rw [Bool.and_eq_true] at h
  cases l with
  | nil => exact absurd h.1 (by decide)
  | cons x r => exact ⟨x, r, rfl, eq_of_beq h.2⟩
theorem up_all : (List.range 256).all (fun k => okB (upL k) (worth (UInt8.ofNat k))) = true := by kernel_rfl
theorem up_at (c : UInt8) : ∃ x r, Lib.toUpperD (Utf8.encode (c.toNat : Int)).data.toList = x :: r ∧ Lib.indexByte allB.data.toList x = worth c := by
  have h : okB (upL c.toNat) (worth (UInt8.ofNat c.toNat)) = true := List.all_eq_true.1 up_all c.toNat (List.mem_range.2 c.toNat_lt)
  rw [UInt8.ofNat_toNat] at h
  exact ok_of (upL c.toNat) (worth c) h
def Tabs (w : World) : Prop := CaseVar 2 caseA w ∧ Lib.Utf8Tabs 3 4 w
theorem enc_small (c : UInt8) : (Utf8.encode (c.toNat : Int)).size < 35184372088832 := by
  have h : (List.range 256).all (fun k => decide ((Utf8.encode (k : Int)).size ≤ 4)) = true := by kernel_rfl
  have := List.all_eq_true.1 h c.toNat (List.mem_range.2 c.toNat_lt)
  simp at this
  omega
set_option maxRecDepth 100000 in
theorem worth_any (c : UInt8) (w : World) (hT : Tabs w) : Calls Tryz.prog 62 #[.int .u8 (c.toNat : Int)] w fun e w' => e = .returned (.int .i64 (worth c)) ∧ Below w.heap.size w w' := by
  have hc : (c.toNat : Int) ≤ 255 := by have := c.toNat_lt; omega
  obtain ⟨x, r, h1, h2⟩ := up_at c
  have HU := Tryz.strings_ToUpper_any (Utf8.encode (c.toNat : Int)) w (enc_small c) hT.1 hT.2
  rw [h1] at HU
  have HU := Lib.hid HU
  have H2 := Lib.hid h2
  clear h1 h2 hT
  go_enter Tryz.func62, Tryz.ntmps62
  go_wp2_with fail
  refine HU.out.mono ?_
  rintro e w1 ⟨rfl, hb⟩
  have HB := Lib.hid hb
  clear hb HU
  have g0 : ∀ h, ((⟨(x :: r).toArray⟩ : ByteArray)[0]'h) = x := fun _ => rfl
  have HI := Tryz.strings_IndexByte allB (x.toNat : Int) w1
  rw [show ((x.toNat : Int).toNat.toUInt8) = x by simp, H2.out] at HI
  have HI := Lib.hid HI
  unfold allB at HI
  go_wp2_with fail
  refine HI.out.mono ?_
  rintro e w2 ⟨rfl, rfl⟩
  go_wp2_with fail
  go_ret
  exact ⟨rfl, HB.out⟩
theorem Tabs.keep {w w' : World} (hT : Tabs w) (h : ∀ p v, w.cell? p = some v → w'.cell? p = some v) : Tabs w' := by
  obtain ⟨⟨R, oR, cap, h1, h2⟩, h3, h4⟩ := hT
  refine ⟨⟨R, oR, cap, h _ _ h1, ?_⟩, fun c hc => h _ _ (h3 c hc), fun i hi => ⟨h _ _ (h4 i hi).1, h _ _ (h4 i hi).2⟩⟩
  intro i hi
  obtain ⟨a1, a2, a3, a4, a5⟩ := h2 i hi
  exact ⟨h _ _ a1, h _ _ a2, h _ _ a3, h _ _ a4, h _ _ a5⟩
theorem Tabs.below {w w' : World} (hT : Tabs w) (hb : Below w.heap.size w w') : Tabs w' :=
  hT.keep fun p v hv => (hb.cell (p := p) (World.block_lt_of_cell? w p hv)).trans hv
theorem trim_minus (l : List UInt8) : Lib.trimPrefix l [45] = (minusS l).1 ∧ Lib.hasPrefix l [45] = (minusS l).2 := by
  cases l with
  | nil => exact ⟨rfl, rfl⟩
  | cons c r =>
    by_cases h : c = 45
    · subst h
      simp [Lib.trimPrefix, Lib.hasPrefix, minusS]
    · have h' : ¬ (45 : UInt8) = c := fun e => h e.symm
      simp [Lib.trimPrefix, Lib.hasPrefix, minusS, h, h', List.isPrefixOf]
set_option maxRecDepth 100000 in
theorem sign_any (l : List UInt8) (b : Int) (hl : l.length ≤ 100000) (w : World) :
    Calls Tryz.prog 60 #[.string ⟨l.toArray⟩, .int .i64 b] w fun e w' => e = .returned (.tuple #[.string ⟨(signS l b).1.toArray⟩, .int .i64 (signS l b).2]) ∧ Below w.heap.size w w' := by
  rcases l with _ | ⟨c, r⟩
  · go_enter Tryz.func60, Tryz.ntmps60
    go_wp2_with fail
    go_ret2
    exact ⟨rfl, Below.refl _ _⟩
  · have g0 : ∀ h, ((⟨(c :: r).toArray⟩ : ByteArray)[0]'h) = c := fun _ => rfl
    have hsl := fun W => slice_tail c r (by simp at hl; omega) W
    by_cases h36 : c = 36
    · subst h36
      go_enter Tryz.func60, Tryz.ntmps60
      go_wp2_with fail
      go_quiet (fail)
      go_wp2
      go_ret2
      exact ⟨by rfl, below_of_draw ((Below.refl _ _).alloc (Nat.le_refl _) _) _⟩
    · have n36 : ((c.toNat : Int) == 36) = false := by rw [b8 c 36 36 rfl]; simpa using h36
      by_cases h37 : c = 37
      · subst h37
        go_enter Tryz.func60, Tryz.ntmps60
        go_wp2_with fail
        go_quiet (fail)
        go_wp2
        go_ret2
        exact ⟨by rfl, below_of_draw ((Below.refl _ _).alloc (Nat.le_refl _) _) _⟩
      · have n37 : ((c.toNat : Int) == 37) = false := by rw [b8 c 37 37 rfl]; simpa using h37
        by_cases h35 : c = 35
        · subst h35
          go_enter Tryz.func60, Tryz.ntmps60
          go_wp2_with fail
          go_quiet (fail)
          go_wp2
          go_ret2
          exact ⟨by rfl, below_of_draw ((Below.refl _ _).alloc (Nat.le_refl _) _) _⟩
        · have n35 : ((c.toNat : Int) == 35) = false := by rw [b8 c 35 35 rfl]; simpa using h35
          have HS := Lib.hid (signS_no c r b h35 h36 h37)
          go_enter Tryz.func60, Tryz.ntmps60
          go_wp2_with fail
          go_ret2
          exact ⟨by rw [HS.out]; rfl, Below.refl _ _⟩
theorem sign_base (l : List UInt8) (b : Int) (hb : 2 ≤ b) (hb' : b ≤ 36) : 2 ≤ (signS l b).2 ∧ (signS l b).2 ≤ 36 := by
  cases l with
  | nil => exact ⟨hb, hb'⟩
  | cons c r =>
    unfold signS
    simp only
    repeat' split
    all_goals (simp only; omega)
theorem sign_len (l : List UInt8) (b : Int) : (signS l b).1.length ≤ l.length := by
  cases l with
  | nil => exact Nat.le_refl _
  | cons c r =>
    unfold signS
    simp only
    repeat' split
    all_goals simp
theorem minus_len (l : List UInt8) : (minusS l).1.length ≤ l.length := by
  cases l with
  | nil => exact Nat.le_refl _
  | cons c r =>
    unfold minusS
    simp only
    repeat' split
    all_goals simp
theorem getV_bad (l : List UInt8) (b : Int) (h : b < 2 ∨ 36 < b) : getV l b = (0, false) := by unfold getV; rw [if_pos h]
set_option maxHeartbeats 2000000 in
set_option maxRecDepth 100000 in
theorem get_any (l : List UInt8) (b : Int) (hl : l.length ≤ 100000) (w : World) (hT : Tabs w) :
    Calls Tryz.prog 43 #[.string ⟨l.toArray⟩, .int .i64 b] w fun e w' => e = .returned (.tuple #[.int .i64 (getV l b).1, .bool (getV l b).2]) ∧ Below w.heap.size w w' := by
  obtain ⟨G, hG⟩ : ∃ G, G = getV l b := ⟨_, rfl⟩
  rw [← hG]
  have HG0 := Lib.hid hG
  clear hG
  have HT := Lib.hid hT
  clear hT
  by_cases h : b < 2 ∨ 36 < b
  · have HN : Hid (G = (0, false)) := HG0.out.trans (getV_bad l b h)
    go_enter Tryz.func43, Tryz.ntmps43
    go_wp2_with fail
    refine (right_no b h _).mono ?_
    rintro e w' ⟨rfl, rfl⟩
    go_wp2_with fail
    go_ret2
    exact ⟨by rw [HN.out]; rfl, Below.refl _ _⟩
  · have hb : 2 ≤ b := by omega
    have hb' : b ≤ 36 := by omega
    clear h
    go_enter Tryz.func43, Tryz.ntmps43
    go_wp2_with fail
    refine (right_yes b hb hb' _).mono ?_
    rintro e w' ⟨rfl, rfl⟩
    go_upto_region 3 with fail
    go_cut [26] (fun v wc => v = .bool (quoted l) ∧ w = wc)
    case first =>
      by_cases h3 : l.length = 3
      · obtain ⟨x0, x1, x2, rfl⟩ := len3 l h3
        have g0 : ∀ h, ((⟨#[x0, x1, x2]⟩ : ByteArray)[0]'h) = x0 := fun _ => rfl
        have g2 : ∀ h, ((⟨#[x0, x1, x2]⟩ : ByteArray)[2]'h) = x2 := fun _ => rfl
        clear h3
        by_cases h0 : x0 = 39
        · by_cases h2 : x2 = 39
          · subst h0 h2
            go_wp2_with fail
            go_meet
            exact ⟨rfl, rfl⟩
          · have n2 : ((x2.toNat : Int) == 39) = false := by rw [b8 x2 39 39 rfl]; simpa using h2
            have Hq : Hid (quoted [x0, x1, x2] = false) := by show _ = _; simp [quoted, h2]
            subst h0
            go_wp2_with fail
            go_meet
            exact ⟨by rw [Hq.out], rfl⟩
        · have n0 : ((x0.toNat : Int) == 39) = false := by rw [b8 x0 39 39 rfl]; simpa using h0
          have Hq : Hid (quoted [x0, x1, x2] = false) := by show _ = _; simp [quoted, h0]
          go_wp2_with fail
          go_meet
          exact ⟨by rw [Hq.out], rfl⟩
      · have h3' : ((l.length : Int) == 3) = false := by rw [beq_eq_false_iff_ne]; omega
        have hq : quoted l = false := by
          unfold quoted
          simp [h3]
        have Hq := Lib.hid hq
        clear hq
        go_wp2_with fail
        go_meet
        exact ⟨by rw [Hq.out], rfl⟩
    case rest =>
      obtain ⟨rfl, rfl⟩ := hcut
      by_cases hq : quoted l = true
      · have HG : Hid (G = (((l.getD 1 0).toNat : Int), true)) := by
          show _ = _
          rw [HG0.out]
          unfold getV
          rw [if_neg (by omega), if_pos hq]
        obtain ⟨x0, x1, x2, rfl⟩ := len3 l (by unfold quoted at hq; simp at hq; exact hq.1.1)
        have g1 : ∀ h, ((⟨#[x0, x1, x2]⟩ : ByteArray)[1]'h) = x1 := fun _ => rfl
        have hx1 : (x1.toNat : Int) ≤ 255 := by have := x1.toNat_lt; omega
        rw [hq]
        have Hq := Lib.hid hq
        clear hq
        go_wp2_with fail
        go_ret2
        exact ⟨by rw [HG.out]; rfl, Below.refl _ _⟩
      · have HG : Hid (G = numV (minusS (signS l b).1).1 (minusS (signS l b).1).2 (signS l b).2) := by
          show _ = _
          rw [HG0.out]
          unfold getV
          rw [if_neg (by omega), if_neg hq]
        have hq' : quoted l = false := by simpa using hq
        rw [hq']
        have HSg := Lib.hid (sign_any l b hl w)
        have hbs := sign_base l b hb hb'
        have hls := sign_len l b
        clear hq hq'
        obtain ⟨⟨t, b1⟩, hsg⟩ : ∃ p, p = signS l b := ⟨_, rfl⟩
        rw [← hsg] at HSg HG hbs hls
        clear hsg
        go_wp2_with fail
        refine HSg.out.mono ?_
        rintro e w1 ⟨rfl, hb1⟩
        have HB1 := Lib.hid hb1
        have HT1 : Hid (Tabs w1) := HT.out.below hb1
        have HC := Tryz.strings_CutPrefix ⟨t.toArray⟩ ⟨#[45]⟩ w1
        have htm := trim_minus t
        rw [show (⟨t.toArray⟩ : ByteArray).data.toList = t from rfl, show (⟨#[45]⟩ : ByteArray).data.toList = [45] from rfl, htm.1, htm.2] at HC
        have HC := Lib.hid HC
        have hlm := minus_len t
        clear hb1 htm HSg
        obtain ⟨⟨u, neg⟩, hmn⟩ : ∃ p, p = minusS t := ⟨_, rfl⟩
        rw [← hmn] at HC HG hlm
        clear hmn
        simp only at hlm hls hbs
        obtain ⟨hbs1, hbs2⟩ := hbs
        go_wp2_with fail
        refine HC.out.mono ?_
        rintro e w2 ⟨rfl, rfl⟩
        have hG := HG.out
        clear HG HC
        by_cases hu0 : u = []
        · subst hu0
          have HN : Hid (G = (0, false)) := hG
          clear hG
          go_wp2_with fail
          go_ret2
          exact ⟨by rw [HN.out]; rfl, HB1.out⟩
        · by_cases hu1 : 70 < u.length
          · have HN : Hid (G = (0, false)) := hG.trans (numV_long _ _ _ hu1)
            have e1 : (u == []) = false := by simpa using hu0
            have e2 : u.isEmpty = false := by simpa using hu0
            have hu1' : 70 < (u.length : Int) := by omega
            clear hG
            go_wp2_with fail
            go_ret2
            exact ⟨by rw [HN.out]; rfl, HB1.out⟩
          · have e1 : (u == []) = false := by simpa using hu0
            have e2 : u.isEmpty = false := by simpa using hu0
            have e3 : decide (70 < u.length) = false := by simp; omega
            have hu1' : u.length ≤ 70 := by omega
            have hG3 : G = outOf neg (foldG b1 u 0) := hG.trans (numV_loop _ _ _ hu0 hu1)
            obtain ⟨F, hF⟩ : ∃ F, F = foldG b1 u 0 := ⟨_, rfl⟩
            rw [← hF] at hG3
            have HF0 := Lib.hid hF
            have HG2 := Lib.hid hG3
            have HT0 : Hid (Tabs w) := HT.out
            clear hG hu1 hF hG3 HT1
            go_wp2_with fail
            go_loopg [8, 50] u.length (fun g vv vi wr => ∃ (i : Nat) (x : Int), g = u.length - i ∧ vv = .int .i64 x ∧ vi = .int .i64 i ∧ i ≤ u.length ∧ Hid (F = foldG b1 (u.drop i) x) ∧ Hid (Below w.heap.size w wr))
            case atStart => exact ⟨0, 0, rfl, rfl, rfl, by omega, HF0, HB1⟩
            case round =>
              obtain ⟨i, x, hg, rfl, rfl, hi, HF, HB⟩ := hrel
              have Hg := Lib.hid hg
              clear hg
              by_cases hlt : i < u.length
              · have hd : u.drop i = u[i] :: u.drop (i + 1) := List.drop_eq_getElem_cons hlt
                have HF2 := HF.out
                rw [hd] at HF2
                simp only [foldG] at HF2
                obtain ⟨c8, hc8⟩ : ∃ c8, c8 = u[i] := ⟨_, rfl⟩
                have hget : ∀ h, ((⟨u.toArray⟩ : ByteArray)[i]'h) = c8 := fun _ => hc8.symm
                rw [← hc8] at HF2
                have hlt' : (i : Int) < (u.length : Int) := by omega
                have HR := Lib.hid (worth_any c8 wr (HT0.out.below HB.out))
                clear hc8 hd HF
                by_cases hbad : worth c8 < 0 ∨ b1 ≤ worth c8
                · rw [if_pos hbad] at HF2
                  have HN : Hid (G = (0, false)) := by show _ = _; rw [HG2.out, HF2]; rfl
                  generalize worth c8 = d8 at *
                  clear HG2 HF2 HF0
                  by_cases hneg : d8 < 0
                  · go_wp2_with fail
                    refine HR.out.mono ?_
                    rintro e w' ⟨rfl, hb8⟩
                    have HB8 := Lib.hid (HB.out.trans (hb8.mono HB.out.size))
                    clear hb8
                    go_wp2_with fail
                    go_ret2
                    exact ⟨by rw [HN.out]; rfl, HB8.out⟩
                  · have hge : b1 ≤ d8 := by omega
                    clear hbad
                    go_wp2_with fail
                    refine HR.out.mono ?_
                    rintro e w' ⟨rfl, hb8⟩
                    have HB8 := Lib.hid (HB.out.trans (hb8.mono HB.out.size))
                    clear hb8
                    go_wp2_with fail
                    go_ret2
                    exact ⟨by rw [HN.out]; rfl, HB8.out⟩
                · rw [if_neg hbad] at HF2
                  have hsm : worth c8 < b1 := by omega
                  have hsm0 : 0 ≤ worth c8 := by omega
                  generalize worth c8 = d8 at *
                  have HF3 := Lib.hid HF2
                  clear HF2 hbad HF0
                  go_wp2_with fail
                  refine HR.out.mono ?_
                  rintro e w' ⟨rfl, hb8⟩
                  have HB8 := Lib.hid (HB.out.trans (hb8.mono HB.out.size))
                  clear hb8
                  go_wp2_with fail
                  go_roundg (u.length - (i + 1))
                  case rel => exact ⟨i + 1, _, rfl, rfl, by go_num, by omega, HF3, HB8⟩
                  case measure => have := Hg.out; omega
              · obtain rfl : i = u.length := by omega
                have HF2 := HF.out
                rw [List.drop_length] at HF2
                cases neg
                · have HN : Hid (G = (x, true)) := by show _ = _; rw [HG2.out, HF2]; rfl
                  clear HF HG2 HF2 HF0
                  go_wp2_with fail
                  go_ret2
                  exact ⟨by rw [HN.out]; rfl, HB.out⟩
                · have HN : Hid (G = (wrap64 (-x), true)) := by show _ = _; rw [HG2.out, HF2]; rfl
                  clear HF HG2 HF2 HF0
                  go_wp2_with fail
                  go_ret2
                  exact ⟨by rw [HN.out]; rfl, HB.out⟩
end Go.Proofs.YtompdfpjmdnhoabGreatDoor.Dg
