/-
  Chapter 3 (digits): the contract of the document's Get.
-/
import Derived.Test.YtcfkhbkhejaegaaDoorDgC
namespace Go.Proofs.YtcfkhbkhejaegaaDoor.Dg
open Go.RowKit

theorem b8 (x k : UInt8) (n : Int) (hk : (k.toNat : Int) = n) : ((x.toNat : Int) == n) = (x == k) := by
  subst hk
  rw [Bool.eq_iff_iff]
  simp only [beq_iff_eq]
  constructor
  · intro h
    exact UInt8.toNat_inj.1 (by omega)
  · intro h; rw [h]

theorem len3 (l : List UInt8) (h : l.length = 3) : ∃ x0 x1 x2, l = [x0, x1, x2] := by
  match l, h with
  | [x0, x1, x2], _ => exact ⟨x0, x1, x2, rfl⟩

/-- Has a text a sign of a base? -/
def signed : List UInt8 → Bool
  | [] => false
  | c :: _ => c == 35 || c == 36 || c == 37

theorem minusS_no (c : UInt8) (r : List UInt8) (h : c ≠ 45) : minusS (c :: r) = (c :: r, false) := by
  simp [minusS, h]
theorem signS_no (c : UInt8) (r : List UInt8) (b : Int) (h35 : c ≠ 35) (h36 : c ≠ 36) (h37 : c ≠ 37) : signS (c :: r) b = (c :: r, b) := by
  simp [signS, h35, h36, h37]
theorem numG {G : Int × Bool} {u : List UInt8} {neg : Bool} {b : Int} (h : G = numV u neg b) : G = numV u neg b := h
def outOf (neg : Bool) : Option Int → Int × Bool
  | none => (0, false)
  | some v => (if neg then wrap64 (-v) else v, true)
theorem numV_long (u : List UInt8) (neg : Bool) (b : Int) (h : 70 < u.length) : numV u neg b = (0, false) := by unfold numV; rw [if_pos (Or.inr h)]
theorem numV_loop (u : List UInt8) (neg : Bool) (b : Int) (h0 : u ≠ []) (h1 : ¬ 70 < u.length) : numV u neg b = outOf neg (foldG b u 0) := by
  unfold numV
  rw [if_neg (by rintro (h | h); exact h0 h; exact h1 h)]
  cases foldG b u 0 <;> rfl
theorem ext_tail (c : UInt8) (r : List UInt8) : (⟨(c :: r).toArray⟩ : ByteArray).extract 1 (⟨(c :: r).toArray⟩ : ByteArray).size = ⟨r.toArray⟩ := by
  apply ByteArray.ext
  rw [ByteArray.data_extract]
  apply Array.ext'
  simp [ByteArray.size]
theorem slice_tail (c : UInt8) (r : List UInt8) (hr : r.length ≤ 100000) (W : World) : (Instr.slice 9 (.string ⟨(c :: r).toArray⟩) (some (.int .i64 1)) none none).run Tryd.prog W = .ok (.string ⟨r.toArray⟩) W := by
  rw [run_slice_string_l W 9 ⟨(c :: r).toArray⟩ Tryd.underlying9 .i64 1 (by omega) (by show (1 : Int) ≤ (((c :: r).toArray.size : Nat) : Int); simp; omega)]
  rw [show ((1 : Int).toNat) = 1 from rfl, ext_tail]

set_option maxHeartbeats 1000000 in
set_option maxRecDepth 100000 in
theorem rget_walk (l : List UInt8) (b : Int) (hb : 2 ≤ b) (hb' : b ≤ 36) (hl : l.length ≤ 100000) (w : World) :
    Calls Tryd.prog 14 #[.string ⟨l.toArray⟩, .int .i64 b] w fun e w' => e = .returned (.tuple #[.int .i64 (getV l b).1, .bool (getV l b).2]) ∧ w = w' := by
  have hb1 : decide (b < 2) = false := by simpa using hb
  have hb2 : decide (36 < b) = false := by simpa using hb'
  obtain ⟨G, hG⟩ : ∃ G, G = getV l b := ⟨_, rfl⟩
  rw [← hG]
  have HG0 := Lib.hid hG
  clear hG
  go_enter Tryd.func14, Tryd.ntmps14
  go_upto_region 3 with fail
  go_cut [28] (fun v wc => v = .bool (quoted l) ∧ w = wc)
  case first =>
    by_cases h3 : l.length = 3
    · obtain ⟨x0, x1, x2, rfl⟩ := len3 l h3
      have g0 : ∀ h, ((⟨#[x0, x1, x2]⟩ : ByteArray)[0]'h) = x0 := fun _ => rfl
      have g2 : ∀ h, ((⟨#[x0, x1, x2]⟩ : ByteArray)[2]'h) = x2 := fun _ => rfl
      clear h3
      by_cases h0 : x0 = 39
      · by_cases h2 : x2 = 39
        · subst h0 h2
          go_wp2_with fail
          go_meet
          exact ⟨rfl, rfl⟩
        · have n2 : ((x2.toNat : Int) == 39) = false := by rw [b8 x2 39 39 rfl]; simpa using h2
          have Hq : Hid (quoted [x0, x1, x2] = false) := by show _ = _; simp [quoted, h2]
          subst h0
          go_wp2_with fail
          go_meet
          exact ⟨by rw [Hq.out], rfl⟩
      · have n0 : ((x0.toNat : Int) == 39) = false := by rw [b8 x0 39 39 rfl]; simpa using h0
        have Hq : Hid (quoted [x0, x1, x2] = false) := by show _ = _; simp [quoted, h0]
        go_wp2_with fail
        go_meet
        exact ⟨by rw [Hq.out], rfl⟩
    · have h3' : ((l.length : Int) == 3) = false := by rw [beq_eq_false_iff_ne]; omega
      have hq : quoted l = false := by
        unfold quoted
        simp [h3]
      have Hq := Lib.hid hq
      clear hq
      go_wp2_with fail
      go_meet
      exact ⟨by rw [Hq.out], rfl⟩
  case rest =>
    obtain ⟨rfl, rfl⟩ := hcut
    by_cases hq : quoted l = true
    · have HG : Hid (G = (((l.getD 1 0).toNat : Int), true)) := by
        show _ = _
        rw [HG0.out]
        unfold getV
        rw [if_neg (by omega), if_pos hq]
      obtain ⟨x0, x1, x2, rfl⟩ := len3 l (by unfold quoted at hq; simp at hq; exact hq.1.1)
      have g1 : ∀ h, ((⟨#[x0, x1, x2]⟩ : ByteArray)[1]'h) = x1 := fun _ => rfl
      have hx1 : (x1.toNat : Int) ≤ 255 := by have := x1.toNat_lt; omega
      rw [hq]
      have Hq := Lib.hid hq
      clear hq
      go_wp2_with fail
      go_ret2
      exact ⟨by rw [HG.out]; rfl, rfl⟩
    · have HG : Hid (G = numV (minusS (signS l b).1).1 (minusS (signS l b).1).2 (signS l b).2) := by
        show _ = _
        rw [HG0.out]
        unfold getV
        rw [if_neg (by omega), if_neg hq]
      have hq' : quoted l = false := by simpa using hq
      rw [hq']
      clear hq hq'
      rcases l with _ | ⟨c, r⟩
      · have HN : Hid (G = (0, false)) := by show _ = _; rw [HG.out]; rfl
        go_wp2_with fail
        go_ret2
        exact ⟨by rw [HN.out]; rfl, rfl⟩
      · have g0 : ∀ h, ((⟨(c :: r).toArray⟩ : ByteArray)[0]'h) = c := fun _ => rfl
        have hsl := fun W => slice_tail c r (by simp at hl; omega) W
        by_cases h35 : c = 35
        · subst h35
          have HG : Hid (G = numV (minusS r).1 (minusS r).2 10) := HG
          go_upto_region 13 with fail
          rcases r with _ | ⟨c', r'⟩
          · have HN : Hid (G = (0, false)) := by show _ = _; rw [HG.out]; rfl
            go_wp2_with fail
            go_ret2
            exact ⟨by rw [HN.out]; rfl, rfl⟩
          · have g0' : ∀ h, ((⟨(c' :: r').toArray⟩ : ByteArray)[0]'h) = c' := fun _ => rfl
            by_cases hm : c' = 45
            · subst hm
              have hsl' := fun W => slice_tail 45 r' (by simp at hl; omega) W
              go_upto_region 16 with fail
              obtain ⟨u, hu⟩ : ∃ u, u = r' := ⟨_, rfl⟩
              subst hu
              have HG : Hid (G = numV u true 10) := HG
              have HG1 := numG HG.out
              clear HG
              have HG := HG1
              clear HG1
              by_cases hu0 : u = []
              · subst hu0
                have HN : Hid (G = (0, false)) := HG
                go_wp2_with fail
                go_ret2
                exact ⟨by rw [HN.out]; rfl, rfl⟩
              · by_cases hu1 : 70 < u.length
                · have HN : Hid (G = (0, false)) := HG.trans (numV_long _ _ _ hu1)
                  have e1 : (u == []) = false := by simpa using hu0
                  have e2 : u.isEmpty = false := by simpa using hu0
                  have hu1' : 70 < (u.length : Int) := by omega
                  clear HG
                  go_wp2_with fail
                  go_ret2
                  exact ⟨by rw [HN.out]; rfl, rfl⟩
                · have e1 : (u == []) = false := by simpa using hu0
                  have e2 : u.isEmpty = false := by simpa using hu0
                  have e3 : decide (70 < u.length) = false := by simp; omega
                  have hu1' : u.length ≤ 70 := by omega
                  have hG3 : G = outOf true (foldG 10 u 0) := HG.trans (numV_loop _ _ _ hu0 hu1)
                  obtain ⟨F, hF⟩ : ∃ F, F = foldG 10 u 0 := ⟨_, rfl⟩
                  rw [← hF] at hG3
                  have HF0 := Lib.hid hF
                  have HG2 := Lib.hid hG3
                  clear HG hu1 hF hG3
                  go_wp2_with fail
                  go_loopg [7, 8] u.length (fun g vv vi wr => ∃ (i : Nat) (x : Int), g = u.length - i ∧ vv = .int .i64 x ∧ vi = .int .i64 i ∧ i ≤ u.length ∧ Hid (F = foldG 10 (u.drop i) x) ∧ w = wr)
                  case atStart => exact ⟨0, 0, rfl, rfl, rfl, by omega, HF0, rfl⟩
                  case round =>
                    obtain ⟨i, x, hg, rfl, rfl, hi, HF, rfl⟩ := hrel
                    have Hg := Lib.hid hg
                    clear hg
                    by_cases hlt : i < u.length
                    · have hd : u.drop i = u[i] :: u.drop (i + 1) := List.drop_eq_getElem_cons hlt
                      have HF2 := HF.out
                      rw [hd] at HF2
                      simp only [foldG] at HF2
                      obtain ⟨c8, hc8⟩ : ∃ c8, c8 = u[i] := ⟨_, rfl⟩
                      have hget : ∀ h, ((⟨u.toArray⟩ : ByteArray)[i]'h) = c8 := fun _ => hc8.symm
                      rw [← hc8] at HF2
                      have hlt' : (i : Int) < (u.length : Int) := by omega
                      have HR := Lib.hid (rdigit_any c8 w)
                      clear hc8 hd HF
                      by_cases hbad : worth c8 < 0 ∨ 10 ≤ worth c8
                      · rw [if_pos hbad] at HF2
                        have HN : Hid (G = (0, false)) := by show _ = _; rw [HG2.out, HF2]; rfl
                        have hbig : 10 ≤ rdig c8 := by unfold rdig; split <;> omega
                        generalize rdig c8 = d8 at *
                        clear HG2 HF2 hbad HF0
                        go_wp2_with fail
                        refine HR.out.mono ?_
                        rintro e w' ⟨rfl, rfl⟩
                        go_wp2_with fail
                        go_ret2
                        exact ⟨by rw [HN.out]; rfl, rfl⟩
                      · rw [if_neg hbad] at HF2
                        have hrd : rdig c8 = worth c8 := by unfold rdig; rw [if_neg (by omega)]
                        have hsm : worth c8 < 10 := by omega
                        have hsm0 : 0 ≤ worth c8 := by omega
                        rw [hrd] at HR
                        generalize worth c8 = d8 at *
                        have HF3 := Lib.hid HF2
                        clear HF2 hbad hrd HF0
                        go_wp2_with fail
                        refine HR.out.mono ?_
                        rintro e w' ⟨rfl, rfl⟩
                        go_wp2_with fail
                        go_roundg (u.length - (i + 1))
                        case rel => exact ⟨i + 1, _, rfl, rfl, by go_num, by omega, HF3, rfl⟩
                        case measure => have := Hg.out; omega
                    · obtain rfl : i = u.length := by omega
                      have HF2 := HF.out
                      rw [List.drop_length] at HF2
                      have HN : Hid (G = (if true then wrap64 (-x) else x, true)) := by show _ = _; rw [HG2.out, HF2]; rfl
                      clear HF HG2 HF2 HF0
                      go_wp2_with fail
                      go_ret2
                      exact ⟨by rw [HN.out]; rfl, rfl⟩
            · have nm : ((c'.toNat : Int) == 45) = false := by rw [b8 c' 45 45 rfl]; simpa using hm
              go_upto_region 16 with fail
              obtain ⟨u, hu⟩ : ∃ u, u = c' :: r' := ⟨_, rfl⟩
              rw [← hu]
              rw [← hu] at hl
              have HG : Hid (G = numV u false 10) := by
                show _ = _
                rw [HG.out, hu, minusS_no c' r' hm]
              clear hu g0'
              have HG1 := numG HG.out
              clear HG
              have HG := HG1
              clear HG1
              by_cases hu0 : u = []
              · subst hu0
                have HN : Hid (G = (0, false)) := HG
                go_wp2_with fail
                go_ret2
                exact ⟨by rw [HN.out]; rfl, rfl⟩
              · by_cases hu1 : 70 < u.length
                · have HN : Hid (G = (0, false)) := HG.trans (numV_long _ _ _ hu1)
                  have e1 : (u == []) = false := by simpa using hu0
                  have e2 : u.isEmpty = false := by simpa using hu0
                  have hu1' : 70 < (u.length : Int) := by omega
                  clear HG
                  go_wp2_with fail
                  go_ret2
                  exact ⟨by rw [HN.out]; rfl, rfl⟩
                · have e1 : (u == []) = false := by simpa using hu0
                  have e2 : u.isEmpty = false := by simpa using hu0
                  have e3 : decide (70 < u.length) = false := by simp; omega
                  have hu1' : u.length ≤ 70 := by omega
                  have hG3 : G = outOf false (foldG 10 u 0) := HG.trans (numV_loop _ _ _ hu0 hu1)
                  obtain ⟨F, hF⟩ : ∃ F, F = foldG 10 u 0 := ⟨_, rfl⟩
                  rw [← hF] at hG3
                  have HF0 := Lib.hid hF
                  have HG2 := Lib.hid hG3
                  clear HG hu1 hF hG3
                  go_wp2_with fail
                  go_loopg [7, 8] u.length (fun g vv vi wr => ∃ (i : Nat) (x : Int), g = u.length - i ∧ vv = .int .i64 x ∧ vi = .int .i64 i ∧ i ≤ u.length ∧ Hid (F = foldG 10 (u.drop i) x) ∧ w = wr)
                  case atStart => exact ⟨0, 0, rfl, rfl, rfl, by omega, HF0, rfl⟩
                  case round =>
                    obtain ⟨i, x, hg, rfl, rfl, hi, HF, rfl⟩ := hrel
                    have Hg := Lib.hid hg
                    clear hg
                    by_cases hlt : i < u.length
                    · have hd : u.drop i = u[i] :: u.drop (i + 1) := List.drop_eq_getElem_cons hlt
                      have HF2 := HF.out
                      rw [hd] at HF2
                      simp only [foldG] at HF2
                      obtain ⟨c8, hc8⟩ : ∃ c8, c8 = u[i] := ⟨_, rfl⟩
                      have hget : ∀ h, ((⟨u.toArray⟩ : ByteArray)[i]'h) = c8 := fun _ => hc8.symm
                      rw [← hc8] at HF2
                      have hlt' : (i : Int) < (u.length : Int) := by omega
                      have HR := Lib.hid (rdigit_any c8 w)
                      clear hc8 hd HF
                      by_cases hbad : worth c8 < 0 ∨ 10 ≤ worth c8
                      · rw [if_pos hbad] at HF2
                        have HN : Hid (G = (0, false)) := by show _ = _; rw [HG2.out, HF2]; rfl
                        have hbig : 10 ≤ rdig c8 := by unfold rdig; split <;> omega
                        generalize rdig c8 = d8 at *
                        clear HG2 HF2 hbad HF0
                        go_wp2_with fail
                        refine HR.out.mono ?_
                        rintro e w' ⟨rfl, rfl⟩
                        go_wp2_with fail
                        go_ret2
                        exact ⟨by rw [HN.out]; rfl, rfl⟩
                      · rw [if_neg hbad] at HF2
                        have hrd : rdig c8 = worth c8 := by unfold rdig; rw [if_neg (by omega)]
                        have hsm : worth c8 < 10 := by omega
                        have hsm0 : 0 ≤ worth c8 := by omega
                        rw [hrd] at HR
                        generalize worth c8 = d8 at *
                        have HF3 := Lib.hid HF2
                        clear HF2 hbad hrd HF0
                        go_wp2_with fail
                        refine HR.out.mono ?_
                        rintro e w' ⟨rfl, rfl⟩
                        go_wp2_with fail
                        go_roundg (u.length - (i + 1))
                        case rel => exact ⟨i + 1, _, rfl, rfl, by go_num, by omega, HF3, rfl⟩
                        case measure => have := Hg.out; omega
                    · obtain rfl : i = u.length := by omega
                      have HF2 := HF.out
                      rw [List.drop_length] at HF2
                      have HN : Hid (G = (if false then wrap64 (-x) else x, true)) := by show _ = _; rw [HG2.out, HF2]; rfl
                      clear HF HG2 HF2 HF0
                      go_wp2_with fail
                      go_ret2
                      exact ⟨by rw [HN.out]; rfl, rfl⟩
        · have n35 : ((c.toNat : Int) == 35) = false := by rw [b8 c 35 35 rfl]; simpa using h35
          by_cases h36 : c = 36
          · subst h36
            have HG : Hid (G = numV (minusS r).1 (minusS r).2 16) := HG
            go_upto_region 13 with fail
            rcases r with _ | ⟨c', r'⟩
            · have HN : Hid (G = (0, false)) := by show _ = _; rw [HG.out]; rfl
              go_wp2_with fail
              go_ret2
              exact ⟨by rw [HN.out]; rfl, rfl⟩
            · have g0' : ∀ h, ((⟨(c' :: r').toArray⟩ : ByteArray)[0]'h) = c' := fun _ => rfl
              by_cases hm : c' = 45
              · subst hm
                have hsl' := fun W => slice_tail 45 r' (by simp at hl; omega) W
                go_upto_region 16 with fail
                obtain ⟨u, hu⟩ : ∃ u, u = r' := ⟨_, rfl⟩
                subst hu
                have HG : Hid (G = numV u true 16) := HG
                have HG1 := numG HG.out
                clear HG
                have HG := HG1
                clear HG1
                by_cases hu0 : u = []
                · subst hu0
                  have HN : Hid (G = (0, false)) := HG
                  go_wp2_with fail
                  go_ret2
                  exact ⟨by rw [HN.out]; rfl, rfl⟩
                · by_cases hu1 : 70 < u.length
                  · have HN : Hid (G = (0, false)) := HG.trans (numV_long _ _ _ hu1)
                    have e1 : (u == []) = false := by simpa using hu0
                    have e2 : u.isEmpty = false := by simpa using hu0
                    have hu1' : 70 < (u.length : Int) := by omega
                    clear HG
                    go_wp2_with fail
                    go_ret2
                    exact ⟨by rw [HN.out]; rfl, rfl⟩
                  · have e1 : (u == []) = false := by simpa using hu0
                    have e2 : u.isEmpty = false := by simpa using hu0
                    have e3 : decide (70 < u.length) = false := by simp; omega
                    have hu1' : u.length ≤ 70 := by omega
                    have hG3 : G = outOf true (foldG 16 u 0) := HG.trans (numV_loop _ _ _ hu0 hu1)
                    obtain ⟨F, hF⟩ : ∃ F, F = foldG 16 u 0 := ⟨_, rfl⟩
                    rw [← hF] at hG3
                    have HF0 := Lib.hid hF
                    have HG2 := Lib.hid hG3
                    clear HG hu1 hF hG3
                    go_wp2_with fail
                    go_loopg [7, 8] u.length (fun g vv vi wr => ∃ (i : Nat) (x : Int), g = u.length - i ∧ vv = .int .i64 x ∧ vi = .int .i64 i ∧ i ≤ u.length ∧ Hid (F = foldG 16 (u.drop i) x) ∧ w = wr)
                    case atStart => exact ⟨0, 0, rfl, rfl, rfl, by omega, HF0, rfl⟩
                    case round =>
                      obtain ⟨i, x, hg, rfl, rfl, hi, HF, rfl⟩ := hrel
                      have Hg := Lib.hid hg
                      clear hg
                      by_cases hlt : i < u.length
                      · have hd : u.drop i = u[i] :: u.drop (i + 1) := List.drop_eq_getElem_cons hlt
                        have HF2 := HF.out
                        rw [hd] at HF2
                        simp only [foldG] at HF2
                        obtain ⟨c8, hc8⟩ : ∃ c8, c8 = u[i] := ⟨_, rfl⟩
                        have hget : ∀ h, ((⟨u.toArray⟩ : ByteArray)[i]'h) = c8 := fun _ => hc8.symm
                        rw [← hc8] at HF2
                        have hlt' : (i : Int) < (u.length : Int) := by omega
                        have HR := Lib.hid (rdigit_any c8 w)
                        clear hc8 hd HF
                        by_cases hbad : worth c8 < 0 ∨ 16 ≤ worth c8
                        · rw [if_pos hbad] at HF2
                          have HN : Hid (G = (0, false)) := by show _ = _; rw [HG2.out, HF2]; rfl
                          have hbig : 16 ≤ rdig c8 := by unfold rdig; split <;> omega
                          generalize rdig c8 = d8 at *
                          clear HG2 HF2 hbad HF0
                          go_wp2_with fail
                          refine HR.out.mono ?_
                          rintro e w' ⟨rfl, rfl⟩
                          go_wp2_with fail
                          go_ret2
                          exact ⟨by rw [HN.out]; rfl, rfl⟩
                        · rw [if_neg hbad] at HF2
                          have hrd : rdig c8 = worth c8 := by unfold rdig; rw [if_neg (by omega)]
                          have hsm : worth c8 < 16 := by omega
                          have hsm0 : 0 ≤ worth c8 := by omega
                          rw [hrd] at HR
                          generalize worth c8 = d8 at *
                          have HF3 := Lib.hid HF2
                          clear HF2 hbad hrd HF0
                          go_wp2_with fail
                          refine HR.out.mono ?_
                          rintro e w' ⟨rfl, rfl⟩
                          go_wp2_with fail
                          go_roundg (u.length - (i + 1))
                          case rel => exact ⟨i + 1, _, rfl, rfl, by go_num, by omega, HF3, rfl⟩
                          case measure => have := Hg.out; omega
                      · obtain rfl : i = u.length := by omega
                        have HF2 := HF.out
                        rw [List.drop_length] at HF2
                        have HN : Hid (G = (if true then wrap64 (-x) else x, true)) := by show _ = _; rw [HG2.out, HF2]; rfl
                        clear HF HG2 HF2 HF0
                        go_wp2_with fail
                        go_ret2
                        exact ⟨by rw [HN.out]; rfl, rfl⟩
              · have nm : ((c'.toNat : Int) == 45) = false := by rw [b8 c' 45 45 rfl]; simpa using hm
                go_upto_region 16 with fail
                obtain ⟨u, hu⟩ : ∃ u, u = c' :: r' := ⟨_, rfl⟩
                rw [← hu]
                rw [← hu] at hl
                have HG : Hid (G = numV u false 16) := by
                  show _ = _
                  rw [HG.out, hu, minusS_no c' r' hm]
                clear hu g0'
                have HG1 := numG HG.out
                clear HG
                have HG := HG1
                clear HG1
                by_cases hu0 : u = []
                · subst hu0
                  have HN : Hid (G = (0, false)) := HG
                  go_wp2_with fail
                  go_ret2
                  exact ⟨by rw [HN.out]; rfl, rfl⟩
                · by_cases hu1 : 70 < u.length
                  · have HN : Hid (G = (0, false)) := HG.trans (numV_long _ _ _ hu1)
                    have e1 : (u == []) = false := by simpa using hu0
                    have e2 : u.isEmpty = false := by simpa using hu0
                    have hu1' : 70 < (u.length : Int) := by omega
                    clear HG
                    go_wp2_with fail
                    go_ret2
                    exact ⟨by rw [HN.out]; rfl, rfl⟩
                  · have e1 : (u == []) = false := by simpa using hu0
                    have e2 : u.isEmpty = false := by simpa using hu0
                    have e3 : decide (70 < u.length) = false := by simp; omega
                    have hu1' : u.length ≤ 70 := by omega
                    have hG3 : G = outOf false (foldG 16 u 0) := HG.trans (numV_loop _ _ _ hu0 hu1)
                    obtain ⟨F, hF⟩ : ∃ F, F = foldG 16 u 0 := ⟨_, rfl⟩
                    rw [← hF] at hG3
                    have HF0 := Lib.hid hF
                    have HG2 := Lib.hid hG3
                    clear HG hu1 hF hG3
                    go_wp2_with fail
                    go_loopg [7, 8] u.length (fun g vv vi wr => ∃ (i : Nat) (x : Int), g = u.length - i ∧ vv = .int .i64 x ∧ vi = .int .i64 i ∧ i ≤ u.length ∧ Hid (F = foldG 16 (u.drop i) x) ∧ w = wr)
                    case atStart => exact ⟨0, 0, rfl, rfl, rfl, by omega, HF0, rfl⟩
                    case round =>
                      obtain ⟨i, x, hg, rfl, rfl, hi, HF, rfl⟩ := hrel
                      have Hg := Lib.hid hg
                      clear hg
                      by_cases hlt : i < u.length
                      · have hd : u.drop i = u[i] :: u.drop (i + 1) := List.drop_eq_getElem_cons hlt
                        have HF2 := HF.out
                        rw [hd] at HF2
                        simp only [foldG] at HF2
                        obtain ⟨c8, hc8⟩ : ∃ c8, c8 = u[i] := ⟨_, rfl⟩
                        have hget : ∀ h, ((⟨u.toArray⟩ : ByteArray)[i]'h) = c8 := fun _ => hc8.symm
                        rw [← hc8] at HF2
                        have hlt' : (i : Int) < (u.length : Int) := by omega
                        have HR := Lib.hid (rdigit_any c8 w)
                        clear hc8 hd HF
                        by_cases hbad : worth c8 < 0 ∨ 16 ≤ worth c8
                        · rw [if_pos hbad] at HF2
                          have HN : Hid (G = (0, false)) := by show _ = _; rw [HG2.out, HF2]; rfl
                          have hbig : 16 ≤ rdig c8 := by unfold rdig; split <;> omega
                          generalize rdig c8 = d8 at *
                          clear HG2 HF2 hbad HF0
                          go_wp2_with fail
                          refine HR.out.mono ?_
                          rintro e w' ⟨rfl, rfl⟩
                          go_wp2_with fail
                          go_ret2
                          exact ⟨by rw [HN.out]; rfl, rfl⟩
                        · rw [if_neg hbad] at HF2
                          have hrd : rdig c8 = worth c8 := by unfold rdig; rw [if_neg (by omega)]
                          have hsm : worth c8 < 16 := by omega
                          have hsm0 : 0 ≤ worth c8 := by omega
                          rw [hrd] at HR
                          generalize worth c8 = d8 at *
                          have HF3 := Lib.hid HF2
                          clear HF2 hbad hrd HF0
                          go_wp2_with fail
                          refine HR.out.mono ?_
                          rintro e w' ⟨rfl, rfl⟩
                          go_wp2_with fail
                          go_roundg (u.length - (i + 1))
                          case rel => exact ⟨i + 1, _, rfl, rfl, by go_num, by omega, HF3, rfl⟩
                          case measure => have := Hg.out; omega
                      · obtain rfl : i = u.length := by omega
                        have HF2 := HF.out
                        rw [List.drop_length] at HF2
                        have HN : Hid (G = (if false then wrap64 (-x) else x, true)) := by show _ = _; rw [HG2.out, HF2]; rfl
                        clear HF HG2 HF2 HF0
                        go_wp2_with fail
                        go_ret2
                        exact ⟨by rw [HN.out]; rfl, rfl⟩
          · have n36 : ((c.toNat : Int) == 36) = false := by rw [b8 c 36 36 rfl]; simpa using h36
            by_cases h37 : c = 37
            · subst h37
              have HG : Hid (G = numV (minusS r).1 (minusS r).2 2) := HG
              go_upto_region 13 with fail
              rcases r with _ | ⟨c', r'⟩
              · have HN : Hid (G = (0, false)) := by show _ = _; rw [HG.out]; rfl
                go_wp2_with fail
                go_ret2
                exact ⟨by rw [HN.out]; rfl, rfl⟩
              · have g0' : ∀ h, ((⟨(c' :: r').toArray⟩ : ByteArray)[0]'h) = c' := fun _ => rfl
                by_cases hm : c' = 45
                · subst hm
                  have hsl' := fun W => slice_tail 45 r' (by simp at hl; omega) W
                  go_upto_region 16 with fail
                  obtain ⟨u, hu⟩ : ∃ u, u = r' := ⟨_, rfl⟩
                  subst hu
                  have HG : Hid (G = numV u true 2) := HG
                  have HG1 := numG HG.out
                  clear HG
                  have HG := HG1
                  clear HG1
                  by_cases hu0 : u = []
                  · subst hu0
                    have HN : Hid (G = (0, false)) := HG
                    go_wp2_with fail
                    go_ret2
                    exact ⟨by rw [HN.out]; rfl, rfl⟩
                  · by_cases hu1 : 70 < u.length
                    · have HN : Hid (G = (0, false)) := HG.trans (numV_long _ _ _ hu1)
                      have e1 : (u == []) = false := by simpa using hu0
                      have e2 : u.isEmpty = false := by simpa using hu0
                      have hu1' : 70 < (u.length : Int) := by omega
                      clear HG
                      go_wp2_with fail
                      go_ret2
                      exact ⟨by rw [HN.out]; rfl, rfl⟩
                    · have e1 : (u == []) = false := by simpa using hu0
                      have e2 : u.isEmpty = false := by simpa using hu0
                      have e3 : decide (70 < u.length) = false := by simp; omega
                      have hu1' : u.length ≤ 70 := by omega
                      have hG3 : G = outOf true (foldG 2 u 0) := HG.trans (numV_loop _ _ _ hu0 hu1)
                      obtain ⟨F, hF⟩ : ∃ F, F = foldG 2 u 0 := ⟨_, rfl⟩
                      rw [← hF] at hG3
                      have HF0 := Lib.hid hF
                      have HG2 := Lib.hid hG3
                      clear HG hu1 hF hG3
                      go_wp2_with fail
                      go_loopg [7, 8] u.length (fun g vv vi wr => ∃ (i : Nat) (x : Int), g = u.length - i ∧ vv = .int .i64 x ∧ vi = .int .i64 i ∧ i ≤ u.length ∧ Hid (F = foldG 2 (u.drop i) x) ∧ w = wr)
                      case atStart => exact ⟨0, 0, rfl, rfl, rfl, by omega, HF0, rfl⟩
                      case round =>
                        obtain ⟨i, x, hg, rfl, rfl, hi, HF, rfl⟩ := hrel
                        have Hg := Lib.hid hg
                        clear hg
                        by_cases hlt : i < u.length
                        · have hd : u.drop i = u[i] :: u.drop (i + 1) := List.drop_eq_getElem_cons hlt
                          have HF2 := HF.out
                          rw [hd] at HF2
                          simp only [foldG] at HF2
                          obtain ⟨c8, hc8⟩ : ∃ c8, c8 = u[i] := ⟨_, rfl⟩
                          have hget : ∀ h, ((⟨u.toArray⟩ : ByteArray)[i]'h) = c8 := fun _ => hc8.symm
                          rw [← hc8] at HF2
                          have hlt' : (i : Int) < (u.length : Int) := by omega
                          have HR := Lib.hid (rdigit_any c8 w)
                          clear hc8 hd HF
                          by_cases hbad : worth c8 < 0 ∨ 2 ≤ worth c8
                          · rw [if_pos hbad] at HF2
                            have HN : Hid (G = (0, false)) := by show _ = _; rw [HG2.out, HF2]; rfl
                            have hbig : 2 ≤ rdig c8 := by unfold rdig; split <;> omega
                            generalize rdig c8 = d8 at *
                            clear HG2 HF2 hbad HF0
                            go_wp2_with fail
                            refine HR.out.mono ?_
                            rintro e w' ⟨rfl, rfl⟩
                            go_wp2_with fail
                            go_ret2
                            exact ⟨by rw [HN.out]; rfl, rfl⟩
                          · rw [if_neg hbad] at HF2
                            have hrd : rdig c8 = worth c8 := by unfold rdig; rw [if_neg (by omega)]
                            have hsm : worth c8 < 2 := by omega
                            have hsm0 : 0 ≤ worth c8 := by omega
                            rw [hrd] at HR
                            generalize worth c8 = d8 at *
                            have HF3 := Lib.hid HF2
                            clear HF2 hbad hrd HF0
                            go_wp2_with fail
                            refine HR.out.mono ?_
                            rintro e w' ⟨rfl, rfl⟩
                            go_wp2_with fail
                            go_roundg (u.length - (i + 1))
                            case rel => exact ⟨i + 1, _, rfl, rfl, by go_num, by omega, HF3, rfl⟩
                            case measure => have := Hg.out; omega
                        · obtain rfl : i = u.length := by omega
                          have HF2 := HF.out
                          rw [List.drop_length] at HF2
                          have HN : Hid (G = (if true then wrap64 (-x) else x, true)) := by show _ = _; rw [HG2.out, HF2]; rfl
                          clear HF HG2 HF2 HF0
                          go_wp2_with fail
                          go_ret2
                          exact ⟨by rw [HN.out]; rfl, rfl⟩
                · have nm : ((c'.toNat : Int) == 45) = false := by rw [b8 c' 45 45 rfl]; simpa using hm
                  go_upto_region 16 with fail
                  obtain ⟨u, hu⟩ : ∃ u, u = c' :: r' := ⟨_, rfl⟩
                  rw [← hu]
                  rw [← hu] at hl
                  have HG : Hid (G = numV u false 2) := by
                    show _ = _
                    rw [HG.out, hu, minusS_no c' r' hm]
                  clear hu g0'
                  have HG1 := numG HG.out
                  clear HG
                  have HG := HG1
                  clear HG1
                  by_cases hu0 : u = []
                  · subst hu0
                    have HN : Hid (G = (0, false)) := HG
                    go_wp2_with fail
                    go_ret2
                    exact ⟨by rw [HN.out]; rfl, rfl⟩
                  · by_cases hu1 : 70 < u.length
                    · have HN : Hid (G = (0, false)) := HG.trans (numV_long _ _ _ hu1)
                      have e1 : (u == []) = false := by simpa using hu0
                      have e2 : u.isEmpty = false := by simpa using hu0
                      have hu1' : 70 < (u.length : Int) := by omega
                      clear HG
                      go_wp2_with fail
                      go_ret2
                      exact ⟨by rw [HN.out]; rfl, rfl⟩
                    · have e1 : (u == []) = false := by simpa using hu0
                      have e2 : u.isEmpty = false := by simpa using hu0
                      have e3 : decide (70 < u.length) = false := by simp; omega
                      have hu1' : u.length ≤ 70 := by omega
                      have hG3 : G = outOf false (foldG 2 u 0) := HG.trans (numV_loop _ _ _ hu0 hu1)
                      obtain ⟨F, hF⟩ : ∃ F, F = foldG 2 u 0 := ⟨_, rfl⟩
                      rw [← hF] at hG3
                      have HF0 := Lib.hid hF
                      have HG2 := Lib.hid hG3
                      clear HG hu1 hF hG3
                      go_wp2_with fail
                      go_loopg [7, 8] u.length (fun g vv vi wr => ∃ (i : Nat) (x : Int), g = u.length - i ∧ vv = .int .i64 x ∧ vi = .int .i64 i ∧ i ≤ u.length ∧ Hid (F = foldG 2 (u.drop i) x) ∧ w = wr)
                      case atStart => exact ⟨0, 0, rfl, rfl, rfl, by omega, HF0, rfl⟩
                      case round =>
                        obtain ⟨i, x, hg, rfl, rfl, hi, HF, rfl⟩ := hrel
                        have Hg := Lib.hid hg
                        clear hg
                        by_cases hlt : i < u.length
                        · have hd : u.drop i = u[i] :: u.drop (i + 1) := List.drop_eq_getElem_cons hlt
                          have HF2 := HF.out
                          rw [hd] at HF2
                          simp only [foldG] at HF2
                          obtain ⟨c8, hc8⟩ : ∃ c8, c8 = u[i] := ⟨_, rfl⟩
                          have hget : ∀ h, ((⟨u.toArray⟩ : ByteArray)[i]'h) = c8 := fun _ => hc8.symm
                          rw [← hc8] at HF2
                          have hlt' : (i : Int) < (u.length : Int) := by omega
                          have HR := Lib.hid (rdigit_any c8 w)
                          clear hc8 hd HF
                          by_cases hbad : worth c8 < 0 ∨ 2 ≤ worth c8
                          · rw [if_pos hbad] at HF2
                            have HN : Hid (G = (0, false)) := by show _ = _; rw [HG2.out, HF2]; rfl
                            have hbig : 2 ≤ rdig c8 := by unfold rdig; split <;> omega
                            generalize rdig c8 = d8 at *
                            clear HG2 HF2 hbad HF0
                            go_wp2_with fail
                            refine HR.out.mono ?_
                            rintro e w' ⟨rfl, rfl⟩
                            go_wp2_with fail
                            go_ret2
                            exact ⟨by rw [HN.out]; rfl, rfl⟩
                          · rw [if_neg hbad] at HF2
                            have hrd : rdig c8 = worth c8 := by unfold rdig; rw [if_neg (by omega)]
                            have hsm : worth c8 < 2 := by omega
                            have hsm0 : 0 ≤ worth c8 := by omega
                            rw [hrd] at HR
                            generalize worth c8 = d8 at *
                            have HF3 := Lib.hid HF2
                            clear HF2 hbad hrd HF0
                            go_wp2_with fail
                            refine HR.out.mono ?_
                            rintro e w' ⟨rfl, rfl⟩
                            go_wp2_with fail
                            go_roundg (u.length - (i + 1))
                            case rel => exact ⟨i + 1, _, rfl, rfl, by go_num, by omega, HF3, rfl⟩
                            case measure => have := Hg.out; omega
                        · obtain rfl : i = u.length := by omega
                          have HF2 := HF.out
                          rw [List.drop_length] at HF2
                          have HN : Hid (G = (if false then wrap64 (-x) else x, true)) := by show _ = _; rw [HG2.out, HF2]; rfl
                          clear HF HG2 HF2 HF0
                          go_wp2_with fail
                          go_ret2
                          exact ⟨by rw [HN.out]; rfl, rfl⟩
            · have n37 : ((c.toNat : Int) == 37) = false := by rw [b8 c 37 37 rfl]; simpa using h37
              have HG : Hid (G = numV (minusS (c :: r)).1 (minusS (c :: r)).2 b) := by
                show _ = _
                rw [HG.out, signS_no c r b h35 h36 h37]
              clear hsl
              go_upto_region 13 with fail
              by_cases hm : c = 45
              · subst hm
                have hsl' := fun W => slice_tail 45 r (by simp at hl; omega) W
                go_upto_region 16 with fail
                obtain ⟨u, hu⟩ : ∃ u, u = r := ⟨_, rfl⟩
                subst hu
                have HG : Hid (G = numV u true b) := HG
                have HG1 := numG HG.out
                clear HG
                have HG := HG1
                clear HG1
                by_cases hu0 : u = []
                · subst hu0
                  have HN : Hid (G = (0, false)) := HG
                  go_wp2_with fail
                  go_ret2
                  exact ⟨by rw [HN.out]; rfl, rfl⟩
                · by_cases hu1 : 70 < u.length
                  · have HN : Hid (G = (0, false)) := HG.trans (numV_long _ _ _ hu1)
                    have e1 : (u == []) = false := by simpa using hu0
                    have e2 : u.isEmpty = false := by simpa using hu0
                    have hu1' : 70 < (u.length : Int) := by omega
                    clear HG
                    go_wp2_with fail
                    go_ret2
                    exact ⟨by rw [HN.out]; rfl, rfl⟩
                  · have e1 : (u == []) = false := by simpa using hu0
                    have e2 : u.isEmpty = false := by simpa using hu0
                    have e3 : decide (70 < u.length) = false := by simp; omega
                    have hu1' : u.length ≤ 70 := by omega
                    have hG3 : G = outOf true (foldG b u 0) := HG.trans (numV_loop _ _ _ hu0 hu1)
                    obtain ⟨F, hF⟩ : ∃ F, F = foldG b u 0 := ⟨_, rfl⟩
                    rw [← hF] at hG3
                    have HF0 := Lib.hid hF
                    have HG2 := Lib.hid hG3
                    clear HG hu1 hF hG3
                    go_wp2_with fail
                    go_loopg [7, 8] u.length (fun g vv vi wr => ∃ (i : Nat) (x : Int), g = u.length - i ∧ vv = .int .i64 x ∧ vi = .int .i64 i ∧ i ≤ u.length ∧ Hid (F = foldG b (u.drop i) x) ∧ w = wr)
                    case atStart => exact ⟨0, 0, rfl, rfl, rfl, by omega, HF0, rfl⟩
                    case round =>
                      obtain ⟨i, x, hg, rfl, rfl, hi, HF, rfl⟩ := hrel
                      have Hg := Lib.hid hg
                      clear hg
                      by_cases hlt : i < u.length
                      · have hd : u.drop i = u[i] :: u.drop (i + 1) := List.drop_eq_getElem_cons hlt
                        have HF2 := HF.out
                        rw [hd] at HF2
                        simp only [foldG] at HF2
                        obtain ⟨c8, hc8⟩ : ∃ c8, c8 = u[i] := ⟨_, rfl⟩
                        have hget : ∀ h, ((⟨u.toArray⟩ : ByteArray)[i]'h) = c8 := fun _ => hc8.symm
                        rw [← hc8] at HF2
                        have hlt' : (i : Int) < (u.length : Int) := by omega
                        have HR := Lib.hid (rdigit_any c8 w)
                        clear hc8 hd HF
                        by_cases hbad : worth c8 < 0 ∨ b ≤ worth c8
                        · rw [if_pos hbad] at HF2
                          have HN : Hid (G = (0, false)) := by show _ = _; rw [HG2.out, HF2]; rfl
                          have hbig : b ≤ rdig c8 := by unfold rdig; split <;> omega
                          generalize rdig c8 = d8 at *
                          clear HG2 HF2 hbad HF0
                          go_wp2_with fail
                          refine HR.out.mono ?_
                          rintro e w' ⟨rfl, rfl⟩
                          go_wp2_with fail
                          go_ret2
                          exact ⟨by rw [HN.out]; rfl, rfl⟩
                        · rw [if_neg hbad] at HF2
                          have hrd : rdig c8 = worth c8 := by unfold rdig; rw [if_neg (by omega)]
                          have hsm : worth c8 < b := by omega
                          have hsm0 : 0 ≤ worth c8 := by omega
                          rw [hrd] at HR
                          generalize worth c8 = d8 at *
                          have HF3 := Lib.hid HF2
                          clear HF2 hbad hrd HF0
                          go_wp2_with fail
                          refine HR.out.mono ?_
                          rintro e w' ⟨rfl, rfl⟩
                          go_wp2_with fail
                          go_roundg (u.length - (i + 1))
                          case rel => exact ⟨i + 1, _, rfl, rfl, by go_num, by omega, HF3, rfl⟩
                          case measure => have := Hg.out; omega
                      · obtain rfl : i = u.length := by omega
                        have HF2 := HF.out
                        rw [List.drop_length] at HF2
                        have HN : Hid (G = (if true then wrap64 (-x) else x, true)) := by show _ = _; rw [HG2.out, HF2]; rfl
                        clear HF HG2 HF2 HF0
                        go_wp2_with fail
                        go_ret2
                        exact ⟨by rw [HN.out]; rfl, rfl⟩
              · have nm : ((c.toNat : Int) == 45) = false := by rw [b8 c 45 45 rfl]; simpa using hm
                go_upto_region 16 with fail
                obtain ⟨u, hu⟩ : ∃ u, u = c :: r := ⟨_, rfl⟩
                rw [← hu]
                rw [← hu] at hl
                have HG : Hid (G = numV u false b) := by
                  show _ = _
                  rw [HG.out, hu, minusS_no c r hm]
                clear hu g0
                have HG1 := numG HG.out
                clear HG
                have HG := HG1
                clear HG1
                by_cases hu0 : u = []
                · subst hu0
                  have HN : Hid (G = (0, false)) := HG
                  go_wp2_with fail
                  go_ret2
                  exact ⟨by rw [HN.out]; rfl, rfl⟩
                · by_cases hu1 : 70 < u.length
                  · have HN : Hid (G = (0, false)) := HG.trans (numV_long _ _ _ hu1)
                    have e1 : (u == []) = false := by simpa using hu0
                    have e2 : u.isEmpty = false := by simpa using hu0
                    have hu1' : 70 < (u.length : Int) := by omega
                    clear HG
                    go_wp2_with fail
                    go_ret2
                    exact ⟨by rw [HN.out]; rfl, rfl⟩
                  · have e1 : (u == []) = false := by simpa using hu0
                    have e2 : u.isEmpty = false := by simpa using hu0
                    have e3 : decide (70 < u.length) = false := by simp; omega
                    have hu1' : u.length ≤ 70 := by omega
                    have hG3 : G = outOf false (foldG b u 0) := HG.trans (numV_loop _ _ _ hu0 hu1)
                    obtain ⟨F, hF⟩ : ∃ F, F = foldG b u 0 := ⟨_, rfl⟩
                    rw [← hF] at hG3
                    have HF0 := Lib.hid hF
                    have HG2 := Lib.hid hG3
                    clear HG hu1 hF hG3
                    go_wp2_with fail
                    go_loopg [7, 8] u.length (fun g vv vi wr => ∃ (i : Nat) (x : Int), g = u.length - i ∧ vv = .int .i64 x ∧ vi = .int .i64 i ∧ i ≤ u.length ∧ Hid (F = foldG b (u.drop i) x) ∧ w = wr)
                    case atStart => exact ⟨0, 0, rfl, rfl, rfl, by omega, HF0, rfl⟩
                    case round =>
                      obtain ⟨i, x, hg, rfl, rfl, hi, HF, rfl⟩ := hrel
                      have Hg := Lib.hid hg
                      clear hg
                      by_cases hlt : i < u.length
                      · have hd : u.drop i = u[i] :: u.drop (i + 1) := List.drop_eq_getElem_cons hlt
                        have HF2 := HF.out
                        rw [hd] at HF2
                        simp only [foldG] at HF2
                        obtain ⟨c8, hc8⟩ : ∃ c8, c8 = u[i] := ⟨_, rfl⟩
                        have hget : ∀ h, ((⟨u.toArray⟩ : ByteArray)[i]'h) = c8 := fun _ => hc8.symm
                        rw [← hc8] at HF2
                        have hlt' : (i : Int) < (u.length : Int) := by omega
                        have HR := Lib.hid (rdigit_any c8 w)
                        clear hc8 hd HF
                        by_cases hbad : worth c8 < 0 ∨ b ≤ worth c8
                        · rw [if_pos hbad] at HF2
                          have HN : Hid (G = (0, false)) := by show _ = _; rw [HG2.out, HF2]; rfl
                          have hbig : b ≤ rdig c8 := by unfold rdig; split <;> omega
                          generalize rdig c8 = d8 at *
                          clear HG2 HF2 hbad HF0
                          go_wp2_with fail
                          refine HR.out.mono ?_
                          rintro e w' ⟨rfl, rfl⟩
                          go_wp2_with fail
                          go_ret2
                          exact ⟨by rw [HN.out]; rfl, rfl⟩
                        · rw [if_neg hbad] at HF2
                          have hrd : rdig c8 = worth c8 := by unfold rdig; rw [if_neg (by omega)]
                          have hsm : worth c8 < b := by omega
                          have hsm0 : 0 ≤ worth c8 := by omega
                          rw [hrd] at HR
                          generalize worth c8 = d8 at *
                          have HF3 := Lib.hid HF2
                          clear HF2 hbad hrd HF0
                          go_wp2_with fail
                          refine HR.out.mono ?_
                          rintro e w' ⟨rfl, rfl⟩
                          go_wp2_with fail
                          go_roundg (u.length - (i + 1))
                          case rel => exact ⟨i + 1, _, rfl, rfl, by go_num, by omega, HF3, rfl⟩
                          case measure => have := Hg.out; omega
                      · obtain rfl : i = u.length := by omega
                        have HF2 := HF.out
                        rw [List.drop_length] at HF2
                        have HN : Hid (G = (if false then wrap64 (-x) else x, true)) := by show _ = _; rw [HG2.out, HF2]; rfl
                        clear HF HG2 HF2 HF0
                        go_wp2_with fail
                        go_ret2
                        exact ⟨by rw [HN.out]; rfl, rfl⟩
end Go.Proofs.YtcfkhbkhejaegaaDoor.Dg
