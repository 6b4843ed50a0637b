/-
  Lemmas on the way, for every input that they name: SrcB.
-/
import Derived.Test.YtompdfpjmdnhoabGreatDoorRows
import Derived.WalkKit
import Derived.WalkSmall
import Derived.Lib.Hide
import Derived.BigQuiet
import Derived.Deep.QuietTactic
import Derived.Deep.LoopGhost
import Derived.Deep.DeepCutAuto
import Derived.Deep.CutBlock
import Derived.OneCell
import Derived.Test.YtompdfpjmdnhoabGreatDoorQ01
set_option linter.unusedVariables false
set_option linter.unusedSimpArgs false
set_option linter.deprecated false
namespace Go.Proofs.YtompdfpjmdnhoabGreatDoor.Src
open Go.RowKit
def SrcIs (w : World) (sb : Nat) (s : ByteArray) (k : Nat) : Prop :=
  w.heap[sb]? = some (.cells #[.string s, .int .i64 k] 76 (0, 0)) ∧ k ≤ s.size ∧ s.size ≤ 100000
section
variable {w w' : World} {sb : Nat} {s : ByteArray} {k : Nat}
theorem SrcIs.c0 (h : SrcIs w sb s k) : w.cell? ⟨sb, 0, none⟩ = some (.string s) := by simp [World.cell?, h.1]
theorem SrcIs.c1 (h : SrcIs w sb s k) : w.cell? ⟨sb, 1, none⟩ = some (.int .i64 k) := by simp [World.cell?, h.1]
theorem SrcIs.f1 (h : SrcIs w sb s k) : w.frozen? ⟨sb, 1, none⟩ = false := by simp [World.frozen?, h.1]
theorem SrcIs.lt (h : SrcIs w sb s k) : sb < w.heap.size := (Array.getElem?_eq_some_iff.1 h.1).1
theorem SrcIs.drewN (h : SrcIs w sb s k) (m : Nat) : SrcIs (w.drewN m) sb s k := h
theorem SrcIs.grown (h : SrcIs w sb s k) {row : Option Nat} (hg : w.grownBy w' row) (hr : some sb ≠ row) : SrcIs w' sb s k := ⟨(hg.block sb h.lt hr).trans h.1, h.2⟩
theorem SrcIs.below {B : Nat} (h : SrcIs w sb s k) (hb : Below B w w') (hr : sb < B) : SrcIs w' sb s k := ⟨(hb.block sb hr).trans h.1, h.2⟩
theorem SrcIs.put (h : SrcIs w sb s k) (k' : Nat) (hk : k' ≤ s.size) {v : Int} (hv : v = k') : SrcIs (w.setCell ⟨sb, 1, none⟩ (.int .i64 v)) sb s k' :=
  ⟨by subst hv; simp [World.setCell, Array.getElem?_modify, h.1], hk, h.2.2⟩
end
theorem grown_put (w : World) (sb i : Nat) (v : Value) : w.grownBy (w.setCell ⟨sb, i, none⟩ v) (some sb) :=
  ⟨rfl, rfl, rfl, by simp [World.setCell], fun k hk hne => Below.heap_setCell w _ v k (fun e => hne (by rw [e]))⟩
theorem grown_drewN (w : World) (m : Nat) {w' : World} {row : Option Nat} (h : (w.drewN m).grownBy w' row) : w.grownBy w' row := ⟨h.os, h.tape, h.output, h.size, h.block⟩
theorem grown_drewN' {w w' : World} {row : Option Nat} (h : w.grownBy w' row) (m : Nat) : w.grownBy (w'.drewN m) row := ⟨h.os, h.tape, h.output, h.size, h.block⟩
theorem grown_trans {a b c : World} {row : Option Nat} (h : a.grownBy b row) (k : b.grownBy c row) : a.grownBy c row :=
  ⟨k.os.trans h.os, k.tape.trans h.tape, k.output.trans h.output, Nat.le_trans h.size k.size, fun i hi hr => (k.block i (Nat.lt_of_lt_of_le hi h.size) hr).trans (h.block i hi hr)⟩
theorem quiet_same {P : Program} {f : FuncId} {args : Array Value} {w : World} {n : Nat} {v : Value}
    (h : Calls P f args (w.drewN n) fun e w' => e = .returned v ∧ w.drewN n = w') : Calls P f args (w.drewN n) fun e w'' => e = .returned v ∧ ∃ m, w'' = w.drewN m :=
  h.mono fun _ _ ⟨he, hm⟩ => ⟨he, n, hm.symm⟩
theorem new_any (s : ByteArray) (hs : s.size ≤ 100000) (w : World) :
    Calls Tryz.prog 28 #[.string s] w fun e w' => e = .returned (.pointer (some ⟨w.heap.size, 0, none⟩)) ∧ SrcIs w' w.heap.size s 0 ∧ Below w.heap.size w w' ∧ w.heap.size + 1 ≤ w'.heap.size := by
  go_enter Tryz.func28, Tryz.ntmps28
  go_wp2
  go_ret
  exact ⟨rfl, ⟨heap_alloc_new w _, Nat.zero_le _, hs⟩, (Below.refl _ _).alloc (Nat.le_refl _) _, by simp⟩
theorem blank_any (c : Int) (w : World) : Calls Tryz.prog 50 #[.int .u8 c] w fun e w' => e = .returned (.bool (decide (c ≤ 32))) ∧ w = w' := by
  by_cases h1 : c = 32
  · subst h1
    go_enter Tryz.func50, Tryz.ntmps50
    go_wp2
    go_ret
    exact ⟨rfl, rfl⟩
  · by_cases h2 : c < 32
    · have h3 : decide (c ≤ 32) = true := by simp; omega
      have H3 := Lib.hid h3
      clear h3
      go_enter Tryz.func50, Tryz.ntmps50
      go_wp2
      go_ret
      exact ⟨by rw [H3.out]; rfl, rfl⟩
    · have h3 : decide (c ≤ 32) = false := by simp; omega
      have H3 := Lib.hid h3
      clear h3
      go_enter Tryz.func50, Tryz.ntmps50
      go_wp2
      go_ret
      exact ⟨by rw [H3.out]; rfl, rfl⟩
theorem word_nil (w : World) : Calls Tryz.prog 38 #[.pointer none] w fun e w' => e = .returned (.tuple #[.string ByteArray.empty, .bool false]) ∧ w = w' := by
  go_enter Tryz.func38, Tryz.ntmps38
  go_wp2
  go_ret2
  exact ⟨rfl, rfl⟩
theorem until_nil (c : Int) (w : World) : Calls Tryz.prog 77 #[.pointer none, .int .u8 c] w fun e w' => e = .returned (.tuple #[.string ByteArray.empty, .bool false]) ∧ w = w' := by
  go_enter Tryz.func77, Tryz.ntmps77
  go_wp2
  go_ret2
  exact ⟨rfl, rfl⟩
theorem isB_yes {s : ByteArray} {j : Nat} {hj : j < s.size} (h : ((s[j]'hj).toNat : Int) ≤ 32) : isB true (s.data.toList[j]'hj) = true := by
  have h1 : (s[j]'hj).toNat ≤ 32 := by omega
  show (decide ((s[j]'hj).toNat ≤ 32) == true) = true
  simp [h1]
theorem isB_no {s : ByteArray} {j : Nat} {hj : j < s.size} (h : ¬ ((s[j]'hj).toNat : Int) ≤ 32) : isB true (s.data.toList[j]'hj) = false := by
  have h1 : ¬ (s[j]'hj).toNat ≤ 32 := by omega
  show (decide ((s[j]'hj).toNat ≤ 32) == true) = false
  simp [h1]
theorem isB_no' {s : ByteArray} {j : Nat} {hj : j < s.size} (h : ¬ ((s[j]'hj).toNat : Int) ≤ 32) : isB false (s.data.toList[j]'hj) = true := by
  have h1 : ¬ (s[j]'hj).toNat ≤ 32 := by omega
  show (decide ((s[j]'hj).toNat ≤ 32) == false) = true
  simp [h1]
theorem isB_yes' {s : ByteArray} {j : Nat} {hj : j < s.size} (h : ((s[j]'hj).toNat : Int) ≤ 32) : isB false (s.data.toList[j]'hj) = false := by
  have h1 : (s[j]'hj).toNat ≤ 32 := by omega
  show (decide ((s[j]'hj).toNat ≤ 32) == false) = false
  simp [h1]
def WordPost (sb : Nat) (s : ByteArray) (k : Nat) (w : World) (e : Ending) (w' : World) : Prop :=
  e = .returned (.tuple #[.string (s.extract (from_ s.data.toList k) (to_ s.data.toList k)), .bool (decide (from_ s.data.toList k < s.size))]) ∧
    SrcIs w' sb s (next_ s.data.toList k) ∧ w.grownBy w' (some sb)
theorem word_post {w w9 : World} {sb k j i : Nat} {s : ByteArray} {v : Int} (hj : j = from_ s.data.toList k) (hi : i = skipB false s.data.toList j) (h : SrcIs w9 sb s i) (hg : w.grownBy w9 (some sb)) (hv : v = min ((i : Int) + 1) s.size) :
    WordPost sb s k w (.returned (.tuple #[.string (s.extract j i), .bool (!(s.extract j i).toList.isEmpty)])) ((w9.setCell ⟨sb, 1, none⟩ (.int .i64 v)).drew) := by
  have hk := h.2.1
  have hsz : s.data.toList.length = s.size := rfl
  have hto : to_ s.data.toList k = i := by unfold to_; rw [← hj, hi]
  have hji : j ≤ i := by rw [hi]; exact skip_ge _ _ _
  refine ⟨?_, ?_, ?_⟩
  · rw [hto, ← hj, ByteArray.toList_eq]
    have hb : (!(s.extract j i).data.toList.isEmpty) = decide (j < s.size) := by
      have hlen : (s.extract j i).data.toList.length = i - j := by
        show (s.extract j i).size = i - j
        rw [ByteArray.size_extract]
        omega
      rw [Bool.eq_iff_iff]
      simp only [Bool.not_eq_true', decide_eq_true_eq, ← Bool.not_eq_true, List.isEmpty_iff_length_eq_zero, hlen]
      constructor
      · intro h1; omega
      · intro h1
        have := to_gt (l := s.data.toList) (k := k) (by rw [← hj, hsz]; exact h1)
        rw [hto, ← hj] at this
        omega
    rw [hb]
  · have hn : next_ s.data.toList k ≤ s.size := next_le _ _
    exact h.put _ hn (by unfold next_; rw [hto, hsz]; omega)
  · exact grown_drewN' (grown_trans hg (grown_put _ _ _ _)) 1
set_option maxHeartbeats 2000000 in
theorem word_any (sb k : Nat) (s : ByteArray) (w : World) (h : SrcIs w sb s k) : Calls Tryz.prog 38 #[.pointer (some ⟨sb, 0, none⟩)] w (WordPost sb s k w) := by
  have hsz : s.data.toList.length = s.size := rfl
  have hm := h.2.2
  have Hsz := Lib.hid hsz
  clear hsz
  go_enter Tryz.func38, Tryz.ntmps38
  go_upto_block 0 with fail
  go_cut [] (fun wc => SrcIs wc sb s (from_ s.data.toList k) ∧ w.grownBy wc (some sb))
  case first =>
    go_wp2
    go_loopg [] (s.size - k) (fun g wr => ∃ j : Nat, g = s.size - j ∧ SrcIs wr sb s j ∧ Hid (from_ s.data.toList j = from_ s.data.toList k) ∧ w.grownBy wr (some sb))
    case atStart => exact ⟨k, rfl, h, rfl, World.grownBy.refl _ _⟩
    case round =>
      obtain ⟨j, hg, hj, hf, hgr⟩ := hrel
      have c0 := hj.c0
      have c1 := hj.c1
      have f1 := hj.f1
      have hg' := Lib.hid hg
      clear hg
      have hjl := hj.2.1
      by_cases hb : ∃ hlt : j < s.size, (s[j].toNat : Int) ≤ 32
      · obtain ⟨hlt, hb⟩ := hb
        have hlt' : (j : Int) < (s.size : Int) := by omega
        have hbd : decide ((s[j].toNat : Int) ≤ 32) = true := by simpa using hb
        have hst := Lib.hid (skip_step (b := true) (l := s.data.toList) (k := j) (by rw [Hsz.out]; exact hlt) (isB_yes hb))
        go_wp2_with fail
        go_quiet ((go_at_call 50; exact quiet_same (blank_any _ _)))
        go_wp2
        go_roundg (s.size - (j + 1))
        case rel => exact ⟨j + 1, rfl, (hj.drewN _).put (j + 1) (by omega) (by omega), hst.out.trans hf.out, grown_trans hgr (grown_drewN _ _ (grown_put _ _ _ _))⟩
        case measure => rw [hg'.out]; exact Nat.sub_lt_sub_left hlt (Nat.lt_succ_self j)
      · have hst : from_ s.data.toList k = j := by
          rw [← hf.out]
          by_cases hlt : j < s.size
          · exact skip_stop (by rw [Hsz.out]; exact hlt) (isB_no fun h => hb ⟨hlt, h⟩)
          · exact skip_end (by rw [Hsz.out]; omega)
        have Hst := Lib.hid hst
        clear hst
        by_cases hlt : j < s.size
        all_goals
          first
            | (have hlt' : (j : Int) < (s.size : Int) := by omega
               have hb' : decide ((s[j].toNat : Int) ≤ 32) = false := by
                 have := fun h => hb ⟨hlt, h⟩
                 simpa using this)
            | have hlt' : ¬ (j : Int) < (s.size : Int) := by omega
          clear hb
          go_wp2_with fail
          first
            | go_quiet ((go_at_call 50; exact quiet_same (blank_any _ _)))
            | go_quiet (fail)
          go_wp2_with fail
          go_meet
          exact ⟨by rw [Hst.out]; exact hj.drewN _, grown_drewN' hgr _⟩
  case rest =>
    obtain ⟨hj, hgr⟩ := hcut
    obtain ⟨j, hj0⟩ : ∃ j, j = from_ s.data.toList k := ⟨_, rfl⟩
    rw [← hj0] at hj
    have Hj := Lib.hid hj0
    clear hj0
    have c1 := hj.c1
    go_upto_block 2 with fail
    go_cut [] (fun wc => SrcIs wc sb s (skipB false s.data.toList j) ∧ w.grownBy wc (some sb))
    case first =>
      go_wp2
      clear c1
      go_loopg [] (s.size - j) (fun g wr => ∃ i : Nat, g = s.size - i ∧ SrcIs wr sb s i ∧ Hid (skipB false s.data.toList i = skipB false s.data.toList j) ∧ w.grownBy wr (some sb))
      case atStart => exact ⟨j, rfl, hj, rfl, hgr⟩
      case round =>
        obtain ⟨i, hg, hi, hf, hgr⟩ := hrel
        have c0 := hi.c0
        have c1 := hi.c1
        have f1 := hi.f1
        have hg' := Lib.hid hg
        clear hg
        have hil := hi.2.1
        by_cases hb : ∃ hlt : i < s.size, ¬ (s[i].toNat : Int) ≤ 32
        · obtain ⟨hlt, hb⟩ := hb
          have hlt' : (i : Int) < (s.size : Int) := by omega
          have hbd : decide ((s[i].toNat : Int) ≤ 32) = false := by simpa using hb
          have hst := Lib.hid (skip_step (b := false) (l := s.data.toList) (k := i) (by rw [Hsz.out]; exact hlt) (isB_no' hb))
          go_wp2_with fail
          go_quiet ((go_at_call 50; exact quiet_same (blank_any _ _)))
          go_wp2
          go_roundg (s.size - (i + 1))
          case rel => exact ⟨i + 1, rfl, (hi.drewN _).put (i + 1) (by omega) (by omega), hst.out.trans hf.out, grown_trans hgr (grown_drewN _ _ (grown_put _ _ _ _))⟩
          case measure => rw [hg'.out]; exact Nat.sub_lt_sub_left hlt (Nat.lt_succ_self i)
        · have hst : skipB false s.data.toList j = i := by
            rw [← hf.out]
            by_cases hlt : i < s.size
            · exact skip_stop (by rw [Hsz.out]; exact hlt) (isB_yes' (by by_cases h : (s[i].toNat : Int) ≤ 32; exact h; exact absurd ⟨hlt, h⟩ hb))
            · exact skip_end (by rw [Hsz.out]; omega)
          have Hst := Lib.hid hst
          clear hst
          by_cases hlt : i < s.size
          all_goals
            first
              | (have hlt' : (i : Int) < (s.size : Int) := by omega
                 have hb' : decide ((s[i].toNat : Int) ≤ 32) = true := by
                   by_cases h : (s[i].toNat : Int) ≤ 32
                   · simpa using h
                   · exact absurd ⟨hlt, h⟩ hb)
              | have hlt' : ¬ (i : Int) < (s.size : Int) := by omega
            clear hb
            go_wp2_with fail
            first
              | go_quiet ((go_at_call 50; exact quiet_same (blank_any _ _)))
              | go_quiet (fail)
            go_wp2_with fail
            go_meet
            exact ⟨by rw [Hst.out]; exact hi.drewN _, grown_drewN' hgr _⟩
    case rest =>
      obtain ⟨hi, hgr2⟩ := hcut
      have hij := skip_ge false s.data.toList j
      have hle := hi.2.1
      obtain ⟨i, hi0⟩ : ∃ i, i = skipB false s.data.toList j := ⟨_, rfl⟩
      rw [← hi0] at hi hle hij
      have Hi := Lib.hid hi0
      clear hi0
      have hi2 : (j : Int) ≤ (i : Int) := by omega
      have hi3 : (i : Int) ≤ (s.size : Int) := by omega
      have c0 := hi.c0
      have c1 := hi.c1
      have f1 := hi.f1
      go_wp2_with fail
      go_quiet (fail)
      go_wp2_with fail
      have hi' := hi.drewN nq
      have hgr3 := grown_drewN' hgr2 nq
      have d0 := hi'.c0
      have d1 := hi'.c1
      have g1 := hi'.f1
      clear c0 c1 f1 hi hgr2
      generalize wc.drewN nq = w9 at *
      have Hw : Hid (wrap64 ((i : Int) + 1) = (i : Int) + 1) := IntWalk.wrap64_in _ ⟨by omega, by omega⟩
      by_cases hx : i < s.size
      all_goals
        go_region
        all_goals
          go_wp2
          all_goals
            go_ret2
            have hw := Hw.out
            exact word_post Hj.out Hi.out hi' hgr3 (by omega)
end Go.Proofs.YtompdfpjmdnhoabGreatDoor.Src
