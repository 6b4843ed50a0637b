/-
  Chapter 8 (source): the walk of SourceWords.
-/
import Derived.Test.YtfoogcdpllkeoaaSrcF
import Derived.OwnWalk
import Derived.Deep.AppendLies
namespace Go.Proofs.Ytfoogcdpllkeoaa.Src
open Go.RowKit

theorem words_bad (t : ByteArray) (w : World) (hmt : t.size ≤ maxLen) (h : 500 < t.size) :
    Calls Try.prog 7 #[.string t] w fun e w' => e = .returned (.bool true) ∧ Below w.heap.size w w' := by
  unfold maxLen at hmt
  go_enter Try.func7, Try.ntmps7
  go_wp2_with fail
  refine (alive_any _).mono ?_
  rintro e w1 ⟨rfl, hb⟩
  go_wp2_with fail
  go_ret
  exact ⟨rfl, hb⟩

theorem info9 : (Try.prog.info? 9).map (fun i => (i.zero, i.size, i.bytes)) = some (some (.string ByteArray.empty), 1, 16) := by kernel_rfl

/-- What is read so far: the words, and their text with a blank behind each. -/
structure Read (t : ByteArray) (k : Nat) (ws : List ByteArray) (J : ByteArray) : Prop where
  words : ∀ w ∈ ws, IsWord w
  text : J.data.toList = cat ws
  small : J.size ≤ 2 * k
  few : ws.length ≤ k

theorem Read.more {t : ByteArray} {k k' : Nat} {ws : List ByteArray} {J : ByteArray} (h : Read t k ws J) (hk : k ≤ k') : Read t k' ws J :=
  ⟨h.words, h.text, by have := h.small; omega, by have := h.few; omega⟩

theorem Read.step {t : ByteArray} {k : Nat} {ws : List ByteArray} {J : ByteArray} (h : Read t k ws J) (hk : k ≤ t.size) (hf : from_ t.data.toList k < t.size) :
    Read t (next_ t.data.toList k) (ws ++ [t.extract (from_ t.data.toList k) (to_ t.data.toList k)]) (J ++ (t.extract (from_ t.data.toList k) (to_ t.data.toList k) ++ ⟨#[32]⟩)) := by
  have h1 := word_is t k hk hf
  have h2 := word_far t k hk hf
  refine ⟨fun w hw => ?_, ?_, ?_, ?_⟩
  · rcases List.mem_append.1 hw with hw | hw
    · exact h.words w hw
    · simp at hw
      subst hw
      exact h1
  · rw [cat_snoc, ← h.text]
    simp
  · have h3 := h.small
    simp only [ByteArray.size_append]
    have h4 : (⟨#[32]⟩ : ByteArray).size = 1 := rfl
    omega
  · have h3 := h.few
    simp
    omega

theorem own_kept {w w' : World} {B n : Nat} {v : Value} {xs : List Value} {b : Nat} (h : w.ownsRow B 9 1 v n xs) (hg : w.grownBy w' (some b)) (hb : b < B) : w'.ownsRow B 9 1 v n xs := by
  refine h.kept hg (Or.inr fun e => ?_)
  have := h.lt b e
  omega

theorem own_ne {w : World} {B n : Nat} {v : Value} {xs : List Value} {b : Nat} (h : w.ownsRow B 9 1 v n xs) (hb : b < B) : some b ≠ v.ownBlock := by
  intro e
  have := h.lt b e.symm
  omega

theorem own_snoc {w : World} {B : Nat} {v : Value} {ws : List ByteArray} {x : ByteArray} (h : w.ownsRow B 9 1 v (ws.length + 1) (ws.map Value.string ++ [Value.string x])) :
    w.ownsRow B 9 1 v (ws ++ [x]).length ((ws ++ [x]).map Value.string) := by
  simpa using h

theorem own_slice {w : World} {B n : Nat} {v : Value} {xs : List Value} (h : w.ownsRow B 9 1 v n xs) : ∃ A cap, v = .slice A n cap := by
  rcases h.2 with ⟨rfl, rfl⟩ | ⟨g, cap, cur, hv, _⟩
  · exact ⟨_, _, rfl⟩
  · exact ⟨_, _, hv⟩

theorem below_grown {w w' : World} (h : Below w.heap.size w w') : w.grownBy w' none := ⟨h.os, h.tape, h.output, h.size, fun k hk _ => h.block k hk⟩

/-- A word of the joined text is read as it was. -/
theorem word_at (ub : Nat) (J : ByteArray) (ws : List ByteArray) (j : Nat) (w : World) (h : SrcIs w ub J (cat (ws.take j)).length) (hJ : J.data.toList = cat ws) (hw : ∀ x ∈ ws, IsWord x) (hj : j < ws.length) :
    Calls Try.prog 22 #[.pointer (some ⟨ub, 0, none⟩)] w fun e w' => e = .returned (.tuple #[.string ws[j], .bool true]) ∧ SrcIs w' ub J (cat (ws.take (j + 1))).length ∧ w.grownBy w' (some ub) := by
  obtain ⟨h1, h2, h3, h4, h5⟩ := cat_read ws j hj hw
  have hJs : J.size = (cat ws).length := by rw [← hJ]; rfl
  refine (word_any ub _ J w h).mono ?_
  rintro e w' ⟨rfl, hs, hg⟩
  rw [hJ, h3] at hs
  rw [hJ, h1, h2]
  refine ⟨?_, hs, hg⟩
  have hd : decide ((cat (ws.take j)).length < J.size) = true := by rw [hJs]; simp; omega
  have hx : J.extract (cat (ws.take j)).length ((cat (ws.take j)).length + ws[j].size) = ws[j] := by
    apply ByteArray.ext
    apply Array.ext'
    rw [Lib.extract_data, hJ, Nat.add_sub_cancel_left, h5]
  rw [hd, hx]

theorem word_fin (ub : Nat) (J : ByteArray) (ws : List ByteArray) (w : World) (h : SrcIs w ub J (cat (ws.take ws.length)).length) (hJ : J.data.toList = cat ws) :
    Calls Try.prog 22 #[.pointer (some ⟨ub, 0, none⟩)] w fun e w' => ∃ x, e = .returned (.tuple #[.string x, .bool false]) ∧ w.grownBy w' (some ub) := by
  have hJs : J.size = (cat ws).length := by rw [← hJ]; rfl
  refine (word_any ub _ J w h).mono ?_
  rintro e w' ⟨rfl, hs, hg⟩
  have hd : decide (from_ J.data.toList (cat (ws.take ws.length)).length < J.size) = false := by
    rw [List.take_length, hJ, cat_end, hJs]
    simp
  rw [hd]
  exact ⟨_, rfl, hg⟩

set_option maxRecDepth 100000 in
set_option maxHeartbeats 2000000 in
theorem words_walk (t : ByteArray) (w : World) (ht : t.size ≤ 500) :
    Calls Try.prog 7 #[.string t] w fun e w' => e = .returned (.bool true) ∧ Below w.heap.size w w' := by
  obtain ⟨i0, hi, hz0, hz1, hz2⟩ := info_parts info9
  go_enter Try.func7, Try.ntmps7
  go_wp2_with fail
  refine (alive_any _).mono ?_
  rintro e w1 ⟨rfl, hb1⟩
  go_wp2_with fail
  refine (new_any t (by omega) _).mono ?_
  rintro e w2 ⟨rfl, h2, hb2, hz3⟩
  have hz := hb1.size
  go_upto_block 0 with fail
  have Hb := Lib.hid (hb1.trans (hb2.mono hz))
  clear hb1 hb2
  generalize w1.heap.size = sb at *
  go_cut [4, 5] (fun s4 s5 wc => ∃ (ws : List ByteArray) (J : ByteArray) (v : Value), s4 = .string J ∧ v = s5 ∧ SrcIs wc sb t t.size ∧ Hid (Read t t.size ws J) ∧ Hid (wc.ownsRow (sb + 1) 9 1 v ws.length (ws.map Value.string)) ∧ sb + 1 ≤ wc.heap.size ∧ Hid (Below w.heap.size w wc))
  case first =>
    go_wp2
    go_loopg [4, 5, 6] (t.size + 1) (fun g s4 s5 s6 wr => ∃ (k : Nat) (ws : List ByteArray) (J : ByteArray) (v : Value), g = t.size + 1 - ws.length ∧ s6 = .int .i64 ws.length ∧ s4 = .string J ∧ v = s5 ∧ SrcIs wr sb t k ∧ Hid (Read t k ws J) ∧ Hid (wr.ownsRow (sb + 1) 9 1 v ws.length (ws.map Value.string)) ∧ sb + 1 ≤ wr.heap.size ∧ Hid (Below w.heap.size w wr))
    case atStart => exact ⟨0, [], ByteArray.empty, _, rfl, rfl, rfl, rfl, h2, ⟨by simp, rfl, by simp, by simp⟩, World.ownsRow_nil _ _ _ _, hz3, Hb⟩
    case round =>
      obtain ⟨k, ws, J, v, hg, rfl, rfl, rfl, hs, hR, hown, hsz, hb⟩ := hrel
      have Hg := Lib.hid hg
      clear hg
      have hk := hs.2.1
      have hle : (ws.length : Int) ≤ (t.size : Int) := by have := hR.out.few; omega
      go_wp2_with fail
      refine (word_any _ k t _ hs).mono ?_
      rintro e w4 ⟨rfl, hs4, hg4⟩
      have hb4 : Hid (Below w.heap.size w w4) := hb.out.grown hg4 hb.out.size (fun j e => by cases e; omega)
      have hown4 : w4.ownsRow (sb + 1) 9 1 v ws.length (ws.map Value.string) := own_kept hown.out hg4 (by omega)
      have hsz4 : sb + 1 ≤ w4.heap.size := by have := hg4.size; omega
      have hwl : ws.length ≤ 500 := by omega
      have hJs : J.size ≤ 1000 := by have := hR.out.small; omega
      by_cases hf : from_ t.data.toList k < t.size
      · have hd : decide (from_ t.data.toList k < t.size) = true := by simpa using hf
        have hRs := Lib.hid (hR.out.step hk hf)
        have hfar := (word_far t k hk hf).1
        obtain ⟨word, hword⟩ : ∃ word, word = t.extract (from_ t.data.toList k) (to_ t.data.toList k) := ⟨_, rfl⟩
        have hws : word.size ≤ 500 := by rw [hword, ByteArray.size_extract]; omega
        rw [hd]
        rw [← hword] at hRs ⊢
        generalize next_ t.data.toList k = k' at *
        clear hword hd hf
        go_wp2_with (first
          | (at_builtin; refine wpList_append_own _ rfl _ _ 39 rfl (sb + 1) 9 i0 (.string ByteArray.empty) 1 16 Try.underlying39 hi hz0 hz1 hz2 rfl (by decide) _ _ _ rfl (hown4.alloc _) ⟨w4.heap.size, 0, none⟩ 1 1 [.string word] rfl rfl (cell_one_new _ _ _) (by intro u hu; simp at hu; subst hu; rfl) (by unfold maxLen; omega) (by omega) (by simp; omega) ?_; intro v' w5 hown5 hgrow5 hnil5)
          | go_in)
        have hgA : w4.grownBy w5 v.ownBlock := grown_trans (World.grownBy_alloc w4 _ _) hgrow5
        go_roundg (t.size + 1 - (ws.length + 1))
        case rel => exact ⟨k', ws ++ [word], _, v', by simp, by simp, rfl, rfl, hs4.grown hgA (own_ne hown4 (by omega)), hRs.out, own_snoc hown5, by have := hgA.size; omega, hb4.out.grown hgA hb4.out.size (fun j e => by have := hown4.lt j e; omega)⟩
        case measure => have := Hg.out; omega
      · have hlast := last_far t k hk hf
        have hd : decide (from_ t.data.toList k < t.size) = false := by simpa using hf
        rw [hd]
        rw [hlast] at hs4
        clear hlast hd hf
        go_wp2
        go_meet
        exact ⟨ws, J, v, rfl, rfl, hs4, hR.out.more hk, hown4, hsz4, hb4⟩
  case rest =>
    obtain ⟨ws, J, v, rfl, rfl, hs, hR, hown, hsz, hb⟩ := hcut
    have hJs : J.size ≤ 1000 := by have := hR.out.small; omega
    have hwl : ws.length ≤ 500 := by have := hR.out.few; omega
    have HJ := Lib.hid hR.out.text
    have HW := Lib.hid hR.out.words
    clear hR
    go_wp2_with fail
    refine (new_any J (by omega) _).mono ?_
    rintro e w6 ⟨rfl, hu, hbu, hzu⟩
    have hs6 := hs.below hbu hs.lt
    have hown6 : Hid (w6.ownsRow (sb + 1) 9 1 v ws.length (ws.map Value.string)) := hown.out.kept (below_grown hbu) (by cases v.ownBlock <;> simp)
    have hb6 : Hid (Below w.heap.size w w6) := hb.out.trans (hbu.mono hb.out.size)
    have hlow : ∀ j, v.ownBlock = some j → j < wc.heap.size := fun j e => (hown.out.lt j e).2
    have Hlow := Lib.hid hlow
    have hsub : sb < wc.heap.size := by omega
    have hwu : w.heap.size ≤ wc.heap.size := hb.out.size
    obtain ⟨A, cap, rfl⟩ := own_slice hown.out
    clear hlow hbu hs hown hb
    generalize wc.heap.size = ub at *
    go_wp2_with fail
    go_loopg [10] ws.length (fun g s10 wr => ∃ j : Nat, g = ws.length - j ∧ s10 = .int .i64 j ∧ j ≤ ws.length ∧ SrcIs wr ub J (cat (ws.take j)).length ∧ SrcIs wr sb t t.size ∧ Hid (wr.ownsRow (sb + 1) 9 1 (.slice A ws.length cap) ws.length (ws.map Value.string)) ∧ Hid (Below w.heap.size w wr))
    case atStart => exact ⟨0, rfl, rfl, by omega, hu, hs6, hown6, hb6⟩
    case round =>
      obtain ⟨j, hg, rfl, hj, hu, hs, hown, hb⟩ := hrel
      have Hg := Lib.hid hg
      clear hg
      by_cases hjl : j < ws.length
      · obtain ⟨g, cap', hA, hgb, hgl⟩ := World.ownsRow.form hown.out (by omega)
        obtain rfl : A = some ⟨g, 0, none⟩ := by injection hA
        clear hA
        have hgu : g < ub := Hlow.out g rfl
        have hne : Hid (ws[j].toList.isEmpty = false) := by
          have h1 := (HW.out ws[j] (List.getElem_mem hjl)).1
          show _ = _
          rw [ByteArray.toList_eq, ← Bool.not_eq_true, List.isEmpty_iff_length_eq_zero]
          have h2 : ws[j].data.toList.length = ws[j].size := rfl
          omega
        go_wp2_with fail
        refine (word_at ub J ws j _ hu HJ.out HW.out hjl).mono ?_
        rintro e w7 ⟨rfl, hu7, hg7⟩
        have hs7 := hs.grown hg7 (by simp; omega)
        have hown7 : w7.ownsRow (sb + 1) 9 1 (.slice (some ⟨g, 0, none⟩) ws.length cap) ws.length (ws.map Value.string) := hown.out.kept hg7 (Or.inr (by simp [Value.ownBlock]; omega))
        have hcell : w7.cell? ⟨g, j, none⟩ = some (.string ws[j]) := by
          have := hown7.cells (g := g) rfl j (.string ws[j]) (by simp [hjl])
          rw [Go.WideShapes.add_plain] at this
          simpa using this
        have hb7 : Hid (Below w.heap.size w w7) := hb.out.grown hg7 hb.out.size (fun j e => by cases e; omega)
        have Hown7 := Lib.hid hown7
        clear hown7
        have hem := hne.out
        generalize ws[j] = wj at *
        go_wp2
        go_roundg (ws.length - (j + 1))
        case rel => exact ⟨j + 1, rfl, by go_num, by omega, hu7, hs7, Hown7.out, hb7⟩
        case measure => rw [Hg.out]; exact Nat.sub_lt_sub_left hjl (Nat.lt_succ_self j)
      · obtain rfl : j = ws.length := by omega
        go_wp2_with fail
        refine (word_fin ub J ws _ hu HJ.out).mono ?_
        rintro e w7 ⟨x, rfl, hg7⟩
        have hs7 := hs.grown hg7 (by simp; omega)
        have hb7 : Hid (Below w.heap.size w w7) := hb.out.grown hg7 hb.out.size (fun j e => by cases e; omega)
        have hle := Lib.hid (end_empty t)
        go_wp2_with fail
        refine (left_any _ t.size t _ hs7).mono ?_
        rintro e w8 ⟨rfl, m, rfl⟩
        rw [hle.out]
        go_wp2_with fail
        go_ret
        exact ⟨rfl, below_drewN hb7.out _⟩

theorem words_any (t : ByteArray) (ht : t.size ≤ maxLen) (w : World) :
    Calls Try.prog 7 #[.string t] w fun e w' => e = .returned (.bool true) ∧ Below w.heap.size w w' := by
  by_cases h : 500 < t.size
  · exact words_bad t w ht h
  · exact words_walk t w (by omega)

end Go.Proofs.Ytfoogcdpllkeoaa.Src
