/-
  Lemmas on the way, for every input that they name: OwA, WvJ, OuV, OuB.
-/
import Derived.Test.YtompdfpjmdnhoabGreatDoorQ06
import Derived.Test.YtompdfpjmdnhoabGreatDoorQ07
import Derived.Test.YtompdfpjmdnhoabGreatDoorQ08
set_option linter.unusedVariables false
set_option linter.unusedSimpArgs false
set_option linter.deprecated false
set_option linter.unusedSectionVars false
namespace Go.Proofs.YtompdfpjmdnhoabGreatDoor.Ou
open Go.RowKit
theorem great_c (c : UInt8) (w : World) : Calls Tryz.prog 73 #[.int .u8 c.toNat] w fun e w' => e = .returned (.int .u8 ((Wv.up c).toNat : Int)) ∧ w = w' := by
  have hc := c.toNat_lt
  by_cases h : 97 ≤ (c.toNat : Int) ∧ (c.toNat : Int) ≤ 122
  · obtain ⟨h1, h2⟩ := h
    have hu := Wv.up_yes c h1 h2
    rw [hu]
    have e1 : IntKind.u8.wrap ((c.toNat : Int) - 97) = (c.toNat : Int) - 97 := by simp [IntKind.wrap, IntKind.bits, IntKind.signed]; omega
    have e2 : IntKind.u8.wrap ((c.toNat : Int) - 97 + 65) = (c.toNat : Int) - 32 := by simp [IntKind.wrap, IntKind.bits, IntKind.signed]; omega
    have h1n : 97 ≤ c.toNat := by omega
    have h2n : c.toNat ≤ 122 := by omega
    clear hu hc
    go_enter Tryz.func73, Tryz.ntmps73
    go_wp2_with fail
    go_ret
    exact ⟨by simp [e1, e2], rfl⟩
  · have hu := Wv.up_no c h
    rw [hu]
    by_cases h1 : 97 ≤ (c.toNat : Int)
    · have h2 : ¬ (c.toNat : Int) ≤ 122 := fun h2 => h ⟨h1, h2⟩
      have h1n : 97 ≤ c.toNat := by omega
      have h2n : ¬ c.toNat ≤ 122 := by omega
      clear hu hc h
      go_enter Tryz.func73, Tryz.ntmps73
      go_wp2_with fail
      go_ret
      exact ⟨rfl, rfl⟩
    · have h1n : ¬ 97 ≤ c.toNat := by omega
      clear hu hc h
      go_enter Tryz.func73, Tryz.ntmps73
      go_wp2_with fail
      go_ret
      exact ⟨rfl, rfl⟩
theorem same_size {a b : ByteArray} (h : a.size ≠ b.size) : same a b = false := by
  unfold same
  cases hh : (ups a == ups b) with
  | false => rfl
  | true =>
    have e : ups a = ups b := by simpa using hh
    have : (ups a).length = (ups b).length := by rw [e]
    simp [ups] at this
    exact absurd this h
theorem ups_get {a : ByteArray} {j : Nat} (h : j < a.size) : (ups a)[j]? = some (Wv.up a[j]) := by
  unfold ups
  rw [List.getElem?_map]
  have : a.data.toList[j]? = some a[j] := by
    rw [List.getElem?_eq_getElem (by exact h)]
    rfl
  rw [this]
  rfl
theorem same_not {a b : ByteArray} {j : Nat} (ha : j < a.size) (hb : j < b.size) (h : ((Wv.up a[j]).toNat : Int) ≠ ((Wv.up b[j]).toNat : Int)) : same a b = false := by
  unfold same
  cases hh : (ups a == ups b) with
  | false => rfl
  | true =>
    have e : ups a = ups b := by simpa using hh
    have h1 := ups_get ha
    rw [e, ups_get hb] at h1
    injection h1 with h1
    exact absurd (by rw [h1]) h
theorem same_all {a b : ByteArray} (hs : a.size = b.size) (h : ∀ j (ha : j < a.size) (hb : j < b.size), (Wv.up a[j]).toNat = (Wv.up b[j]).toNat) : same a b = true := by
  unfold same
  have e : ups a = ups b := by
    apply List.ext_getElem?
    intro j
    by_cases ha : j < a.size
    · rw [ups_get ha, ups_get (hs ▸ ha)]
      congr 1
      exact UInt8.toNat_inj.1 (h j ha (hs ▸ ha))
    · rw [List.getElem?_eq_none (by simp [ups]; omega), List.getElem?_eq_none (by simp [ups]; omega)]
  rw [e]
  simp
set_option maxHeartbeats 2000000 in
set_option maxRecDepth 100000 in
theorem same_any (a b : ByteArray) (w : World) (ha : a.size ≤ 100000) (hb : b.size ≤ 100000) : Calls Tryz.prog 51 #[.string a, .string b] w fun e w' => e = .returned (.bool (same a b)) ∧ ∃ q, w' = w.drewN q := by
  by_cases hs : a.size = b.size
  · have hsi : (a.size : Int) = (b.size : Int) := by omega
    have hsd : (a.size == b.size) = true := by simpa using hs
    go_enter Tryz.func51, Tryz.ntmps51
    go_wp2_with fail
    generalize hsame : same a b = sm
    have Hsame := Lib.hid hsame
    clear hsame
    have Hs := Lib.hid hs
    have hab : Hid (∀ j (ha : j < a.size) (hb : j < b.size), ((Wv.up a[j]).toNat : Int) ≠ ((Wv.up b[j]).toNat : Int) → sm = false) := fun j ha hb h => by rw [← Hsame.out]; exact same_not ha hb h
    have hal : Hid ((∀ j (ha : j < a.size) (hb : j < b.size), (Wv.up a[j]).toNat = (Wv.up b[j]).toNat) → sm = true) := fun h => by rw [← Hsame.out]; exact same_all Hs.out h
    go_loopg [13] a.size (fun gg v wr => ∃ j : Nat, gg = a.size - j ∧ v = .int .i64 j ∧ j ≤ a.size ∧ Hid (∀ i, i < j → ∀ (ha : i < a.size) (hb : i < b.size), (Wv.up a[i]).toNat = (Wv.up b[i]).toNat) ∧ Hid (∃ q, wr = w.drewN q))
    case atStart => exact ⟨0, rfl, rfl, by omega, fun i hi => by omega, 0, rfl⟩
    case round =>
      obtain ⟨j, hgg, rfl, hj, hall, hq⟩ := hrel
      have Hgg := Lib.hid hgg
      clear hgg
      by_cases hlt : j < a.size
      · have hlt2 : j < b.size := Hs.out ▸ hlt
        have hd : decide (j < a.size) = true := by simpa using hlt
        have hji : (j : Int) < (a.size : Int) := by omega
        have hji2 : (j : Int) < (b.size : Int) := by omega
        have hj2 : j < a.data.size := hlt
        have e4 : wrap64 ((j : Int) + 1) = ((j + 1 : Nat) : Int) := by clear hall Hgg hab hal; unfold wrap64; omega
        by_cases hne : (Wv.up a[j]).toNat = (Wv.up b[j]).toNat
        · have hnd : ((Wv.up a[j]).toNat == (Wv.up b[j]).toNat) = true := by simpa using hne
          have hne' := Lib.hid hne
          clear hne
          go_wp2_with fail
          go_quiet ((go_at_call 73; exact Src.quiet_same (great_c _ _)))
          go_wp2
          go_roundg (a.size - (j + 1))
          case rel =>
            refine ⟨j + 1, rfl, by go_num, by omega, fun i hi ha hb => ?_, by obtain ⟨q, h⟩ := hq.out; exact ⟨_, by rw [h, World.drewN_drewN]⟩⟩
            by_cases hij : i = j
            · subst hij; exact hne'.out
            · exact hall.out i (by omega) ha hb
          case measure => have := Hgg.out; omega
        · have hsf : sm = false := hab.out j hlt hlt2 (by omega)
          subst hsf
          have hnd : ((Wv.up a[j]).toNat == (Wv.up b[j]).toNat) = false := by simpa using hne
          go_wp2_with fail
          go_quiet ((go_at_call 73; exact Src.quiet_same (great_c _ _)))
          go_wp2
          go_ret
          exact ⟨by rw [Hsame.out]; rfl, by obtain ⟨q, h⟩ := hq.out; exact ⟨_, by rw [h, World.drewN_drewN]⟩⟩
      · obtain rfl : j = a.size := by omega
        have hst : sm = true := hal.out fun i ha hb => hall.out i ha ha hb
        subst hst
        have hd : decide (a.size < a.size) = false := by simp
        go_wp2_with fail
        go_ret
        exact ⟨by rw [Hsame.out]; rfl, hq.out⟩
  · rw [same_size hs]
    have hsi : ¬ (a.size : Int) = (b.size : Int) := by omega
    have hsd : (a.size == b.size) = false := by simpa using hs
    go_enter Tryz.func51, Tryz.ntmps51
    go_wp2_with fail
    go_ret
    exact ⟨rfl, 0, rfl⟩
theorem right_bad {n : ByteArray} {j : Nat} (hj : j < n.size) (h : (n[j].toNat : Int) ≤ 32) : rightN n = false := by
  unfold rightN
  have : (n.data.toList.all fun c => decide (32 < c.toNat)) = false := by
    rw [Bool.eq_false_iff]
    intro ha
    have hm : n[j] ∈ n.data.toList := by
      show n.data[j] ∈ n.data.toList
      exact Array.getElem_mem_toList _
    have := List.all_eq_true.1 ha _ hm
    simp at this
    omega
  rw [this]
  rfl
theorem right_good {n : ByteArray} (h : ∀ j (hj : j < n.size), ¬ (n[j].toNat : Int) ≤ 32) : rightN n = (decide (0 < n.size) && decide (n.size ≤ 20)) := by
  unfold rightN
  have : (n.data.toList.all fun c => decide (32 < c.toNat)) = true := by
    rw [List.all_eq_true]
    intro c hc
    obtain ⟨j, hj, e⟩ := List.getElem_of_mem hc
    have hj2 : j < n.size := by simpa using hj
    have h2 := h j hj2
    have e2 : n[j] = c := e
    rw [e2] at h2
    simp
    omega
  rw [this]
  simp
set_option maxHeartbeats 2000000 in
set_option maxRecDepth 100000 in
theorem right_any (n : ByteArray) (w : World) (hn : n.size ≤ 100000) : Calls Tryz.prog 36 #[.string n] w fun e w' => e = .returned (.bool (rightN n)) ∧ w = w' := by
  generalize hR : rightN n = R
  have hbad : Hid (∀ j (hj : j < n.size), (n[j].toNat : Int) ≤ 32 → R = false) := fun j hj h => by rw [← hR]; exact right_bad hj h
  have hgood : Hid ((∀ j (hj : j < n.size), ¬ (n[j].toNat : Int) ≤ 32) → R = (decide (0 < n.size) && decide (n.size ≤ 20))) := fun h => by rw [← hR]; exact right_good h
  clear hR
  go_enter Tryz.func36, Tryz.ntmps36
  go_wp2_with fail
  go_loopg [6] n.size (fun gg v wr => ∃ j : Nat, gg = n.size - j ∧ v = .int .i64 j ∧ j ≤ n.size ∧ Hid (∀ i, i < j → ∀ (hi : i < n.size), ¬ (n[i].toNat : Int) ≤ 32) ∧ wr = w)
  case atStart => exact ⟨0, rfl, rfl, by omega, fun i hi => by omega, rfl⟩
  case round =>
    obtain ⟨j, hgg, rfl, hj, hall, rfl⟩ := hrel
    have Hgg := Lib.hid hgg
    clear hgg
    by_cases hlt : j < n.size
    · have hd : decide (j < n.size) = true := by simpa using hlt
      have hji : (j : Int) < (n.size : Int) := by omega
      have e4 : wrap64 ((j : Int) + 1) = ((j + 1 : Nat) : Int) := by clear hall Hgg hbad hgood; unfold wrap64; omega
      by_cases hb : (n[j].toNat : Int) ≤ 32
      · have hbn : n[j].toNat ≤ 32 := by omega
        have hbd : decide (n[j].toNat ≤ 32) = true := by simpa using hbn
        obtain rfl : R = false := hbad.out j hlt hb
        go_wp2_with fail
        go_ret
        exact ⟨rfl, rfl⟩
      · have hbn : ¬ n[j].toNat ≤ 32 := by omega
        have hbd : decide (n[j].toNat ≤ 32) = false := by simpa using hbn
        have hb' := Lib.hid hb
        go_wp2_with fail
        go_roundg (n.size - (j + 1))
        case rel =>
          refine ⟨j + 1, rfl, by go_num, by omega, fun i hi hi2 => ?_, rfl⟩
          by_cases hij : i = j
          · subst hij; exact hb'.out
          · exact hall.out i (by omega) hi2
        case measure => have := Hgg.out; omega
    · obtain rfl : j = n.size := by omega
      have hd : decide (n.size < n.size) = false := by simp
      have hRv := hgood.out fun i hi => (by have := hall.out i hi hi; omega)
      have HRv := Lib.hid hRv
      clear hRv
      by_cases h0 : 0 < n.size
      · have hne : (n.toList == []) = false := by
          rw [ByteArray.toList_eq]
          cases hl : n.data.toList with
          | nil => exfalso; have : n.size = 0 := by show n.data.size = 0; rw [← Array.length_toList, hl]; rfl
                   omega
          | cons a r => rfl
        have hdz : decide (0 < n.size) = true := by simpa using h0
        by_cases h20 : n.size ≤ 20
        · have hd20 : decide (n.size ≤ 20) = true := by simpa using h20
          have h20i : (n.size : Int) ≤ 20 := by omega
          go_wp2_with fail
          go_ret
          exact ⟨by rw [HRv.out, hdz, hd20]; rfl, rfl⟩
        · have hd20 : decide (n.size ≤ 20) = false := by simpa using h20
          have h20i : ¬ (n.size : Int) ≤ 20 := by omega
          go_wp2_with fail
          go_ret
          exact ⟨by rw [HRv.out, hdz, hd20]; rfl, rfl⟩
      · have hne : (n.toList == []) = true := by
          rw [ByteArray.toList_eq]
          have : n.data.toList = [] := List.eq_nil_of_length_eq_zero (by rw [Array.length_toList]; show n.size = 0; omega)
          rw [this]; rfl
        have hdz : decide (0 < n.size) = false := by simpa using h0
        go_wp2_with fail
        go_ret
        exact ⟨by rw [HRv.out, hdz]; rfl, rfl⟩
end Go.Proofs.YtompdfpjmdnhoabGreatDoor.Ou
namespace Go.Proofs.YtompdfpjmdnhoabGreatDoor.Wv
open Go.RowKit
structure Good (s : St) (r : Int × St) : Prop where
  same : r.1 ≠ 0 → r.2 = s
  len : r.2.M.length = s.M.length
  ok : OkO s → OkO r.2
  few : r.2.O.length ≤ s.O.length + 1
theorem mem_dl {α : Type} {x : α} {l : List α} (h : x ∈ l.dropLast) : x ∈ l := (List.dropLast_sublist l).subset h
theorem good_no (s : St) (c : Int) : Good s (c, s) := ⟨fun _ => rfl, rfl, id, by simp⟩
theorem ok_same {s s' : St} (h : OkO s) (hl : s'.M.length = s.M.length) (hO : ∀ p ∈ s'.O, p ∈ s.O) : OkO s' := fun p hp hk => by
  obtain ⟨q, h1, h2⟩ := h p (hO p hp) hk
  exact ⟨q, h1, by omega⟩
theorem ok_push {s s' : St} {k : Int} {q : Nat} (h : OkO s) (hl : s'.M.length = s.M.length) (O : List (Int × Int)) (hs : ∀ p ∈ O, p ∈ s.O) (hO : s'.O = O ++ [(k, (q : Int))]) (hq : q < s.M.length) : OkO s' := fun p hp hk => by
  rw [hO] at hp
  rcases List.mem_append.1 hp with hp | hp
  · obtain ⟨q', h1, h2⟩ := h p (hs p hp) hk
    exact ⟨q', h1, by omega⟩
  · simp at hp
    subst hp
    exact ⟨q, rfl, by omega⟩
theorem forwardR_good (s : St) (o k : Int) : Good s (forwardR s o k) := by
  unfold forwardR
  split
  · rename_i h
    have hl := lay_length s.M s.h [o, 0] (by simpa using h)
    exact ⟨fun h => absurd rfl h, hl, fun hk => ok_push (q := s.h + 1) hk hl s.O (fun _ hp => hp) rfl (by omega), by simp⟩
  · exact good_no s _
theorem doR_good (s : St) : Good s (doR s) := by
  unfold doR
  split
  · rename_i h
    have hl := lay_length s.M s.h [36] (by simpa using h)
    refine ⟨fun h => absurd rfl h, hl, fun hk p hp h3 => ?_, by simp⟩
    rcases List.mem_append.1 hp with hp | hp
    · exact ok_same (s' := ⟨lay s.M s.h [36], s.h + 1, s.O⟩) hk hl (fun _ hp => hp) p hp h3
    · simp at hp
      subst hp
      simp at h3
  · exact good_no s _
theorem backwardR_good (s : St) (p : Int × Int) (o : Int) : Good s (backwardR s s.O.dropLast p o) := by
  unfold backwardR
  split
  · rename_i h
    have hl := lay_length s.M s.h [o, p.2] (by simpa using h)
    exact ⟨fun h => absurd rfl h, hl, fun hk => ok_same hk hl (fun _ hp => mem_dl hp), by simp; omega⟩
  · exact good_no s _
theorem elseR_good (s : St) (q : Nat) : Good s (elseR s s.O.dropLast q) := by
  unfold elseR
  split
  · rename_i h
    have hl := lay_length s.M s.h [3, 0] (by simpa using h)
    exact ⟨fun h => absurd rfl h, by simpa using hl, fun hk => ok_push (q := s.h + 1) hk (by simpa using hl) s.O.dropLast (fun _ hp => mem_dl hp) rfl (by omega), by simp⟩
  · exact good_no s _
theorem repeatR_good (s : St) (b : Int) (q : Nat) : Good s (repeatR s s.O.dropLast.dropLast b q) := by
  unfold repeatR
  split
  · rename_i h
    have hl := lay_length s.M s.h [3, b] (by simpa using h)
    exact ⟨fun h => absurd rfl h, by simpa using hl, fun hk => ok_same hk (by simpa using hl) (fun _ hp => mem_dl (mem_dl hp)), by simp; omega⟩
  · exact good_no s _
theorem formR_good (s : St) (W : ByteArray) : Good s (formR s W) := by
  unfold formR
  by_cases h0 : fitsB s.O W = false
  · rw [if_pos h0]; exact good_no s _
  rw [if_neg h0]
  by_cases h1 : W = wIf
  · rw [if_pos h1]
    exact forwardR_good s _ _
  rw [if_neg h1]
  by_cases h2 : W = wWhile
  · rw [if_pos h2]
    exact forwardR_good s _ _
  rw [if_neg h2]
  by_cases h3 : W = wElse
  · rw [if_pos h3]
    exact elseR_good s _
  rw [if_neg h3]
  by_cases h4 : W = wThen
  · rw [if_pos h4]
    exact ⟨fun h => absurd rfl h, by simp, fun hk => ok_same hk (by simp) (fun _ hp => mem_dl hp), by simp; omega⟩
  rw [if_neg h4]
  by_cases h5 : W = wBegin
  · rw [if_pos h5]
    refine ⟨fun h => absurd rfl h, rfl, fun hk p hp h3 => ?_, by simp⟩
    rcases List.mem_append.1 hp with hp | hp
    · exact hk p hp h3
    · simp at hp
      subst hp
      simp at h3
  rw [if_neg h5]
  by_cases h6 : W = wUntil
  · rw [if_pos h6]
    exact backwardR_good s _ _
  rw [if_neg h6]
  by_cases h7 : W = wAgain
  · rw [if_pos h7]
    exact backwardR_good s _ _
  rw [if_neg h7]
  by_cases h8 : W = wRepeat
  · rw [if_pos h8]
    exact repeatR_good s _ _
  rw [if_neg h8]
  by_cases h9 : W = wDo
  · rw [if_pos h9]
    exact doR_good s
  rw [if_neg h9]
  by_cases h10 : W = wLoop
  · rw [if_pos h10]
    exact backwardR_good s _ _
  rw [if_neg h10]
  by_cases h11 : W = wPlus
  · rw [if_pos h11]
    exact backwardR_good s _ _
  rw [if_neg h11]
  exact good_no s _
end Go.Proofs.YtompdfpjmdnhoabGreatDoor.Wv
namespace Go.Proofs.YtompdfpjmdnhoabGreatDoor.Ou
open Go.RowKit Go.Proofs.YtompdfpjmdnhoabGreatDoor.Mc Go.Proofs.YtompdfpjmdnhoabGreatDoor.Src
structure WdOk (m : Nat) (x : Wd) : Prop where
  nm : rightN x.name = true
  lo : 0 ≤ x.xt
  hi : x.xt ≤ 3000
  in_ : 192 ≤ x.xt → x.xt ≤ m
  op : -1 ≤ x.op ∧ x.op ≤ 47
structure DrOk (m : Nat) (d : Dr) : Prop where
  len : d.s.M.length = m
  here : d.s.h ≤ d.s.M.length
  at_ : d.at_ ≤ d.s.h
  ints : ∀ x ∈ d.s.M, In x
  os : ∀ p ∈ d.s.O, In p.2
  ok : Wv.OkO d.s
  nm : rightN d.name = true
structure Wo (o : OS) : Prop where
  m : Mc.Wf o.m
  here : o.here ≤ o.m.mem.length
  words : ∀ x ∈ o.words, WdOk o.m.mem.length x
  wlen : o.words.length ≤ 200
  base : o.base = 10 ∨ o.base = 16
  line : ∀ l, o.line = some l → l.length ≤ 600
  draft : ∀ d, o.draft = some d → DrOk o.m.mem.length d
structure Kept (o o' : OS) : Prop where
  wo : Wo o'
  mem : o'.m.mem.length = o.m.mem.length
  laid : o'.laid.length ≤ o.laid.length + 3000
  opn : ∀ d', o'.draft = some d' → d'.s.O.length ≤ 1 + (match o.draft with | some d => d.s.O.length | none => 0)
  line : ∀ l', o'.line = some l' → ∃ l, o.line = some l ∧ l'.length ≤ l.length
section
variable {o : OS} (W : Wo o)
include W
theorem Wo.machine (m : Mc.S) (h : Mc.Wf m) (hm : m.mem.length = o.m.mem.length) : Wo { o with m := m } :=
  ⟨h, by show o.here ≤ m.mem.length; rw [hm]; exact W.here, by show ∀ x ∈ o.words, WdOk m.mem.length x; rw [hm]; exact W.words, W.wlen, W.base, W.line, by show ∀ d, o.draft = some d → DrOk m.mem.length d; rw [hm]; exact W.draft⟩
theorem Kept.refl : Kept o o := ⟨W, rfl, by omega, fun d h => (by rw [h]; dsimp only; omega), fun l h => ⟨l, h, Nat.le_refl _⟩⟩
theorem Kept.machine (m : Mc.S) (h : Mc.Wf m) (hm : m.mem.length = o.m.mem.length) : Kept o { o with m := m } :=
  ⟨W.machine m h hm, hm, by simp, fun d h => (by have h : o.draft = some d := h; rw [h]; dsimp only; omega), fun l h => ⟨l, h, Nat.le_refl _⟩⟩
theorem Wo.line' (l : Option (List UInt8)) (h : ∀ x, l = some x → x.length ≤ 600) : Wo { o with line := l } := ⟨W.m, W.here, W.words, W.wlen, W.base, h, W.draft⟩
theorem Wo.last' (x : ByteArray) : Wo { o with last := x } := ⟨W.m, W.here, W.words, W.wlen, W.base, W.line, W.draft⟩
theorem Wo.runs' (x : Bool) : Wo { o with runs := x } := ⟨W.m, W.here, W.words, W.wlen, W.base, W.line, W.draft⟩
theorem Wo.base' (x : Int) (h : x = 10 ∨ x = 16) : Wo { o with base := x } := ⟨W.m, W.here, W.words, W.wlen, h, W.line, W.draft⟩
theorem Wo.here' (x : Nat) (h : x ≤ o.m.mem.length) : Wo { o with here := x } := ⟨W.m, h, W.words, W.wlen, W.base, W.line, W.draft⟩
theorem Wo.words' (ws : List Wd) (h : ∀ x ∈ ws, WdOk o.m.mem.length x) (hl : ws.length ≤ 200) : Wo { o with words := ws } := ⟨W.m, W.here, h, hl, W.base, W.line, W.draft⟩
theorem Wo.laid' (x : List Int) : Wo { o with laid := x } := ⟨W.m, W.here, W.words, W.wlen, W.base, W.line, W.draft⟩
theorem Wo.draft' (x : Option Dr) (h : ∀ d, x = some d → DrOk o.m.mem.length d) : Wo { o with draft := x } := ⟨W.m, W.here, W.words, W.wlen, W.base, W.line, h⟩
end
theorem Kept.step {o o1 o2 : OS} (h : Kept o o1) (W : Wo o2) (hm : o2.m.mem.length = o1.m.mem.length) (hl : o2.laid.length ≤ o1.laid.length) (hd : o2.draft = o1.draft ∨ o2.draft = none) (hn : ∀ l', o2.line = some l' → ∃ l, o1.line = some l ∧ l'.length ≤ l.length) : Kept o o2 :=
  by
  refine ⟨W, hm.trans h.mem, Nat.le_trans hl h.laid, fun d e => ?_, fun l' e => ?_⟩
  · rcases hd with hd | hd
    · exact h.opn d (hd ▸ e)
    · rw [hd] at e; exact absurd e (by simp)
  · obtain ⟨l, h1, h2⟩ := hn l' e
    obtain ⟨l0, h3, h4⟩ := h.line l h1
    exact ⟨l0, h3, by omega⟩
theorem dropWhile_length {α : Type} (p : α → Bool) (l : List α) : (l.dropWhile p).length ≤ l.length := (List.dropWhile_sublist p).length_le
structure Read (o o' : OS) : Prop where
  kept : Kept o o'
  laid : o'.laid = o.laid
  draft : o'.draft = o.draft
  words : o'.words = o.words
  here : o'.here = o.here
theorem read_kept (o : OS) (W : Wo o) : Read o (read o).2.2 ∧ ((read o).2.1 = true → ∃ l l', o.line = some l ∧ (read o).2.2.line = some l' ∧ l'.length < l.length ∧ (read o).1.size ≤ 600 ∧ 0 < (read o).1.size) := by
  unfold read
  cases hl : o.line with
  | none => exact ⟨⟨Kept.refl W, rfl, rfl, rfl, rfl⟩, fun h => by cases h⟩
  | some l =>
    dsimp only
    have hb := W.line l hl
    have h1 := dropWhile_length (isB true) l
    have h2 := dropWhile_length (isB false) (l.dropWhile (isB true))
    have h3 : (((l.dropWhile (isB true)).dropWhile (isB false)).drop 1).length ≤ l.length := by rw [List.length_drop]; omega
    split
    · refine ⟨⟨(Kept.refl W).step (W.line' _ fun x hx => by injection hx with hx; subst hx; omega) rfl (Nat.le_refl _) (.inl rfl) fun l' e => ⟨l, hl, ?_⟩, rfl, rfl, rfl, rfl⟩, fun h => by cases h⟩
      injection e with e; subst e; exact h3
    · rename_i hr
      refine ⟨⟨(Kept.refl W).step ((W.line' (some _) fun x hx => by injection hx with hx; subst hx; omega).last' _) rfl (Nat.le_refl _) (.inl rfl) fun l' e => ⟨l, hl, ?_⟩, rfl, rfl, rfl, rfl⟩, fun _ => ⟨l, _, rfl, rfl, ?_, ?_⟩⟩
      · injection e with e; subst e; exact h3
      · -- a byte that is no blank is behind
        cases hq : l.dropWhile (isB true) with
        | nil => rw [hq] at hr; exact absurd rfl hr
        | cons c r =>
          have hc : isB true c = false := by
            have := List.head?_dropWhile_not (isB true) l
            rw [hq] at this
            simpa using this
          have hc2 : isB false c = true := by unfold isB at hc ⊢; cases hd : decide (c.toNat ≤ 32) <;> simp [hd] at hc ⊢
          rw [hq] at h1 h2
          have h4 := dropWhile_length (isB false) r
          rw [List.dropWhile_cons, if_pos hc2, List.length_drop]
          simp at h1
          omega
      · have h5 : ((l.dropWhile (isB true)).takeWhile (isB false)).length ≤ (l.dropWhile (isB true)).length := (List.takeWhile_sublist _).length_le
        refine ⟨by show (List.toArray _).size ≤ 600; rw [List.size_toArray]; omega, ?_⟩
        show 0 < (List.toArray _).size
        rw [List.size_toArray]
        cases hq : l.dropWhile (isB true) with
        | nil => rw [hq] at hr; exact absurd rfl hr
        | cons c r =>
          have hc : isB true c = false := by
            have := List.head?_dropWhile_not (isB true) l
            rw [hq] at this
            simpa using this
          have hc2 : isB false c = true := by unfold isB at hc ⊢; cases hd : decide (c.toNat ≤ 32) <;> simp [hd] at hc ⊢
          rw [List.takeWhile_cons, if_pos hc2]
          simp
theorem until_kept (o : OS) (c : UInt8) (W : Wo o) : Read o (untilB o c).2 ∧ (untilB o c).1.size ≤ 600 := by
  unfold untilB
  cases hl : o.line with
  | none => exact ⟨⟨Kept.refl W, rfl, rfl, rfl, rfl⟩, Nat.zero_le _⟩
  | some l =>
    dsimp only
    have hb := W.line l hl
    have h1 := dropWhile_length (fun x => x != c) l
    have h3 : ((l.dropWhile (fun x => x != c)).drop 1).length ≤ l.length := by rw [List.length_drop]; omega
    refine ⟨⟨(Kept.refl W).step (W.line' _ fun x hx => by injection hx with hx; subst hx; omega) rfl (Nat.le_refl _) (.inl rfl) fun l' e => ⟨l, hl, ?_⟩, rfl, rfl, rfl, rfl⟩, ?_⟩
    · injection e with e; subst e; exact h3
    · have h5 : (l.takeWhile (fun x => x != c)).length ≤ l.length := (List.takeWhile_sublist _).length_le
      show (List.toArray _).size ≤ 600
      rw [List.size_toArray]; omega
theorem skip_kept (o : OS) (W : Wo o) : Kept o (skipL o) := by
  unfold skipL
  cases hl : o.line with
  | none => exact Kept.refl W
  | some l => exact (Kept.refl W).step (W.line' _ fun x hx => by injection hx with hx; subst hx; simp) rfl (Nat.le_refl _) (.inl rfl) fun l' e => ⟨l, hl, by injection e with e; subst e; simp⟩
theorem push_kept (o : OS) (v : Int) (W : Wo o) (hv : In v) : Kept o (push o v).2 := by
  unfold push
  split
  · exact Kept.refl W
  · exact Kept.machine W _ (W.m.push _ (in1 hv) (by simp; omega)) rfl
theorem pop_kept (o : OS) (W : Wo o) : Kept o (pop o).2.2 ∧ In (pop o).1 ∧ (pop o).2.2.laid = o.laid ∧ (pop o).2.2.draft = o.draft ∧ (pop o).2.2.words = o.words ∧ (pop o).2.2.here = o.here ∧ (pop o).2.2.line = o.line := by
  unfold pop
  split
  · exact ⟨Kept.refl W, in_zero, rfl, rfl, rfl, rfl, rfl⟩
  · exact ⟨Kept.machine W _ W.m.pop rfl, W.m.top, rfl, rfl, rfl, rfl, rfl⟩
theorem name_kept (o : OS) (W : Wo o) : Read o (name o).2.2 ∧ ((name o).2.1 = 0 → rightN (name o).1 = true) := by
  unfold name
  dsimp only
  split
  · exact ⟨(read_kept o W).1, fun h => by cases h⟩
  · rename_i h
    refine ⟨(read_kept o W).1, fun _ => ?_⟩
    simp only [not_or, Bool.not_eq_false] at h
    exact h.2
theorem findIx_lt {ws : List Wd} {n : ByteArray} : ∀ {k i : Nat}, findIx ws n k = some i → i < k
  | 0, _, h => by cases h
  | k + 1, i, h => by
    unfold findIx at h
    split at h
    · injection h with h; omega
    · have := findIx_lt h; omega
theorem find_mem {ws : List Wd} {n : ByteArray} {x : Wd} (h : find ws n = some x) : x ∈ ws := by
  unfold find at h
  cases hi : findIx ws n ws.length with
  | none => rw [hi] at h; cases h
  | some i =>
    rw [hi] at h
    injection h with h
    have := findIx_lt hi
    dsimp only at h
    rw [List.getD_eq_getElem?_getD, List.getElem?_eq_getElem this] at h
    subst h
    exact List.getElem_mem _
theorem findO_kept (o : OS) (W : Wo o) : Read o (findO o).2.2 ∧ ((findO o).2.1 = 0 → WdOk o.m.mem.length (findO o).1) := by
  have hn := (name_kept o W).1
  unfold findO
  dsimp only
  split
  · exact ⟨hn, fun h => by rename_i h1; exact absurd h h1⟩
  · split
    · rename_i x hx
      exact ⟨hn, fun _ => W.words x (hn.words ▸ find_mem hx)⟩
    · exact ⟨hn, fun h => by cases h⟩
theorem cells_length (a n : Nat) : (cellsFrom a n).length = n := by simp [cellsFrom]
theorem lay_in {M L : List Int} {h : Nat} (hM : ∀ x ∈ M, In x) (hL : ∀ x ∈ L, In x) : ∀ x ∈ Wv.lay M h L, In x := by
  intro x hx
  unfold Wv.lay at hx
  rcases List.mem_append.1 hx with hx | hx
  · exact hM x (List.mem_of_mem_take hx)
  · rcases List.mem_append.1 hx with hx | hx
    · exact hL x hx
    · exact hM x (List.mem_of_mem_drop hx)
theorem layO_wo (o : OS) (L : List Int) (W : Wo o) (hL : ∀ x ∈ L, In x) (hr : o.here + L.length ≤ o.m.mem.length) : Wo (layO o L) ∧ (layO o L).m.mem.length = o.m.mem.length ∧ (layO o L).laid.length = o.laid.length + L.length := by
  have hl : (Wv.lay o.m.mem o.here L).length = o.m.mem.length := Wv.lay_length _ _ _ hr
  refine ⟨?_, hl, by simp [layO, cells_length]⟩
  have hn := W.m.nm
  exact ((W.machine _ (W.m.mem' (Wv.lay o.m.mem o.here L) (lay_in W.m.me hL) (by omega)) hl).here' (o.here + L.length) (by show _ ≤ (Wv.lay _ _ _).length; omega)).laid' _
theorem layO_kept (o : OS) (L : List Int) (W : Wo o) (hL : ∀ x ∈ L, In x) (hr : o.here + L.length ≤ o.m.mem.length) : Kept o (layO o L) := by
  obtain ⟨h1, h2, h3⟩ := layO_wo o L W hL hr
  have := W.m.nm
  exact ⟨h1, h2, by omega, fun d h => (by have h : o.draft = some d := h; rw [h]; dsimp only; omega), fun l h => ⟨l, h, Nat.le_refl _⟩⟩
theorem room_ok {o : OS} {n : Nat} (h : room o n = 0) (W : Wo o) : o.here + n ≤ o.m.mem.length := by
  unfold room at h
  split at h
  · cases h
  · have := W.here; omega
theorem define_kept (o : OS) (n : ByteArray) (L : List Int) (W : Wo o) (hn : rightN n = true) (hL : ∀ x ∈ L, In x) : Kept o (define o n L).2 := by
  unfold define
  split
  · exact Kept.refl W
  split
  · exact Kept.refl W
  · rename_i h200 hr
    have hr := room_ok (by simpa using hr) W
    have hx : WdOk o.m.mem.length ⟨n, o.here, -1, false⟩ := ⟨hn, by simp, by have := W.here; have := W.m.nm; show (o.here : Int) ≤ 3000; omega, fun _ => by have := W.here; show (o.here : Int) ≤ _; omega, ⟨by show (-1 : Int) ≤ -1; omega, by show (-1 : Int) ≤ 47; omega⟩⟩
    have ha : (add o.words ⟨n, o.here, -1, false⟩).2 = o.words ++ [⟨n, o.here, -1, false⟩] := by unfold add; rw [if_neg (by simp [hn]), if_neg h200]
    rw [ha]
    have W1 : Wo { o with words := o.words ++ [⟨n, o.here, -1, false⟩] } := W.words' _ (fun x h => (List.mem_append.1 h).elim (W.words x) fun h => by simp at h; subst h; exact hx) (by simp; omega)
    have K := layO_kept _ L W1 hL hr
    exact ⟨K.wo, K.mem, K.laid, K.opn, K.line⟩
theorem forgetX_kept (o : OS) (x : Wd) (W : Wo o) (hx : WdOk o.m.mem.length x) : Kept o (forgetX o x).2 := by
  unfold forgetX
  split
  · exact Kept.refl W
  · rename_i h
    have h1 := hx.in_ (by omega)
    have h2 := hx.lo
    have nm := W.m.nm
    refine ⟨((W.words' _ (fun y hy => W.words y (List.mem_of_mem_take hy)) (by have := W.wlen; simp; omega)).here' _ (by show x.xt.toNat ≤ o.m.mem.length; omega)).laid' _, rfl, by simp [cells_length]; omega, fun d h => (by have h : o.draft = some d := h; rw [h]; dsimp only; omega), fun l h => ⟨l, h, Nat.le_refl _⟩⟩
theorem wlay_ok {m : Nat} {d : Dr} (D : DrOk m d) (L : List Int) (hL : ∀ x ∈ L, In x) : DrOk m { d with s := (Wv.layR d.s L).2 } := by
  unfold Wv.layR
  split
  · rename_i h
    have hl : (Wv.lay d.s.M d.s.h L).length = d.s.M.length := Wv.lay_length _ _ _ h
    have := D.at_
    refine ⟨hl.trans D.len, by show d.s.h + L.length ≤ (Wv.lay _ _ _).length; omega, by show d.at_ ≤ d.s.h + L.length; omega, lay_in D.ints hL, D.os, ?_, D.nm⟩
    intro p hp hk
    obtain ⟨q, h1, h2⟩ := D.ok p hp hk
    exact ⟨q, h1, by show q < (Wv.lay _ _ _).length; omega⟩
  · exact D
theorem wlay_O (s : Wv.St) (L : List Int) : (Wv.layR s L).2.O = s.O := by unfold Wv.layR; split <;> rfl
def Does (f : Wv.St → Int × Wv.St) : Prop := ∀ m d, DrOk m d → m ≤ 3000 → DrOk m { d with s := (f d.s).2 } ∧ (f d.s).2.O.length ≤ d.s.O.length + 1
theorem does_lay (L : List Int) (hL : ∀ x ∈ L, In x) : Does fun s => Wv.layR s L := fun m d D _ => ⟨wlay_ok D L hL, by rw [wlay_O]; omega⟩
theorem does_same : Does fun s => (-13, s) := fun m d D _ => ⟨D, by dsimp only; omega⟩
theorem does_op (c : Int) : Does fun s => Wv.opR s c := by
  intro m d D hm
  unfold Wv.opR
  split
  · rename_i h
    have : 0 ≤ c ∧ c < 48 := by simpa [Wv.rightB] using h.1
    exact does_lay [c] (in1 (in_small (by omega) (by omega))) m d D hm
  · exact does_same m d D hm
theorem does_lit (v : Int) (hv : In v) : Does fun s => Wv.argR s 2 v := by
  intro m d D hm
  unfold Wv.argR
  split
  · exact does_lay [2, v] (in2 (in_small (by decide) (by decide)) hv) m d D hm
  · exact does_same m d D hm
theorem does_call (x : Int) (hx : In x) : Does fun s => Wv.callR s x := by
  intro m d D hm
  unfold Wv.callR
  split
  · exact ⟨D, by dsimp only; omega⟩
  · exact does_lay [x] (in1 hx) m d D hm
theorem wv_kept (o : OS) (f : Wv.St → Int × Wv.St) (W : Wo o) (hf : Does f) : Kept o (wv o f).2 := by
  unfold wv
  split
  · exact Kept.refl W
  · rename_i d hd
    obtain ⟨h1, h2⟩ := hf _ d (W.draft d hd) W.m.nm
    refine ⟨W.draft' _ fun d' e => by injection e with e; subst e; exact h1, rfl, by simp, fun d' e => ?_, fun l h => ⟨l, h, Nat.le_refl _⟩⟩
    injection e with e
    subst e
    rw [hd]
    dsimp only
    omega
structure Fine (s : Wv.St) (r : Int × Wv.St) : Prop where
  ints : ∀ x ∈ r.2.M, In x
  os : ∀ p ∈ r.2.O, In p.2
  lo : s.h ≤ r.2.h
  hi : r.2.h ≤ r.2.M.length
section
variable {s : Wv.St} (hi : ∀ x ∈ s.M, In x) (ho : ∀ p ∈ s.O, In p.2) (hh : s.h ≤ s.M.length) (hm : s.M.length ≤ 3000)
include hi ho hh hm
theorem fine_no (c : Int) : Fine s (c, s) := ⟨hi, ho, Nat.le_refl _, hh⟩
theorem os_push {O : List (Int × Int)} {k v : Int} (hO : ∀ p ∈ O, In p.2) (hv : In v) : ∀ p ∈ O ++ [(k, v)], In p.2 := fun p hp => (List.mem_append.1 hp).elim (hO p) fun hp => by simp at hp; subst hp; exact hv
theorem fine_forward (o k : Int) (h0 : In o) : Fine s (Wv.forwardR s o k) := by
  unfold Wv.forwardR
  split
  · rename_i h
    have hl := Wv.lay_length s.M s.h [o, 0] (by simpa using h)
    exact ⟨lay_in hi (in2 h0 in_zero), os_push hi ho hh hm ho (in_small (by omega) (by omega)), by dsimp only; omega, by dsimp only; omega⟩
  · exact fine_no hi ho hh hm _
theorem fine_do : Fine s (Wv.doR s) := by
  unfold Wv.doR
  split
  · rename_i h
    have hl := Wv.lay_length s.M s.h [36] (by simpa using h)
    exact ⟨lay_in hi (in1 (in_small (by decide) (by decide))), os_push hi ho hh hm ho (in_small (by omega) (by omega)), by dsimp only; omega, by dsimp only; omega⟩
  · exact fine_no hi ho hh hm _
theorem os_dl : ∀ p ∈ s.O.dropLast, In p.2 := fun p hp => ho p (Wv.mem_dl hp)
theorem in_last (O : List (Int × Int)) (hO : ∀ p ∈ O, In p.2) : In (Wv.last O).2 := by
  unfold Wv.last
  rw [List.getD_eq_getElem?_getD]
  cases hq : O[O.length - 1]? with
  | none => exact in_zero
  | some p => exact hO p (List.mem_of_getElem? hq)
theorem fine_backward (p : Int × Int) (o : Int) (h0 : In o) (hp : In p.2) : Fine s (Wv.backwardR s s.O.dropLast p o) := by
  unfold Wv.backwardR
  split
  · rename_i h
    have hl := Wv.lay_length s.M s.h [o, p.2] (by simpa using h)
    exact ⟨lay_in hi (in2 h0 hp), os_dl hi ho hh hm, by dsimp only; omega, by dsimp only; omega⟩
  · exact fine_no hi ho hh hm _
theorem fine_set {M : List Int} (hM : ∀ x ∈ M, In x) (q : Nat) (v : Int) (hv : In v) : ∀ x ∈ M.set q v, In x := fun x hx => (List.mem_or_eq_of_mem_set hx).elim (hM x) fun h => h ▸ hv
theorem fine_else (q : Nat) : Fine s (Wv.elseR s s.O.dropLast q) := by
  unfold Wv.elseR
  split
  · rename_i h
    have hl := Wv.lay_length s.M s.h [3, 0] (by simpa using h)
    exact ⟨fine_set hi ho hh hm (lay_in hi (in2 (in_small (by decide) (by decide)) in_zero)) _ _ (in_small (by omega) (by omega)), os_push hi ho hh hm (os_dl hi ho hh hm) (in_small (by omega) (by omega)), by dsimp only; omega, by dsimp only; rw [List.length_set]; omega⟩
  · exact fine_no hi ho hh hm _
theorem fine_repeat (b : Int) (q : Nat) (hb : In b) : Fine s (Wv.repeatR s s.O.dropLast.dropLast b q) := by
  unfold Wv.repeatR
  split
  · rename_i h
    have hl := Wv.lay_length s.M s.h [3, b] (by simpa using h)
    exact ⟨fine_set hi ho hh hm (lay_in hi (in2 (in_small (by decide) (by decide)) hb)) _ _ (in_small (by omega) (by omega)), fun p hp => ho p (Wv.mem_dl (Wv.mem_dl hp)), by dsimp only; omega, by dsimp only; rw [List.length_set]; omega⟩
  · exact fine_no hi ho hh hm _
theorem fine_form (W : ByteArray) : Fine s (Wv.formR s W) := by
  have hl := in_last hi ho hh hm s.O ho
  have hl2 := in_last hi ho hh hm s.O.dropLast (os_dl hi ho hh hm)
  have i3 : In 3 := in_small (by decide) (by decide)
  have i4 : In 4 := in_small (by decide) (by decide)
  have i37 : In 37 := in_small (by decide) (by decide)
  have i38 : In 38 := in_small (by decide) (by decide)
  unfold Wv.formR
  by_cases k0 : Wv.fitsB s.O W = false
  · rw [if_pos k0]; exact fine_no hi ho hh hm _
  rw [if_neg k0]
  by_cases k1 : W = Wv.wIf
  · rw [if_pos k1]; exact fine_forward hi ho hh hm 4 1 i4
  rw [if_neg k1]
  by_cases k2 : W = Wv.wWhile
  · rw [if_pos k2]; exact fine_forward hi ho hh hm 4 4 i4
  rw [if_neg k2]
  by_cases k3 : W = Wv.wElse
  · rw [if_pos k3]; exact fine_else hi ho hh hm _
  rw [if_neg k3]
  by_cases k4 : W = Wv.wThen
  · rw [if_pos k4]; exact ⟨fine_set hi ho hh hm hi _ _ (in_small (by omega) (by omega)), os_dl hi ho hh hm, Nat.le_refl _, by dsimp only; rw [List.length_set]; exact hh⟩
  rw [if_neg k4]
  by_cases k5 : W = Wv.wBegin
  · rw [if_pos k5]; exact ⟨hi, os_push hi ho hh hm ho (in_small (by omega) (by omega)), Nat.le_refl _, hh⟩
  rw [if_neg k5]
  by_cases k6 : W = Wv.wUntil
  · rw [if_pos k6]; exact fine_backward hi ho hh hm _ 4 i4 hl
  rw [if_neg k6]
  by_cases k7 : W = Wv.wAgain
  · rw [if_pos k7]; exact fine_backward hi ho hh hm _ 3 i3 hl
  rw [if_neg k7]
  by_cases k8 : W = Wv.wRepeat
  · rw [if_pos k8]; exact fine_repeat hi ho hh hm _ _ hl2
  rw [if_neg k8]
  by_cases k9 : W = Wv.wDo
  · rw [if_pos k9]; exact fine_do hi ho hh hm
  rw [if_neg k9]
  by_cases k10 : W = Wv.wLoop
  · rw [if_pos k10]; exact fine_backward hi ho hh hm _ 37 i37 hl
  rw [if_neg k10]
  by_cases k11 : W = Wv.wPlus
  · rw [if_pos k11]; exact fine_backward hi ho hh hm _ 38 i38 hl
  · rw [if_neg k11]; exact fine_no hi ho hh hm _
end
theorem does_form (W : ByteArray) : Does fun s => Wv.formR s W := by
  intro m d D hm
  have G := Wv.formR_good d.s W
  have F := fine_form D.ints D.os D.here (by rw [D.len]; exact hm) W
  have := F.lo
  have := D.at_
  exact ⟨⟨G.len.trans D.len, F.hi, by dsimp only; omega, F.ints, F.os, G.ok D.ok, D.nm⟩, G.few⟩
theorem literal_kept (o : OS) (v : Int) (W : Wo o) (hv : In v) : Kept o (literal o v).2 := by
  unfold literal
  split
  · exact wv_kept o _ W (does_lit v hv)
  · exact push_kept o v W hv
theorem enter_wf (s : Mc.S) (x : Int) (W : Mc.Wf s) (hx : In x) : Mc.Wf (enter s x) := by
  have := ((((W.ip' x hx).hd' 0 in_zero).back' [0] (in1 in_zero) (by simp)).status' 0).code' 0
  exact this
theorem found_kept (o : OS) (x : Wd) (W : Wo o) (hx : WdOk o.m.mem.length x) : Kept o (found o x).2 := by
  have hi : In x.xt := in_small (by have := hx.lo; omega) (by have := hx.hi; omega)
  unfold found
  split
  · have K := Kept.machine W (enter o.m x.xt) (enter_wf o.m x.xt W.m hi) rfl
    exact K.step (K.wo.runs' true) rfl (Nat.le_refl _) (.inl rfl) fun l h => ⟨l, h, Nat.le_refl _⟩
  split
  · exact wv_kept o _ W (does_op _)
  · exact wv_kept o _ W (does_call _ hi)
theorem Kept.draft {o o' : OS} (h : Kept o o') : ∀ d', o'.draft = some d' → DrOk o'.m.mem.length d' := h.wo.draft
theorem finish_kept (o : OS) (W : Wo o) : Kept o (finish o).2 := by
  have K : Kept o (opW o 5).2 := wv_kept o _ W (does_op 5)
  unfold finish
  dsimp only
  split
  · exact K
  split
  · exact K
  · rename_i d hd
    split
    · exact K
    · split
      · exact K
      · rename_i hq
        have D := K.wo.draft d hd
        have hq0 : (add (opW o 5).2.words ⟨d.name, d.at_, -1, false⟩).1 = 0 := by simpa using hq
        have nm := K.wo.m.nm
        have hx : WdOk (opW o 5).2.m.mem.length ⟨d.name, d.at_, -1, false⟩ := ⟨D.nm, by simp, by have := D.at_; have := D.here; have := D.len; show (d.at_ : Int) ≤ 3000; omega, fun _ => by have := D.at_; have := D.here; have := D.len; show (d.at_ : Int) ≤ _; omega, ⟨by show (-1 : Int) ≤ -1; omega, by show (-1 : Int) ≤ 47; omega⟩⟩
        have hws : (∀ x ∈ (add (opW o 5).2.words ⟨d.name, d.at_, -1, false⟩).2, WdOk (opW o 5).2.m.mem.length x) ∧ (add (opW o 5).2.words ⟨d.name, d.at_, -1, false⟩).2.length ≤ 200 := by
          unfold add
          split
          · exact ⟨K.wo.words, K.wo.wlen⟩
          split
          · exact ⟨K.wo.words, K.wo.wlen⟩
          · exact ⟨fun x h => (List.mem_append.1 h).elim (K.wo.words x) fun h => by simp at h; subst h; exact hx, by simp; omega⟩
        have hlen : ((d.s.M.take d.s.h).drop d.at_).length = d.s.h - d.at_ := by have := D.here; simp; omega
        have hal := D.at_
        have hhe := D.here
        have hle := D.len
        have W1 := (K.wo.words' _ hws.1 hws.2).here' d.at_ (by show d.at_ ≤ (opW o 5).2.m.mem.length; omega)
        obtain ⟨L1, L2, L3⟩ := layO_wo _ ((d.s.M.take d.s.h).drop d.at_) W1 (fun x hx => D.ints x (List.mem_of_mem_take (List.mem_of_mem_drop hx))) (by show d.at_ + _ ≤ (opW o 5).2.m.mem.length; omega)
        have hlaid : (opW o 5).2.laid = o.laid := by unfold opW wv; split <;> rfl
        refine ⟨L1.draft' none (fun d h => (by cases h)), L2.trans K.mem, ?_, fun d h => (by cases h), K.line⟩
        show (layO _ _).laid.length ≤ _
        rw [L3]
        show (opW o 5).2.laid.length + _ ≤ _
        rw [hlaid]
        omega
theorem Kept.trans0 {a b c : OS} (h : Kept a b) (k : Kept b c) (hl : b.laid.length ≤ a.laid.length) (hd : ∀ d, b.draft = some d → a.draft = some d) : Kept a c :=
  ⟨k.wo, k.mem.trans h.mem, by have := k.laid; omega, fun d e => by
    have := k.opn d e
    cases hb : b.draft with
    | none => rw [hb] at this; dsimp only at this; omega
    | some d2 => rw [hb] at this; rw [hd d2 hb]; exact this, fun l e => by
    obtain ⟨l1, h1, h2⟩ := k.line l e
    obtain ⟨l0, h3, h4⟩ := h.line l1 h1
    exact ⟨l0, h3, by omega⟩⟩
theorem Read.then_ {a b c : OS} (h : Read a b) (k : Kept b c) : Kept a c := h.kept.trans0 k (by rw [h.laid]; omega) fun d e => h.draft ▸ e
theorem Read.trans {a b c : OS} (h : Read a b) (k : Read b c) : Read a c := ⟨h.then_ k.kept, k.laid.trans h.laid, k.draft.trans h.draft, k.words.trans h.words, k.here.trans h.here⟩
theorem pop_read (o : OS) (W : Wo o) : Read o (pop o).2.2 := by
  obtain ⟨h1, _, h3, h4, h5, h6, _⟩ := pop_kept o W
  exact ⟨h1, h3, h4, h5, h6⟩
theorem sayW_kept : ∀ (l : List UInt8) (o : OS), Wo o → Kept o (sayW o l).2 ∧ (sayW o l).2.laid = o.laid ∧ (∀ d', (sayW o l).2.draft = some d' → ∃ d, o.draft = some d ∧ d'.s.O = d.s.O)
  | [], o, W => ⟨Kept.refl W, rfl, fun d h => ⟨d, h, rfl⟩⟩
  | c :: l, o, W => by
    have hc := c.toNat_lt
    have K1 : Kept o (lit o c.toNat).2 := wv_kept o _ W (does_lit _ (in_small (by omega) (by omega)))
    have l1 : (lit o c.toNat).2.laid = o.laid := by unfold lit wv; split <;> rfl
    have d1 : ∀ d', (lit o c.toNat).2.draft = some d' → ∃ d, o.draft = some d ∧ d'.s.O = d.s.O := by
      intro d' h
      unfold lit wv at h
      split at h
      · exact ⟨d', h, rfl⟩
      · rename_i d hd
        injection h with h; subst h
        refine ⟨d, hd, ?_⟩
        show (Wv.argR d.s 2 _).2.O = _
        unfold Wv.argR
        split
        · exact wlay_O _ _
        · rfl
    have K2 : Kept (lit o c.toNat).2 (opW (lit o c.toNat).2 41).2 := wv_kept _ _ K1.wo (does_op 41)
    have l2 : (opW (lit o c.toNat).2 41).2.laid = (lit o c.toNat).2.laid := by unfold opW wv; split <;> rfl
    have d2 : ∀ d', (opW (lit o c.toNat).2 41).2.draft = some d' → ∃ d, (lit o c.toNat).2.draft = some d ∧ d'.s.O = d.s.O := by
      intro d' h
      unfold opW wv at h
      split at h
      · exact ⟨d', h, rfl⟩
      · rename_i d hd
        injection h with h; subst h
        refine ⟨d, hd, ?_⟩
        show (Wv.opR d.s 41).2.O = _
        unfold Wv.opR
        split
        · exact wlay_O _ _
        · rfl
    have join : ∀ {a b c : OS}, Kept a b → Kept b c → b.laid = a.laid → (∀ d', b.draft = some d' → ∃ d, a.draft = some d ∧ d'.s.O = d.s.O) → Kept a c := by
      intro a b c h k hl hd
      refine ⟨k.wo, k.mem.trans h.mem, by have := k.laid; rw [hl] at this; exact this, fun d e => ?_, fun l e => ?_⟩
      · have := k.opn d e
        cases hb : b.draft with
        | none => rw [hb] at this; dsimp only at this; omega
        | some db =>
          rw [hb] at this
          obtain ⟨da, ha, hO⟩ := hd db hb
          rw [ha]
          dsimp only at this ⊢
          rw [← hO]
          exact this
      · obtain ⟨lb, h1, h2⟩ := k.line l e
        obtain ⟨l0, h3, h4⟩ := h.line lb h1
        exact ⟨l0, h3, by omega⟩
    unfold sayW
    dsimp only
    split
    · exact ⟨K1, l1, d1⟩
    · have K12 := join K1 K2 l1 d1
      have d12 : ∀ d', (opW (lit o c.toNat).2 41).2.draft = some d' → ∃ d, o.draft = some d ∧ d'.s.O = d.s.O := by
        intro d' h
        obtain ⟨da, ha, hO⟩ := d2 d' h
        obtain ⟨db, hb, hO2⟩ := d1 da ha
        exact ⟨db, hb, hO.trans hO2⟩
      split
      · exact ⟨K12, l2.trans l1, d12⟩
      · obtain ⟨K3, l3, d3⟩ := sayW_kept l _ K12.wo
        refine ⟨join K12 K3 (l2.trans l1) d12, l3.trans (l2.trans l1), fun d' h => ?_⟩
        obtain ⟨da, ha, hO⟩ := d3 d' h
        obtain ⟨db, hb, hO2⟩ := d12 da ha
        exact ⟨db, hb, hO.trans hO2⟩
theorem say_kept (o : OS) (t : ByteArray) (W : Wo o) : Kept o (say o t).2 := by
  unfold say
  split
  · split
    · exact Kept.refl W
    · rename_i h
      exact Kept.machine W _ (W.m.out' _ (by rw [ByteArray.size_append]; omega)) rfl
  · exact (sayW_kept _ o W).1
theorem always_kept (o : OS) (u : List UInt8) (W : Wo o) : Kept o (always o u).2 := by
  unfold always
  split
  · exact (until_kept o 41 W).1.kept
  split
  · exact skip_kept o W
  split
  · have R := (until_kept o 34 W).1
    exact R.then_ (say_kept _ _ R.kept.wo)
  split
  · have R := (read_kept o W).1
    dsimp only
    split
    · exact R.kept
    · have hb := ((read o).1.data.toList.getD 0 0).toNat_lt
      exact R.then_ (literal_kept _ _ R.kept.wo (in_small (by omega) (by omega)))
  split
  · exact (Kept.refl W).step (W.base' 16 (.inr rfl)) rfl (Nat.le_refl _) (.inl rfl) fun l h => ⟨l, h, Nat.le_refl _⟩
  · exact (Kept.refl W).step (W.base' 10 (.inl rfl)) rfl (Nat.le_refl _) (.inl rfl) fun l h => ⟨l, h, Nat.le_refl _⟩
theorem xt_in {m : Nat} {x : Wd} (h : WdOk m x) : In x.xt := in_small (by have := h.lo; omega) (by have := h.hi; omega)
theorem compile_kept (o : OS) (u : List UInt8) (W : Wo o) : Kept o (compile o u).2 := by
  unfold compile
  split
  · obtain ⟨R, hx⟩ := findO_kept o W
    dsimp only
    split
    · exact R.kept
    · rename_i h
      exact R.then_ (wv_kept _ _ R.kept.wo (does_lit _ (xt_in (hx (by simpa using h)))))
  · unfold compX
    split
    · exact finish_kept o W
    split
    · exact wv_kept o _ W (does_op _)
    split
    · exact wv_kept o _ W (does_op _)
    split
    · exact wv_kept o _ W (does_op _)
    split
    · exact wv_kept o _ W (does_op _)
    split
    · unfold recurse
      split
      · exact Kept.refl W
      · rename_i d hd
        have D := W.draft d hd
        have := D.at_; have := D.here; have := D.len; have := W.m.nm
        exact wv_kept o _ W (does_call _ (in_small (by omega) (by omega)))
    split
    · unfold litPop
      have R := pop_read o W
      have hp := (pop_kept o W).2.1
      dsimp only
      split
      · exact R.kept
      · exact R.then_ (wv_kept _ _ R.kept.wo (does_lit _ hp))
    · exact wv_kept o _ W (does_form _)
theorem comma_kept (o : OS) (W : Wo o) : Kept o (comma o).2 := by
  have R := pop_read o W
  have hp := (pop_kept o W).2.1
  unfold comma
  dsimp only
  split
  · exact R.kept
  split
  · exact R.kept
  · rename_i h
    exact R.then_ (layO_kept _ _ R.kept.wo (in1 hp) (room_ok (by simpa using h) R.kept.wo))
theorem allot_kept (o : OS) (W : Wo o) : Kept o (allot o).2 := by
  have R := pop_read o W
  unfold allot
  dsimp only
  split
  · exact R.kept
  split
  · exact R.kept
  · rename_i h
    refine R.kept.step (R.kept.wo.here' _ ?_) rfl (Nat.le_refl _) (.inl rfl) fun l h => ⟨l, h, Nat.le_refl _⟩
    omega
theorem getD_mem {α : Type} {l : List α} {i : Nat} {d : α} (h : i < l.length) : l.getD i d ∈ l := by
  rw [List.getD_eq_getElem?_getD, List.getElem?_eq_getElem h]
  exact List.getElem_mem _
theorem immediate_kept (o : OS) (W : Wo o) : Kept o (immediate o).2 := by
  unfold immediate
  split
  · exact Kept.refl W
  · rename_i h
    refine (Kept.refl W).step (W.words' _ (fun x hx => ?_) (by simpa using W.wlen)) rfl (Nat.le_refl _) (.inl rfl) fun l h => ⟨l, h, Nat.le_refl _⟩
    rcases List.mem_or_eq_of_mem_set hx with hx | rfl
    · exact W.words x hx
    · have := W.words _ (getD_mem (d := wd0) (show o.words.length - 1 < o.words.length by omega))
      exact ⟨this.nm, this.lo, this.hi, this.in_, this.op⟩
theorem defX_kept (o : OS) (u : List UInt8) (n : ByteArray) (W : Wo o) (hn : rightN n = true) : Kept o (defX o u n).2 := by
  have i2 : In 2 := in_small (by decide) (by decide)
  have i5 : In 5 := in_small (by decide) (by decide)
  have ih : In ((o.here : Int) + 3) := by have := W.here; have := W.m.nm; exact in_small (by omega) (by omega)
  unfold defX
  split
  · have R := pop_read o W
    have hp := (pop_kept o W).2.1
    dsimp only
    split
    · exact R.kept
    · exact R.then_ (define_kept _ n _ R.kept.wo hn (in3 i2 hp i5))
  split
  · exact define_kept o n _ W hn (in4 i2 ih i5 in_zero)
  split
  · exact define_kept o n _ W hn (in3 i2 ih i5)
  · refine ⟨W.draft' _ fun d h => ?_, rfl, by simp, fun d h => by injection h with h; subst h; dsimp only; simp, fun l h => ⟨l, h, Nat.le_refl _⟩⟩
    injection h with h
    subst h
    exact ⟨rfl, W.here, Nat.le_refl _, W.m.me, (fun p hp => by cases hp), (fun p hp => by cases hp), hn⟩
theorem defining_kept (o : OS) (u : List UInt8) (W : Wo o) : Kept o (defining o u).2 := by
  unfold defining
  split
  · exact comma_kept o W
  split
  · exact allot_kept o W
  split
  · have := W.here; have := W.m.nm
    exact push_kept o _ W (in_small (by omega) (by omega))
  split
  · obtain ⟨R, hx⟩ := findO_kept o W
    dsimp only
    split
    · exact R.kept
    · rename_i h
      exact R.then_ (push_kept _ _ R.kept.wo (xt_in (hx (by simpa using h))))
  split
  · exact immediate_kept o W
  split
  · obtain ⟨R, hx⟩ := findO_kept o W
    unfold forget
    dsimp only
    split
    · exact R.kept
    · rename_i h
      exact R.then_ (forgetX_kept _ _ R.kept.wo (R.kept.mem ▸ hx (by simpa using h)))
  · obtain ⟨R, hx⟩ := name_kept o W
    dsimp only
    split
    · exact R.kept
    · rename_i h
      exact R.then_ (defX_kept _ u _ R.kept.wo (hx (by simpa using h)))
theorem own_kept (o : OS) (u : List UInt8) (k : Nat) (W : Wo o) : Kept o (own o u k).2 := by
  unfold own
  split
  · exact always_kept o u W
  split
  · exact Kept.refl W
  split
  · exact compile_kept o u W
  · exact defining_kept o u W
theorem getV_in (l : List UInt8) (b : Int) : In (Dg.getV l b).1 := by
  have fold : ∀ (b : Int) (l : List UInt8) (v x : Int), In v → Dg.foldG b l v = some x → In x := by
    intro b l
    induction l with
    | nil => intro v x hv h; injection h with h; subst h; exact hv
    | cons c r ih =>
      intro v x hv h
      unfold Dg.foldG at h
      split at h
      · cases h
      · exact ih _ _ (in_wr _) h
  unfold Dg.getV
  split
  · exact in_zero
  split
  · have := (l.getD 1 0).toNat_lt
    exact in_small (by omega) (by omega)
  · unfold Dg.numV
    split
    · exact in_zero
    split
    · exact in_zero
    · rename_i v hv
      have := fold _ _ _ _ in_zero hv
      dsimp only
      split
      · exact in_wr _
      · exact this
theorem word_kept (o : OS) (w : ByteArray) (W : Wo o) : Kept o (word o w).2 := by
  unfold word
  split
  · rename_i x hx
    exact found_kept o x W (W.words x (find_mem hx))
  · split
    · exact own_kept o _ _ W
    · dsimp only
      split
      · exact Kept.refl W
      · exact literal_kept o _ W (getV_in _ _)
theorem fault_wo (o : OS) (W : Wo o) : Wo (fault o) := by
  have M : Mc.Wf { o.m with stack := [], back := [], handler := 0, status := 1 } := (((W.m.stack' [] (by simp) (by simp)).back' [] (by simp) (by simp)).hd' 0 in_zero).status' 1
  exact (((W.machine _ M rfl).line' none (by simp)).draft' none (by simp)).runs' false
theorem goW_wo : ∀ (n : Nat) (o : OS), Wo o → Wo (goW n o).2.2 ∧ (goW n o).2.2.m.mem.length = o.m.mem.length
  | 0, o, W => ⟨W, rfl⟩
  | n + 1, o, W => by
    have R := (read_kept o W).1
    have K := word_kept (read o).2.2 (read o).1 R.kept.wo
    unfold goW
    dsimp only
    split
    · exact ⟨R.kept.wo.line' none (by simp), R.kept.mem⟩
    split
    · exact ⟨fault_wo _ K.wo, K.mem.trans R.kept.mem⟩
    split
    · exact ⟨K.wo, K.mem.trans R.kept.mem⟩
    · obtain ⟨h1, h2⟩ := goW_wo n _ K.wo
      exact ⟨h1, h2.trans (K.mem.trans R.kept.mem)⟩
theorem go_wo (o : OS) (W : Wo o) : Wo (go o).2.2 ∧ (go o).2.2.m.mem.length = o.m.mem.length := by
  unfold go
  split
  · exact ⟨W, rfl⟩
  split
  · split
    · exact ⟨fault_wo o W, rfl⟩
    split
    · exact ⟨W, rfl⟩
    · exact goW_wo _ _ (W.runs' false)
  · exact goW_wo _ _ W
theorem run_wo (f : Nat) (o : OS) (W : Wo o) : Wo { o with m := (run f o.m).1 } := by
  obtain ⟨h1, h2, _⟩ := run_wf f o.m W.m
  exact W.machine _ h1 h2
end Go.Proofs.YtompdfpjmdnhoabGreatDoor.Ou
namespace Go.Proofs.YtompdfpjmdnhoabGreatDoor.Ou
open Go.RowKit Go.Proofs.YtompdfpjmdnhoabGreatDoor.Mc Go.Proofs.YtompdfpjmdnhoabGreatDoor.Src
structure Lim (k : Nat) (o : OS) : Prop where
  laid : o.laid.length + 3000 * fuelW o ≤ 2000000 * k
  opn : ∀ d, o.draft = some d → d.s.O.length + fuelW o ≤ 602 * k
  pos : 1 ≤ k
  few : k ≤ 7
theorem Lim.laid' {k : Nat} {o : OS} (h : Lim k o) : o.laid.length ≤ 1000000000 := by have := h.laid; have := h.few; omega
theorem Lim.opn' {k : Nat} {o : OS} (h : Lim k o) : ∀ d, o.draft = some d → d.s.O.length < 4900 := fun d hd => by have := h.opn d hd; have := h.few; omega
theorem fuel_kept {o o' : OS} (h : Kept o o') : fuelW o' ≤ fuelW o := by
  unfold fuelW
  cases h1 : o'.line with
  | none => exact Nat.zero_le _
  | some l' =>
    obtain ⟨l, h2, h3⟩ := h.line l' h1
    rw [h2]
    dsimp only
    omega
theorem fuel_wo {o : OS} (W : Wo o) : fuelW o ≤ 601 := by
  unfold fuelW
  cases h : o.line with
  | none => exact Nat.zero_le _
  | some l => have := W.line l h; dsimp only; omega
theorem fuel_read {o : OS} (W : Wo o) (h : (read o).2.1 = true) : fuelW (read o).2.2 + 1 ≤ fuelW o := by
  obtain ⟨l, l', h1, h2, h3, _⟩ := (read_kept o W).2 h
  unfold fuelW
  rw [h1, h2]
  dsimp only
  omega
theorem fuel_none {o : OS} (h : o.line = none) : fuelW o = 0 := by unfold fuelW; rw [h]
theorem lim_read {n : Nat} {o : OS} (W : Wo o) (K : Lim n o) : Lim n (read o).2.2 := by
  have R := (read_kept o W).1
  have hf := fuel_kept R.kept
  have h1 := K.laid
  refine ⟨by rw [R.laid]; omega, fun d hd => ?_, K.pos, K.few⟩
  have := K.opn d (R.draft ▸ hd)
  omega
theorem lim_word {n : Nat} {o o1 o2 : OS} (W : Wo o) (K : Lim n o) (hl : o1.laid = o.laid) (hd : o1.draft = o.draft) (hf : fuelW o1 + 1 ≤ fuelW o) (k : Kept o1 o2) : Lim n o2 := by
  have h1 := fuel_kept k
  have h2 := k.laid
  have h3 := K.laid
  have h4 := fuel_wo W
  rw [hl] at h2
  have h9 := K.pos
  refine ⟨by omega, fun d h => ?_, K.pos, K.few⟩
  have h5 := k.opn d h
  rw [hd] at h5
  cases hq : o.draft with
  | none => rw [hq] at h5; dsimp only at h5; omega
  | some d0 =>
    have h6 := K.opn d0 hq
    rw [hq] at h5
    dsimp only at h5
    omega
theorem lim_fault {n : Nat} {o : OS} (K : Lim n o) : Lim n (fault o) := by
  have h1 := K.laid
  exact ⟨by show o.laid.length + 3000 * 0 ≤ _; omega, (fun d h => by cases h), K.pos, K.few⟩
theorem lim_off {n : Nat} {o : OS} (K : Lim n o) : Lim n { o with line := none } := by
  have h1 := K.laid
  refine ⟨by show o.laid.length + 3000 * 0 ≤ _; omega, fun d h => ?_, K.pos, K.few⟩
  have := K.opn d h
  show _ + 0 ≤ _
  omega
theorem lim_runs {n : Nat} {o : OS} (K : Lim n o) (b : Bool) : Lim n { o with runs := b } := ⟨K.laid, K.opn, K.pos, K.few⟩
theorem lim_m {n : Nat} {o : OS} (K : Lim n o) (m : Mc.S) : Lim n { o with m := m } := ⟨K.laid, K.opn, K.pos, K.few⟩
theorem lim_step {n : Nat} {o : OS} (W : Wo o) (K : Lim n o) (h : (read o).2.1 = true) : Wo (read o).2.2 ∧ Lim n (read o).2.2 ∧ Wo (word (read o).2.2 (read o).1).2 ∧ Lim n (word (read o).2.2 (read o).1).2 ∧ fuelW (word (read o).2.2 (read o).1).2 + 1 ≤ fuelW o := by
  have R := (read_kept o W).1
  have k := word_kept (read o).2.2 (read o).1 R.kept.wo
  have hf := fuel_read W h
  exact ⟨R.kept.wo, lim_read W K, k.wo, lim_word W K R.laid R.draft hf k, by have := fuel_kept k; omega⟩
theorem lim_goW {k : Nat} : ∀ (n : Nat) (o : OS), Wo o → Lim k o → Lim k (goW n o).2.2
  | 0, o, _, K => K
  | n + 1, o, W, K => by
    unfold goW
    dsimp only
    split
    · exact lim_off (lim_read W K)
    · rename_i h
      obtain ⟨_, _, W2, K2, _⟩ := lim_step W K (by simpa using h)
      split
      · exact lim_fault K2
      split
      · exact K2
      · exact lim_goW n _ W2 K2
theorem lim_go {n : Nat} {o : OS} (W : Wo o) (K : Lim n o) : Lim n (go o).2.2 := by
  unfold go
  split
  · exact K
  split
  · split
    · exact lim_fault K
    split
    · exact K
    · exact lim_goW _ _ (W.runs' false) (lim_runs K false)
  · exact lim_goW _ _ W K
theorem lim_begin {k : Nat} {o : OS} (K : Lim k o) (hl : o.line = none) (t : ByteArray) (ht : t.size ≤ 600) (hk : k < 7) : Lim (k + 1) (begin_ o t) := by
  have h0 := fuel_none hl
  have h1 := K.laid
  have h2 : fuelW (begin_ o t) = t.size + 1 := rfl
  have h3 := K.pos
  refine ⟨by rw [h2]; show o.laid.length + _ ≤ _; omega, fun d h => ?_, by omega, by omega⟩
  have := K.opn d h
  omega
end Go.Proofs.YtompdfpjmdnhoabGreatDoor.Ou
