/-
  Chapter 8 (source): contracts of Until, and of the reference's Next and Until.
-/
import Derived.Test.YtfoogcdpllkeoaaSrcB
import Derived.Test.YtfoogcdpllkeoaaShelf
import Derived.WalkSpells
import Derived.Lib.IndexBytes
namespace Go.Proofs.Ytfoogcdpllkeoaa.Src
open Go.RowKit

theorem index_takeWhile (c : UInt8) : ∀ l : List UInt8, Lib.indexByte l c = if (l.takeWhile (fun x => x != c)).length < l.length then ((l.takeWhile (fun x => x != c)).length : Int) else -1
  | [] => by simp [Lib.indexByte]
  | x :: r => by
    have ih := index_takeWhile c r
    by_cases h : x = c
    · subst h
      simp [Lib.indexByte]
    · have h' : (x != c) = true := by simpa using h
      rw [List.takeWhile_cons, if_pos h']
      simp only [Lib.indexByte, List.length_cons, ih]
      have hle := (List.takeWhile_prefix (fun x => x != c) (l := r)).length_le
      split <;> rename_i h1 <;> simp_all <;> omega

theorem index_find (s : ByteArray) (k : Nat) (c : UInt8) (hk : k ≤ s.size) :
    (findB c s.data.toList k < s.size → Lib.indexByte (s.extract k s.size).data.toList c = ((findB c s.data.toList k - k : Nat) : Int)) ∧ (¬ findB c s.data.toList k < s.size → Lib.indexByte (s.extract k s.size).data.toList c = -1) := by
  have hsz : s.data.toList.length = s.size := rfl
  rw [Lib.extract_to_end, index_takeWhile, List.length_drop, hsz]
  unfold findB
  constructor
  · intro h
    rw [if_pos (by omega)]
    omega
  · intro h
    rw [if_neg (by omega)]

theorem cut_cut (s : ByteArray) (k n : Nat) (h : k + n ≤ s.size) : (s.extract k s.size).extract 0 n = s.extract k (k + n) := by
  apply ByteArray.ext
  apply Array.ext'
  rw [Lib.extract_data, Lib.extract_data, Lib.extract_data]
  simp only [List.drop_zero, Nat.sub_zero]
  rw [List.take_take]
  congr 1
  omega

theorem until_yes (sb k : Nat) (c : Int) (s : ByteArray) (w : World) (h : SrcIs w sb s k) (hq : findB c.toNat.toUInt8 s.data.toList k < s.size) :
    Calls Try.prog 25 #[.pointer (some ⟨sb, 0, none⟩), .int .u8 c] w fun e w' => e = .returned (.tuple #[.string (s.extract k (findB c.toNat.toUInt8 s.data.toList k)), .bool true]) ∧ SrcIs w' sb s (findB c.toNat.toUInt8 s.data.toList k + 1) ∧ w.grownBy w' (some sb) := by
  have c0 := h.c0
  have c1 := h.c1
  have f1 := h.f1
  have hk := h.2.1
  have hm := h.2.2
  have hk' : (k : Int) ≤ (s.size : Int) := by omega
  have Hix := Lib.hid ((index_find s k c.toNat.toUInt8 hk).1 hq)
  have hkq := find_ge c.toNat.toUInt8 s.data.toList k
  obtain ⟨n, hn⟩ : ∃ n, n = findB c.toNat.toUInt8 s.data.toList k - k := ⟨_, rfl⟩
  have Hq : Hid (findB c.toNat.toUInt8 s.data.toList k = k + n) := by show _ = _; omega
  have hns : k + n < s.size := by have := Hq.out; omega
  have hns' : (n : Int) < ((s.size - k : Nat) : Int) := by omega
  rw [← hn] at Hix
  rw [Hq.out]
  clear hn hq hkq
  go_enter Try.func25, Try.ntmps25
  go_wp2
  go_quiet (fail)
  go_wp2_with fail
  refine (Try.strings_IndexByte _ _ _).mono ?_
  rintro e w' ⟨rfl, rfl⟩
  rw [Hix.out]
  have hd := h.drewN nq
  have d0 := hd.c0
  have d1 := hd.c1
  have g1 := hd.f1
  have hs1 : (s.extract k s.size).size = s.size - k := by rw [ByteArray.size_extract]; omega
  go_wp2
  go_ret2
  rw [← cut_cut s k n (by omega)]
  exact ⟨rfl, hd.put _ (by omega) (by omega), grown_drewN _ _ (grown_put _ _ _ _)⟩

theorem until_no (sb k : Nat) (c : Int) (s : ByteArray) (w : World) (h : SrcIs w sb s k) (hq : ¬ findB c.toNat.toUInt8 s.data.toList k < s.size) :
    Calls Try.prog 25 #[.pointer (some ⟨sb, 0, none⟩), .int .u8 c] w fun e w' => e = .returned (.tuple #[.string (s.extract k s.size), .bool false]) ∧ SrcIs w' sb s s.size ∧ w.grownBy w' (some sb) := by
  have c0 := h.c0
  have c1 := h.c1
  have f1 := h.f1
  have hk := h.2.1
  have hm := h.2.2
  have hk' : (k : Int) ≤ (s.size : Int) := by omega
  have Hix := Lib.hid ((index_find s k c.toNat.toUInt8 hk).2 hq)
  clear hq
  go_enter Try.func25, Try.ntmps25
  go_wp2
  go_quiet (fail)
  go_wp2_with fail
  refine (Try.strings_IndexByte _ _ _).mono ?_
  rintro e w' ⟨rfl, rfl⟩
  rw [Hix.out]
  have hd := h.drewN nq
  have d0 := hd.c0
  have d1 := hd.c1
  have g1 := hd.f1
  go_wp2
  go_ret2
  exact ⟨rfl, hd.put s.size (Nat.le_refl _) rfl, grown_drewN _ _ (grown_put _ _ _ _)⟩

def NextPost (s : ByteArray) (k : Nat) (w : World) (e : Ending) (w' : World) : Prop :=
  e = .returned (.tuple #[.string (s.extract (from_ s.data.toList k) (to_ s.data.toList k)), .int .i64 (next_ s.data.toList k), .bool (decide (from_ s.data.toList k < s.size))]) ∧ w = w'

theorem next_post_in {s : ByteArray} {k j i : Nat} {w : World} {v : Int} (hj : j = from_ s.data.toList k) (hi : i = skipB false s.data.toList j) (hjs : j < s.size) (hv : v = min ((i : Int) + 1) s.size) :
    NextPost s k w (.returned (.tuple #[.string (s.extract j i), .int .i64 v, .bool true])) w := by
  have hto : to_ s.data.toList k = i := by unfold to_; rw [← hj, hi]
  have hn : (next_ s.data.toList k : Int) = v := by
    unfold next_
    rw [hto, hv, show s.data.toList.length = s.size from rfl]
    omega
  have hd : decide (from_ s.data.toList k < s.size) = true := by rw [← hj]; simpa using hjs
  refine ⟨?_, rfl⟩
  rw [hto, hn, hd, hj]

theorem next_post_end {s : ByteArray} {k : Nat} {w : World} (hj : from_ s.data.toList k = s.size) :
    NextPost s k w (.returned (.tuple #[.string ByteArray.empty, .int .i64 s.size, .bool false])) w := by
  have hsz : s.data.toList.length = s.size := rfl
  have hto : to_ s.data.toList k = s.size := (to_end (by omega)).trans hj
  have hn : next_ s.data.toList k = s.size := by
    unfold next_
    rw [hto, hsz]
    omega
  have hd : decide (from_ s.data.toList k < s.size) = false := by rw [hj]; simp
  have hex : s.extract s.size s.size = ByteArray.empty := by
    apply ByteArray.ext
    apply Array.ext'
    rw [Lib.extract_data]
    simp
  refine ⟨?_, rfl⟩
  rw [hto, hn, hd, hj, hex]

/-- The reference's Next. -/
theorem next_any (k : Nat) (s : ByteArray) (w : World) (hk : k ≤ s.size) (hm : s.size ≤ 100000) :
    Calls Try.prog 24 #[.string s, .int .i64 k] w (NextPost s k w) := by
  have hsz : s.data.toList.length = s.size := rfl
  have Hsz := Lib.hid hsz
  clear hsz
  go_enter Try.func24, Try.ntmps24
  go_upto_block 0 with fail
  go_cut [1] (fun v wc => v = .int .i64 (from_ s.data.toList k) ∧ wc = w)
  case first =>
    go_wp2
    go_loopg [1] (s.size - k) (fun g v wr => ∃ j : Nat, g = s.size - j ∧ v = .int .i64 j ∧ j ≤ s.size ∧ Hid (from_ s.data.toList j = from_ s.data.toList k) ∧ wr = w)
    case atStart => exact ⟨k, rfl, rfl, hk, rfl, rfl⟩
    case round =>
      obtain ⟨j, hg, rfl, hj, hf, rfl⟩ := hrel
      have hg' := Lib.hid hg
      clear hg
      by_cases hb : ∃ hlt : j < s.size, (s[j].toNat : Int) ≤ 32
      · obtain ⟨hlt, hb⟩ := hb
        have hlt' : (j : Int) < (s.size : Int) := by omega
        have hst := Lib.hid (skip_step (b := true) (l := s.data.toList) (k := j) (by rw [Hsz.out]; exact hlt) (isB_yes hb))
        go_wp2
        go_roundg (s.size - (j + 1))
        case rel => exact ⟨j + 1, rfl, by go_num, by omega, hst.out.trans hf.out, rfl⟩
        case measure => rw [hg'.out]; exact Nat.sub_lt_sub_left hlt (Nat.lt_succ_self j)
      · have hst : from_ s.data.toList k = j := by
          rw [← hf.out]
          by_cases hlt : j < s.size
          · exact skip_stop (by rw [Hsz.out]; exact hlt) (isB_no fun h => hb ⟨hlt, h⟩)
          · exact skip_end (by rw [Hsz.out]; omega)
        have Hst := Lib.hid hst
        clear hst
        by_cases hlt : j < s.size
        all_goals
          first
            | (have hlt' : (j : Int) < (s.size : Int) := by omega
               have hb' : ¬ (s[j].toNat : Int) ≤ 32 := fun h => hb ⟨hlt, h⟩)
            | have hlt' : ¬ (j : Int) < (s.size : Int) := by omega
          clear hb
          go_wp2
          go_meet
          exact ⟨by rw [Hst.out], rfl⟩
  case rest =>
    obtain ⟨rfl, rfl⟩ := hcut
    have hjle := from_le (l := s.data.toList) (k := k) hk
    rw [Hsz.out] at hjle
    obtain ⟨j, hj0⟩ : ∃ j, j = from_ s.data.toList k := ⟨_, rfl⟩
    rw [← hj0] at hjle ⊢
    have Hj := Lib.hid hj0
    clear hj0
    by_cases hend : j < s.size
    · have hend' : (j : Int) < (s.size : Int) := by omega
      have hdd : decide (s.size ≤ j) = false := by simp; omega
      go_upto_block 2 with fail
      go_cut [1] (fun v wc' => v = .int .i64 (skipB false s.data.toList j) ∧ wc' = wc)
      case first =>
        go_wp2
        go_loopg [1] (s.size - j) (fun g v wr => ∃ i : Nat, g = s.size - i ∧ v = .int .i64 i ∧ i ≤ s.size ∧ Hid (skipB false s.data.toList i = skipB false s.data.toList j) ∧ wr = wc)
        case atStart => exact ⟨j, rfl, rfl, by omega, rfl, rfl⟩
        case round =>
          obtain ⟨i, hg, rfl, hi, hf, rfl⟩ := hrel
          have hg' := Lib.hid hg
          clear hg
          by_cases hb : ∃ hlt : i < s.size, ¬ (s[i].toNat : Int) ≤ 32
          · obtain ⟨hlt, hb⟩ := hb
            have hlt' : (i : Int) < (s.size : Int) := by omega
            have hst := Lib.hid (skip_step (b := false) (l := s.data.toList) (k := i) (by rw [Hsz.out]; exact hlt) (isB_no' hb))
            go_wp2
            go_roundg (s.size - (i + 1))
            case rel => exact ⟨i + 1, rfl, by go_num, by omega, hst.out.trans hf.out, rfl⟩
            case measure => rw [hg'.out]; exact Nat.sub_lt_sub_left hlt (Nat.lt_succ_self i)
          · have hst : skipB false s.data.toList j = i := by
              rw [← hf.out]
              by_cases hlt : i < s.size
              · exact skip_stop (by rw [Hsz.out]; exact hlt) (isB_yes' (by by_cases h : (s[i].toNat : Int) ≤ 32; exact h; exact absurd ⟨hlt, h⟩ hb))
              · exact skip_end (by rw [Hsz.out]; omega)
            have Hst := Lib.hid hst
            clear hst
            by_cases hlt : i < s.size
            all_goals
              first
                | (have hlt' : (i : Int) < (s.size : Int) := by omega
                   have hb' : (s[i].toNat : Int) ≤ 32 := by by_cases h : (s[i].toNat : Int) ≤ 32; exact h; exact absurd ⟨hlt, h⟩ hb)
                | have hlt' : ¬ (i : Int) < (s.size : Int) := by omega
              clear hb
              go_wp2
              go_meet
              exact ⟨by rw [Hst.out], rfl⟩
      case rest =>
        obtain ⟨rfl, rfl⟩ := hcut
        have hij := skip_ge false s.data.toList j
        have hle := skip_le (b := false) (l := s.data.toList) (k := j) (by rw [Hsz.out]; omega)
        rw [Hsz.out] at hle
        obtain ⟨i, hi0⟩ : ∃ i, i = skipB false s.data.toList j := ⟨_, rfl⟩
        rw [← hi0] at hij hle ⊢
        have Hi := Lib.hid hi0
        clear hi0
        by_cases hx : i < s.size
        all_goals
          go_wp2
          all_goals
            go_ret3
            exact next_post_in Hj.out Hi.out hend (by omega)
    · have hjs : j = s.size := by omega
      subst hjs
      go_wp2
      go_ret3
      exact next_post_end Hj.out.symm


def RUntilPost (s : ByteArray) (k : Nat) (c : Int) (w : World) (e : Ending) (w' : World) : Prop :=
  ((findB c.toNat.toUInt8 s.data.toList k < s.size ∧ e = .returned (.tuple #[.string (s.extract k (findB c.toNat.toUInt8 s.data.toList k)), .int .i64 ((findB c.toNat.toUInt8 s.data.toList k : Int) + 1), .bool true])) ∨
   (¬ findB c.toNat.toUInt8 s.data.toList k < s.size ∧ e = .returned (.tuple #[.string (s.extract k s.size), .int .i64 s.size, .bool false]))) ∧ w = w'

theorem u8_is {x : UInt8} {c : Int} (hc0 : 0 ≤ c) (hc1 : c ≤ 255) : x = c.toNat.toUInt8 ↔ (x.toNat : Int) = c := by
  constructor
  · rintro rfl
    simp
    omega
  · intro h
    apply UInt8.toNat.inj
    simp
    omega

/-- The reference's Until. -/
theorem runtil_any (k : Nat) (c : Int) (s : ByteArray) (w : World) (hk : k ≤ s.size) (hm : s.size ≤ 100000) (hc0 : 0 ≤ c) (hc1 : c ≤ 255) :
    Calls Try.prog 26 #[.string s, .int .i64 k, .int .u8 c] w (RUntilPost s k c w) := by
  have hsz : s.data.toList.length = s.size := rfl
  have Hsz := Lib.hid hsz
  clear hsz
  go_enter Try.func26, Try.ntmps26
  go_wp2
  go_loopg [9] (s.size - k) (fun g v wr => ∃ j : Nat, g = s.size - j ∧ v = .int .i64 j ∧ k ≤ j ∧ j ≤ s.size ∧ Hid (findB c.toNat.toUInt8 s.data.toList j = findB c.toNat.toUInt8 s.data.toList k) ∧ wr = w)
  case atStart => exact ⟨k, rfl, rfl, Nat.le_refl _, hk, rfl, rfl⟩
  case round =>
    obtain ⟨j, hg, rfl, hkj, hj, hf, rfl⟩ := hrel
    have hg' := Lib.hid hg
    clear hg
    have hkj' : (k : Int) ≤ (j : Int) := by omega
    have hj' : (j : Int) ≤ (s.size : Int) := by omega
    by_cases hlt : j < s.size
    · by_cases hb : (s[j].toNat : Int) = c
      · have Hst : Hid (findB c.toNat.toUInt8 s.data.toList k = j) := hf.out.symm.trans (find_stop (by rw [Hsz.out]; exact hlt) ((u8_is hc0 hc1).2 hb))
        have hb' : (((s[j].toNat : Int)) == c) = true := by simpa using hb
        clear hb
        go_wp2
        go_ret3
        exact ⟨Or.inl ⟨by rw [Hst.out]; exact hlt, by rw [Hst.out]; rfl⟩, rfl⟩
      · have Hst := Lib.hid (find_step (c := c.toNat.toUInt8) (l := s.data.toList) (k := j) (by rw [Hsz.out]; exact hlt) (fun h => hb ((u8_is hc0 hc1).1 h)))
        have hb' : (((s[j].toNat : Int)) == c) = false := by simpa using hb
        go_wp2
        go_roundg (s.size - (j + 1))
        case rel => exact ⟨j + 1, rfl, by go_num, by omega, by omega, Hst.out.trans hf.out, rfl⟩
        case measure => rw [hg'.out]; exact Nat.sub_lt_sub_left hlt (Nat.lt_succ_self j)
    · have Hst : Hid (¬ findB c.toNat.toUInt8 s.data.toList k < s.size) := by
        have := find_end (c := c.toNat.toUInt8) (l := s.data.toList) (k := j) (by rw [Hsz.out]; omega)
        rw [hf.out] at this
        show ¬ _
        omega
      go_wp2
      go_ret3
      exact ⟨Or.inr ⟨Hst.out, rfl⟩, rfl⟩

end Go.Proofs.Ytfoogcdpllkeoaa.Src
