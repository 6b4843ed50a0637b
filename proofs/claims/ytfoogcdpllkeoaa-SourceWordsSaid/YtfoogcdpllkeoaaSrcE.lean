/-
  Chapter 8 (source): the walks of SourceCuts and SourceUntils.
-/
import Derived.Test.YtfoogcdpllkeoaaSrcD
namespace Go.Proofs.Ytfoogcdpllkeoaa.Src
open Go.RowKit

theorem cuts_bad (t : ByteArray) (n : Int) (w : World) (hmt : t.size ≤ maxLen) (h : 500 < t.size ∨ n < 0 ∨ 100 < n) :
    Calls Try.prog 9 #[.string t, .int .i64 n] w fun e w' => e = .returned (.bool true) ∧ Below w.heap.size w w' := by
  unfold maxLen at hmt
  by_cases h1 : 500 < t.size
  rotate_left
  by_cases h2 : n < 0
  rotate_left
  have h3 : 100 < n := by omega
  all_goals
    clear h
    go_enter Try.func9, Try.ntmps9
    go_wp2_with fail
    refine (alive_any _).mono ?_
    rintro e w1 ⟨rfl, hb⟩
    go_wp2_with fail
    go_ret
    exact ⟨rfl, hb⟩

/-- No byte of a word is a blank. -/
theorem word_byte (t : ByteArray) (k i : Nat) (hk : k ≤ t.size) (hi : i < (t.extract (from_ t.data.toList k) (to_ t.data.toList k)).size) :
    ¬ (((t.extract (from_ t.data.toList k) (to_ t.data.toList k))[i]).toNat : Int) ≤ 32 := by
  have hsz : t.data.toList.length = t.size := rfl
  have hle := to_le (l := t.data.toList) (k := k) (by omega)
  rw [ByteArray.size_extract] at hi
  have hlt : from_ t.data.toList k + i < t.data.toList.length := by omega
  have h1 : isB false t.data.toList[from_ t.data.toList k + i] = true := skip_in (b := false) (k := from_ t.data.toList k) (by omega) (by unfold to_ at hi; omega) hlt
  have h2 : (t.extract (from_ t.data.toList k) (to_ t.data.toList k))[i] = t.data.toList[from_ t.data.toList k + i] := by
    rw [ByteArray.getElem_extract]
    rfl
  rw [h2]
  unfold isB at h1
  intro h5
  have h6 : t.data.toList[from_ t.data.toList k + i].toNat ≤ 32 := by omega
  rw [decide_eq_true h6] at h1
  cases h1

theorem end_empty (t : ByteArray) : t.extract t.size t.size = ByteArray.empty := by
  apply ByteArray.ext
  apply Array.ext'
  rw [Lib.extract_data]
  simp

theorem word_empty (t : ByteArray) (k : Nat) (hk : k ≤ t.size) : (t.extract (from_ t.data.toList k) (to_ t.data.toList k)).toList.isEmpty = !decide (from_ t.data.toList k < t.size) := by
  have hsz : t.data.toList.length = t.size := rfl
  have hle := to_le (l := t.data.toList) (k := k) (by omega)
  have hge := to_ge t.data.toList k
  rw [ByteArray.toList_eq]
  have hlen : (t.extract (from_ t.data.toList k) (to_ t.data.toList k)).data.toList.length = to_ t.data.toList k - from_ t.data.toList k := by
    show (t.extract _ _).size = _
    rw [ByteArray.size_extract]
    omega
  rw [Bool.eq_iff_iff]
  simp only [List.isEmpty_iff_length_eq_zero, hlen, Bool.not_eq_true', decide_eq_false_iff_not]
  constructor
  · intro h1 h2
    have := to_gt (l := t.data.toList) (k := k) (by omega)
    omega
  · intro h1
    have := to_end (l := t.data.toList) (k := k) (by omega)
    omega

set_option maxRecDepth 100000 in
set_option maxHeartbeats 2000000 in
theorem cuts_walk (t : ByteArray) (n : Int) (w : World) (ht : t.size ≤ 500) (h0 : 0 ≤ n) (h1 : n ≤ 100) :
    Calls Try.prog 9 #[.string t, .int .i64 n] w fun e w' => e = .returned (.bool true) ∧ Below w.heap.size w w' := by
  go_enter Try.func9, Try.ntmps9
  go_wp2_with fail
  refine (alive_any _).mono ?_
  rintro e w1 ⟨rfl, hb1⟩
  go_wp2_with fail
  refine (new_any t (by omega) _).mono ?_
  rintro e w2 ⟨rfl, h2, hb2, hz2⟩
  have hz := hb1.size
  go_wp2_with fail
  have Hb := Lib.hid (hb1.trans (hb2.mono hz))
  clear hb1 hb2
  generalize w1.heap.size = sb at *
  go_loopg [6] n.toNat (fun g vi wr => ∃ (i : Int) (k : Nat), g = (n - i).toNat ∧ vi = .int .i64 i ∧ 0 ≤ i ∧ i ≤ n ∧ SrcIs wr sb t k ∧ Hid (Below w.heap.size w wr))
  case atStart => exact ⟨0, 0, by simp, rfl, by omega, h0, h2, Hb⟩
  case round =>
    obtain ⟨i, k, hg, rfl, hi0, hi, hs, hb⟩ := hrel
    have Hg := Lib.hid hg
    clear hg
    by_cases hlt : i < n
    · go_wp2_with fail
      refine (at_any _ k t _ hs).mono ?_
      rintro e w3 ⟨rfl, rfl⟩
      go_wp2_with fail
      refine (word_any _ k t _ hs).mono ?_
      rintro e w4 ⟨rfl, hs4, hg4⟩
      have hb4 : Hid (Below w.heap.size w w4) := hb.out.grown hg4 hb.out.size (fun j e => by cases e; omega)
      have hkn := next_ge (l := t.data.toList) (k := k) hs.2.1
      have Hbyte := Lib.hid (fun i hi => word_byte t k i hs.2.1 hi)
      have Hemp := Lib.hid (word_empty t k hs.2.1)
      obtain ⟨k', hk'⟩ : ∃ k', k' = next_ t.data.toList k := ⟨_, rfl⟩
      rw [← hk'] at hs4 hkn
      clear hk'
      have hd1 : decide (k' < k) = false := by simp; omega
      have hd2 : decide (t.size < k') = false := by have := hs4.2.1; simp; omega
      have hk4 : (k' : Int) ≤ (t.size : Int) := by have := hs4.2.1; omega
      have Q1 : ∀ m, Calls Try.prog 27 #[.pointer (some ⟨sb, 0, none⟩)] (w4.drewN m) fun e w'' => e = .returned (.int .i64 k') ∧ ∃ m, w'' = w4.drewN m := fun m => quiet_same (at_any sb _ t _ (hs4.drewN m))
      have Q2 : ∀ m, Calls Try.prog 23 #[.pointer (some ⟨sb, 0, none⟩)] (w4.drewN m) fun e w'' => e = .returned (.string (t.extract k' t.size)) ∧ ∃ m, w'' = w4.drewN m := fun m => Calls.quiet_of (left_any sb _ t _ (hs4.drewN m))
      have HQ1 := Lib.hid Q1
      have HQ2 := Lib.hid Q2
      clear Q1 Q2
      go_wp2_with fail
      go_quiet ((first | (go_at_call 27; exact HQ1.out _) | (go_at_call 23; exact HQ2.out _)))
      go_upto_block 2 with fail
      have hs5 := hs4.drewN nq
      have hb5 : Hid (Below w.heap.size w (w4.drewN nq)) := below_drewN hb4.out nq
      generalize w4.drewN nq = w5 at *
      obtain ⟨word, hword⟩ : ∃ word, word = t.extract (from_ t.data.toList k) (to_ t.data.toList k) := ⟨_, rfl⟩
      obtain ⟨ok, hok⟩ : ∃ ok, ok = decide (from_ t.data.toList k < t.size) := ⟨_, rfl⟩
      rw [← hword] at Hbyte Hemp ⊢
      rw [← hok] at Hemp ⊢
      have hws : word.size ≤ 500 := by rw [hword, ByteArray.size_extract]; omega
      clear hword hok
      go_cut [] (fun wc => wc = w5)
      case first =>
        go_wp2
        go_loopg [10] word.size (fun g v wr => ∃ j : Nat, g = word.size - j ∧ v = .int .i64 j ∧ j ≤ word.size ∧ wr = w5)
        case atStart => exact ⟨0, rfl, rfl, by omega, rfl⟩
        case round =>
          obtain ⟨j, hg, rfl, hj, rfl⟩ := hrel
          have Hg2 := Lib.hid hg
          clear hg
          by_cases hjl : j < word.size
          · have hby := Hbyte.out j hjl
            go_wp2
            go_roundg (word.size - (j + 1))
            case rel => exact ⟨j + 1, rfl, by go_num, by omega, rfl⟩
            case measure => rw [Hg2.out]; exact Nat.sub_lt_sub_left hjl (Nat.lt_succ_self j)
          · go_wp2
            go_meet
            rfl
      case rest =>
        obtain rfl := hcut
        have hem := Hemp.out
        go_wp2
        cases ok
        all_goals
          simp only [Bool.not_true, Bool.not_false] at hem
          go_wp2
          go_roundg (n - (i + 1)).toNat
          case rel => exact ⟨i + 1, k', rfl, rfl, by omega, by omega, hs5, hb5⟩
          case measure => have := Hg.out; omega
    · obtain rfl : i = n := by omega
      by_cases hq : findB (0 : Int).toNat.toUInt8 t.data.toList k < t.size
      · have HQ := Lib.hid hq
        clear hq
        go_wp2_with fail
        refine (until_yes _ k 0 t _ hs HQ.out).mono ?_
        rintro e w4 ⟨rfl, hs4, hg4⟩
        have hb4 : Hid (Below w.heap.size w w4) := hb.out.grown hg4 hb.out.size (fun j e => by cases e; omega)
        go_wp2
        go_ret
        exact ⟨rfl, hb4.out⟩
      · have HQ := Lib.hid hq
        clear hq
        go_wp2_with fail
        refine (until_no _ k 0 t _ hs HQ.out).mono ?_
        rintro e w4 ⟨rfl, hs4, hg4⟩
        have hb4 : Hid (Below w.heap.size w w4) := hb.out.grown hg4 hb.out.size (fun j e => by cases e; omega)
        have hle := Lib.hid (end_empty t)
        have hsz : decide ((t.extract k t.size).size ≤ t.size) = true := by rw [ByteArray.size_extract]; simp
        go_wp2_with fail
        refine (left_any _ t.size t _ hs4).mono ?_
        rintro e w5 ⟨rfl, m, rfl⟩
        rw [hle.out]
        go_wp2
        go_ret
        exact ⟨rfl, below_drewN hb4.out _⟩

theorem cuts_any (t : ByteArray) (n : Int) (ht : t.size ≤ maxLen) (_ : (Lit.int .i64 n).wf = true) (w : World) :
    Calls Try.prog 9 #[.string t, .int .i64 n] w fun e w' => e = .returned (.bool true) ∧ Below w.heap.size w w' := by
  by_cases h : 500 < t.size ∨ n < 0 ∨ 100 < n
  · exact cuts_bad t n w ht h
  · exact cuts_walk t n w (by omega) (by omega) (by omega)

theorem untils_bad (t : ByteArray) (c : Int) (w : World) (hmt : t.size ≤ maxLen) (h : 500 < t.size) :
    Calls Try.prog 10 #[.string t, .int .u8 c] w fun e w' => e = .returned (.bool true) ∧ Below w.heap.size w w' := by
  unfold maxLen at hmt
  go_enter Try.func10, Try.ntmps10
  go_wp2_with fail
  refine (alive_any _).mono ?_
  rintro e w1 ⟨rfl, hb⟩
  go_wp2_with fail
  go_ret
  exact ⟨rfl, hb⟩

theorem piece_add (t : ByteArray) (k q : Nat) (h1 : k ≤ q) : t.extract 0 k ++ t.extract k q = t.extract 0 q := by
  apply ByteArray.ext
  apply Array.ext'
  rw [ByteArray.data_append, Array.toList_append, Lib.extract_data, Lib.extract_data, Lib.extract_data]
  simp only [List.drop_zero, Nat.sub_zero]
  have : q = k + (q - k) := by omega
  conv => rhs; rw [this, List.take_add]

theorem piece_byte (t : ByteArray) (q : Nat) (c : Int) (hq : q < t.size) (hb : t.data.toList[q]? = some c.toNat.toUInt8) : t.extract 0 q ++ ⟨#[c.toNat.toUInt8]⟩ = t.extract 0 (q + 1) := by
  rw [← piece_add t q (q + 1) (by omega)]
  congr 1
  apply ByteArray.ext
  apply Array.ext'
  rw [Lib.extract_data]
  rw [List.drop_eq_getElem_cons (show q < t.data.toList.length from hq)]
  rw [List.getElem?_eq_getElem (show q < t.data.toList.length from hq)] at hb
  injection hb with hb
  rw [hb]
  simp

theorem conv_one (w : World) (c : Int) : (convert 51 9 (.slice (some ⟨w.heap.size, 0, none⟩) 1 1)).run Try.prog (w.alloc (.cells #[.int .u8 c] 5)) = .ok (.string ⟨#[c.toNat.toUInt8]⟩) (w.alloc (.cells #[.int .u8 c] 5)) := by
  rw [run_convert_bytes_string _ 51 9 5 _ 1 1 Try.underlying51 Try.underlying5 Try.underlying9, run_bytesToString _ _ _ _ [c]]
  · rfl
  · go_simp

set_option maxRecDepth 100000 in
set_option maxHeartbeats 2000000 in
theorem untils_walk (t : ByteArray) (c : Int) (w : World) (ht : t.size ≤ 500) :
    Calls Try.prog 10 #[.string t, .int .u8 c] w fun e w' => e = .returned (.bool true) ∧ Below w.heap.size w w' := by
  go_enter Try.func10, Try.ntmps10
  go_wp2_with fail
  refine (alive_any _).mono ?_
  rintro e w1 ⟨rfl, hb1⟩
  go_wp2_with fail
  refine (new_any t (by omega) _).mono ?_
  rintro e w2 ⟨rfl, h2, hb2, hz2⟩
  have hz := hb1.size
  go_wp2_with fail
  have Hb := Lib.hid (hb1.trans (hb2.mono hz))
  clear hb1 hb2
  have hsbz : w1.heap.size < w2.heap.size := by omega
  generalize w1.heap.size = sb at *
  have hx0 : t.extract 0 0 = ByteArray.empty := by
    apply ByteArray.ext
    apply Array.ext'
    rw [Lib.extract_data]
    simp
  go_loopg [6, 7] (t.size + 2) (fun g va vi wr => ∃ i k : Nat, g = t.size + 2 - i ∧ vi = .int .i64 i ∧ va = .string (t.extract 0 k) ∧ i ≤ k ∧ SrcIs wr sb t k ∧ Hid (Below w.heap.size w wr))
  case atStart => exact ⟨0, 0, rfl, rfl, by rw [hx0]; rfl, by omega, h2, Hb⟩
  case round =>
    obtain ⟨i, k, hg, rfl, rfl, hik, hs, hb⟩ := hrel
    have Hg := Lib.hid hg
    clear hg hx0
    have hkt := hs.2.1
    have hi2 : (i : Int) ≤ (t.size : Int) + 1 := by omega
    have hsz0 : (t.extract 0 k).size = k := by rw [ByteArray.size_extract]; omega
    by_cases hq : findB c.toNat.toUInt8 t.data.toList k < t.size
    · have HQ := Lib.hid hq
      have Hby : Hid (t.data.toList[findB c.toNat.toUInt8 t.data.toList k]? = some c.toNat.toUInt8) := (List.getElem?_eq_getElem (show _ < t.data.toList.length from hq)).trans (congrArg some (find_is hq))
      have hge := find_ge c.toNat.toUInt8 t.data.toList k
      clear hq
      go_wp2_with fail
      refine (until_yes _ k c t _ hs HQ.out).mono ?_
      rintro e w4 ⟨rfl, hs4, hg4⟩
      have hb4 : Hid (Below w.heap.size w w4) := hb.out.grown hg4 hb.out.size (fun j e => by cases e; omega)
      obtain ⟨q, hq0⟩ : ∃ q, q = findB c.toNat.toUInt8 t.data.toList k := ⟨_, rfl⟩
      have Hpc : Hid (t.extract 0 q ++ ⟨#[c.toNat.toUInt8]⟩ = t.extract 0 (q + 1)) := by
        have h5 := HQ.out
        have h6 := Hby.out
        simp only [← hq0] at h5 h6
        exact piece_byte t q c h5 h6
      have hqs : q < t.size := by rw [hq0]; exact HQ.out
      rw [← hq0] at hs4 hge ⊢
      clear hq0 Hby HQ
      have Hadd := Lib.hid (piece_add t k q hge)
      have hszq : (t.extract 0 q).size = q := by rw [ByteArray.size_extract]; omega
      have hszw : (t.extract k q).size = q - k := by rw [ByteArray.size_extract]; omega
      have hcv := conv_one w4 c
      go_wp2
      go_roundg (t.size + 2 - (i + 1))
      case rel => exact ⟨i + 1, q + 1, rfl, by go_num, by rw [← Hpc.out], by omega, hs4.grown (World.grownBy_alloc _ _ none) (by simp), hb4.out.alloc hb4.out.size _⟩
      case measure => have := Hg.out; omega
    · have HQ := Lib.hid hq
      clear hq
      go_wp2_with fail
      refine (until_no _ k c t _ hs HQ.out).mono ?_
      rintro e w4 ⟨rfl, hs4, hg4⟩
      have hb4 : Hid (Below w.heap.size w w4) := hb.out.grown hg4 hb.out.size (fun j e => by cases e; omega)
      have hszw : (t.extract k t.size).size = t.size - k := by rw [ByteArray.size_extract]; omega
      have Hadd := Lib.hid (piece_add t k t.size hkt)
      have hall : t.extract 0 t.size = t := by simp
      have hle := Lib.hid (end_empty t)
      go_wp2_with fail
      refine (left_any _ t.size t _ hs4).mono ?_
      rintro e w5 ⟨rfl, m, rfl⟩
      rw [hle.out]
      go_wp2_with fail
      refine (at_any _ t.size t _ (hs4.drewN m)).mono ?_
      rintro e w6 ⟨rfl, rfl⟩
      go_wp2_with fail
      go_ret
      exact ⟨rfl, below_drewN hb4.out _⟩

theorem untils_any (t : ByteArray) (c : Int) (ht : t.size ≤ maxLen) (_ : (Lit.int .u8 c).wf = true) (w : World) :
    Calls Try.prog 10 #[.string t, .int .u8 c] w fun e w' => e = .returned (.bool true) ∧ Below w.heap.size w w' := by
  by_cases h : 500 < t.size
  · exact untils_bad t c w ht h
  · exact untils_walk t c w (by omega)


end Go.Proofs.Ytfoogcdpllkeoaa.Src
