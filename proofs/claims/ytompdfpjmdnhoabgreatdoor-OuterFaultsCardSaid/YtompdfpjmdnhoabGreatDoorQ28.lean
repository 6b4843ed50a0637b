/-
  Lemmas on the way, for every input that they name: SrcC.
-/
import Derived.WalkSpells
import Derived.Lib.IndexBytes
import Derived.Test.YtompdfpjmdnhoabGreatDoorQ02
import Derived.Test.YtompdfpjmdnhoabGreatDoorQ07
set_option linter.unusedVariables false
set_option linter.unusedSimpArgs false
set_option linter.deprecated false
namespace Go.Proofs.YtompdfpjmdnhoabGreatDoor.Src
open Go.RowKit
theorem index_takeWhile (c : UInt8) : ∀ l : List UInt8, Lib.indexByte l c = if (l.takeWhile (fun x => x != c)).length < l.length then ((l.takeWhile (fun x => x != c)).length : Int) else -1
  | [] => by simp [Lib.indexByte]
  | x :: r => by
    have ih := index_takeWhile c r
    by_cases h : x = c
    · subst h
      simp [Lib.indexByte]
    · have h' : (x != c) = true := by simpa using h
      rw [List.takeWhile_cons, if_pos h']
      simp only [Lib.indexByte, List.length_cons, ih]
      have hle := (List.takeWhile_prefix (fun x => x != c) (l := r)).length_le
      split <;> rename_i h1 <;> simp_all <;> omega
theorem index_find (s : ByteArray) (k : Nat) (c : UInt8) (hk : k ≤ s.size) :
    (findB c s.data.toList k < s.size → Lib.indexByte (s.extract k s.size).data.toList c = ((findB c s.data.toList k - k : Nat) : Int)) ∧ (¬ findB c s.data.toList k < s.size → Lib.indexByte (s.extract k s.size).data.toList c = -1) := by
  have hsz : s.data.toList.length = s.size := rfl
  rw [Lib.extract_to_end, index_takeWhile, List.length_drop, hsz]
  unfold findB
  constructor
  · intro h
    rw [if_pos (by omega)]
    omega
  · intro h
    rw [if_neg (by omega)]
theorem cut_cut (s : ByteArray) (k n : Nat) (h : k + n ≤ s.size) : (s.extract k s.size).extract 0 n = s.extract k (k + n) := by
  apply ByteArray.ext
  apply Array.ext'
  rw [Lib.extract_data, Lib.extract_data, Lib.extract_data]
  simp only [List.drop_zero, Nat.sub_zero]
  rw [List.take_take]
  congr 1
  omega
theorem until_yes (sb k : Nat) (c : Int) (s : ByteArray) (w : World) (h : SrcIs w sb s k) (hq : findB c.toNat.toUInt8 s.data.toList k < s.size) :
    Calls Tryz.prog 77 #[.pointer (some ⟨sb, 0, none⟩), .int .u8 c] w fun e w' => e = .returned (.tuple #[.string (s.extract k (findB c.toNat.toUInt8 s.data.toList k)), .bool true]) ∧ SrcIs w' sb s (findB c.toNat.toUInt8 s.data.toList k + 1) ∧ w.grownBy w' (some sb) := by
  have c0 := h.c0
  have c1 := h.c1
  have f1 := h.f1
  have hk := h.2.1
  have hm := h.2.2
  have hk' : (k : Int) ≤ (s.size : Int) := by omega
  have Hix := Lib.hid ((index_find s k c.toNat.toUInt8 hk).1 hq)
  have hkq := find_ge c.toNat.toUInt8 s.data.toList k
  obtain ⟨n, hn⟩ : ∃ n, n = findB c.toNat.toUInt8 s.data.toList k - k := ⟨_, rfl⟩
  have Hq : Hid (findB c.toNat.toUInt8 s.data.toList k = k + n) := by show _ = _; omega
  have hns : k + n < s.size := by have := Hq.out; omega
  have hns' : (n : Int) < ((s.size - k : Nat) : Int) := by omega
  rw [← hn] at Hix
  rw [Hq.out]
  clear hn hq hkq
  go_enter Tryz.func77, Tryz.ntmps77
  go_wp2
  go_quiet (fail)
  go_wp2_with fail
  refine (Tryz.strings_IndexByte _ _ _).mono ?_
  rintro e w' ⟨rfl, rfl⟩
  rw [Hix.out]
  have hd := h.drewN nq
  have d0 := hd.c0
  have d1 := hd.c1
  have g1 := hd.f1
  have hs1 : (s.extract k s.size).size = s.size - k := by rw [ByteArray.size_extract]; omega
  go_wp2
  go_ret2
  rw [← cut_cut s k n (by omega)]
  exact ⟨rfl, hd.put _ (by omega) (by omega), grown_drewN _ _ (grown_put _ _ _ _)⟩
theorem until_no (sb k : Nat) (c : Int) (s : ByteArray) (w : World) (h : SrcIs w sb s k) (hq : ¬ findB c.toNat.toUInt8 s.data.toList k < s.size) :
    Calls Tryz.prog 77 #[.pointer (some ⟨sb, 0, none⟩), .int .u8 c] w fun e w' => e = .returned (.tuple #[.string (s.extract k s.size), .bool false]) ∧ SrcIs w' sb s s.size ∧ w.grownBy w' (some sb) := by
  have c0 := h.c0
  have c1 := h.c1
  have f1 := h.f1
  have hk := h.2.1
  have hm := h.2.2
  have hk' : (k : Int) ≤ (s.size : Int) := by omega
  have Hix := Lib.hid ((index_find s k c.toNat.toUInt8 hk).2 hq)
  clear hq
  go_enter Tryz.func77, Tryz.ntmps77
  go_wp2
  go_quiet (fail)
  go_wp2_with fail
  refine (Tryz.strings_IndexByte _ _ _).mono ?_
  rintro e w' ⟨rfl, rfl⟩
  rw [Hix.out]
  have hd := h.drewN nq
  have d0 := hd.c0
  have d1 := hd.c1
  have g1 := hd.f1
  go_wp2
  go_ret2
  exact ⟨rfl, hd.put s.size (Nat.le_refl _) rfl, grown_drewN _ _ (grown_put _ _ _ _)⟩
end Go.Proofs.YtompdfpjmdnhoabGreatDoor.Src
