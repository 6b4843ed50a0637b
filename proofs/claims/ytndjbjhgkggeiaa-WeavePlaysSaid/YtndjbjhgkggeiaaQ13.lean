/-
  Lemmas on the way, for every input that they name: WvH.
-/
import Derived.Test.YtndjbjhgkggeiaaQ12
set_option linter.unusedVariables false
set_option linter.unusedSimpArgs false
set_option linter.deprecated false
namespace Go.Proofs.Ytndjbjhgkggeiaa.Wv
open Go.RowKit
theorem did_pre {w w2 w3 : World} {B : Nat} {a : At} {r : Int × St} {e : Ending} (T : Touch w w2 a.blocks) (N : Did w2 B a r e w3) : Did w B a r e w3 :=
  ⟨N.1, Next.trans rfl T (fun _ h => Or.inl h) N.2⟩
theorem WvIs.grown {w w' : World} {B : Nat} {a : At} {M : List Int} {h : Nat} {O : List (Int × Int)} (H : WvIs w B a M h O) (hg : w.grownBy w' none) : WvIs w' B a M h O :=
  H.touch (Touch.of_grown (S := fun _ => False) hg (fun _ e => by cases e)) (fun _ _ => id)
theorem pre_touch {w w1 w2 : World} {S : Nat → Prop} (hb : Below w.heap.size w w1) (hg : w1.grownBy w2 none) : Touch w w2 S :=
  (Touch.of_below hb S).trans (Touch.of_grown (S := S) hg (fun _ e => by cases e)) (fun _ h => Or.inl h)
set_option maxRecDepth 100000 in
theorem form_if (B : Nat) (a : At) (s : St) (w : World) (H : WvIs w B a s.M s.h s.O) (hO : s.O.length < 5000) (s0 : ByteArray) (hs0 : s0.size ≤ 100000) (hW : (⟨(ups s0).toArray⟩ : ByteArray) = wIf) :
    Calls Try.prog 14 #[.pointer (some ⟨a.sb, 0, none⟩), .string s0] w (Did w B a (forwardR s 4 1)) := by
  have HW := Lib.hid hW
  have Hfit : Hid (fitsB s.O wIf = true) := by show fitsB _ _ = true; simp [fitsB, wIf, wWhile, wElse, wThen, wUntil, wAgain, wRepeat, wLoop, wPlus, wDo, wBegin]
  clear hW
  go_enter Try.func14, Try.ntmps14
  go_wp2_with fail
  refine (great_any s0 _ hs0).mono ?_
  rintro e w1 ⟨rfl, hb1⟩
  rw [HW.out]
  have H1 := H.below hb1 (Nat.le_refl _)
  go_wp2_with fail
  refine (fits_any B a _ _ _ _ H1 wIf).mono ?_
  rintro e w2 ⟨rfl, hg2⟩
  rw [Hfit.out]
  have H2 := H1.grown hg2
  have T2 : Touch w w2 a.blocks := pre_touch hb1 hg2
  have HC := Lib.hid (forward_any B a s w2 H2 4 1 hO)
  have HT2 := Lib.hid T2
  clear H1 H2 T2 hb1 hg2
  unfold wIf
  go_wp2_with fail
  refine HC.out.mono ?_
  rintro e w3 ⟨rfl, N⟩
  have HN := Lib.hid (did_pre HT2.out (⟨rfl, N⟩ : Did w2 B a _ _ w3))
  clear N
  go_wp2_with fail
  go_ret
  exact HN.out
set_option maxRecDepth 100000 in
theorem form_do (B : Nat) (a : At) (s : St) (w : World) (H : WvIs w B a s.M s.h s.O) (hO : s.O.length < 5000) (s0 : ByteArray) (hs0 : s0.size ≤ 100000) (hW : (⟨(ups s0).toArray⟩ : ByteArray) = wDo) :
    Calls Try.prog 14 #[.pointer (some ⟨a.sb, 0, none⟩), .string s0] w (Did w B a (doR s)) := by
  have HW := Lib.hid hW
  have Hfit : Hid (fitsB s.O wDo = true) := by show fitsB _ _ = true; simp [fitsB, wIf, wWhile, wElse, wThen, wUntil, wAgain, wRepeat, wLoop, wPlus, wDo, wBegin]
  clear hW
  go_enter Try.func14, Try.ntmps14
  go_wp2_with fail
  refine (great_any s0 _ hs0).mono ?_
  rintro e w1 ⟨rfl, hb1⟩
  rw [HW.out]
  have H1 := H.below hb1 (Nat.le_refl _)
  go_wp2_with fail
  refine (fits_any B a _ _ _ _ H1 wDo).mono ?_
  rintro e w2 ⟨rfl, hg2⟩
  rw [Hfit.out]
  have H2 := H1.grown hg2
  have T2 : Touch w w2 a.blocks := pre_touch hb1 hg2
  have HC := Lib.hid (do_any B a s w2 H2 hO)
  have HT2 := Lib.hid T2
  clear H1 H2 T2 hb1 hg2
  unfold wDo
  go_wp2_with fail
  refine HC.out.mono ?_
  rintro e w3 ⟨rfl, N⟩
  have HN := Lib.hid (did_pre HT2.out (⟨rfl, N⟩ : Did w2 B a _ _ w3))
  clear N
  go_wp2_with fail
  go_ret
  exact HN.out
set_option maxRecDepth 100000 in
theorem form_while (B : Nat) (a : At) (M : List Int) (h : Nat) (O : List (Int × Int)) (v : Int) (w : World) (H : WvIs w B a M h (O ++ [(3, v)])) (hO : O.length < 4900) (s0 : ByteArray) (hs0 : s0.size ≤ 100000) (hW : (⟨(ups s0).toArray⟩ : ByteArray) = wWhile) :
    Calls Try.prog 14 #[.pointer (some ⟨a.sb, 0, none⟩), .string s0] w (Did w B a (forwardR ⟨M, h, O ++ [(3, v)]⟩ 4 4)) := by
  have HW := Lib.hid hW
  have Hfit : Hid (fitsB (O ++ [(3, v)]) wWhile = true) := by show fitsB _ _ = true; simp [fitsB, topB, wIf, wWhile, wElse, wThen, wUntil, wAgain, wRepeat, wLoop, wPlus, wDo, wBegin]
  clear hW
  go_enter Try.func14, Try.ntmps14
  go_wp2_with fail
  refine (great_any s0 _ hs0).mono ?_
  rintro e w1 ⟨rfl, hb1⟩
  rw [HW.out]
  have H1 := H.below hb1 (Nat.le_refl _)
  go_wp2_with fail
  refine (fits_any B a _ _ _ _ H1 wWhile).mono ?_
  rintro e w2 ⟨rfl, hg2⟩
  rw [Hfit.out]
  have H2 := H1.grown hg2
  have T2 : Touch w w2 a.blocks := pre_touch hb1 hg2
  have HC := Lib.hid (forward_any B a ⟨M, h, O ++ [(3, v)]⟩ w2 H2 4 4 (by simp; omega))
  have HT2 := Lib.hid T2
  clear H1 H2 T2 hb1 hg2
  unfold wWhile
  go_wp2_with fail
  refine HC.out.mono ?_
  rintro e w3 ⟨rfl, N⟩
  have HN := Lib.hid (did_pre HT2.out (⟨rfl, N⟩ : Did w2 B a _ _ w3))
  clear N
  go_wp2_with fail
  go_ret
  exact HN.out
set_option maxRecDepth 100000 in
theorem form_until (B : Nat) (a : At) (M : List Int) (h : Nat) (O : List (Int × Int)) (v : Int) (w : World) (H : WvIs w B a M h (O ++ [(3, v)])) (s0 : ByteArray) (hs0 : s0.size ≤ 100000) (hW : (⟨(ups s0).toArray⟩ : ByteArray) = wUntil) :
    Calls Try.prog 14 #[.pointer (some ⟨a.sb, 0, none⟩), .string s0] w (Did w B a (backwardR ⟨M, h, O ++ [(3, v)]⟩ O (3, v) 4)) := by
  have HW := Lib.hid hW
  have Hfit : Hid (fitsB (O ++ [(3, v)]) wUntil = true) := by show fitsB _ _ = true; simp [fitsB, topB, wIf, wWhile, wElse, wThen, wUntil, wAgain, wRepeat, wLoop, wPlus, wDo, wBegin]
  clear hW
  go_enter Try.func14, Try.ntmps14
  go_wp2_with fail
  refine (great_any s0 _ hs0).mono ?_
  rintro e w1 ⟨rfl, hb1⟩
  rw [HW.out]
  have H1 := H.below hb1 (Nat.le_refl _)
  go_wp2_with fail
  refine (fits_any B a _ _ _ _ H1 wUntil).mono ?_
  rintro e w2 ⟨rfl, hg2⟩
  rw [Hfit.out]
  have H2 := H1.grown hg2
  have T2 : Touch w w2 a.blocks := pre_touch hb1 hg2
  have HC := Lib.hid (backward_any B a M h O (3, v) w2 H2 4)
  have HT2 := Lib.hid T2
  clear H1 H2 T2 hb1 hg2
  unfold wUntil
  go_wp2_with fail
  refine HC.out.mono ?_
  rintro e w3 ⟨rfl, N⟩
  have HN := Lib.hid (did_pre HT2.out (⟨rfl, N⟩ : Did w2 B a _ _ w3))
  clear N
  go_wp2_with fail
  go_ret
  exact HN.out
set_option maxRecDepth 100000 in
theorem form_again (B : Nat) (a : At) (M : List Int) (h : Nat) (O : List (Int × Int)) (v : Int) (w : World) (H : WvIs w B a M h (O ++ [(3, v)])) (s0 : ByteArray) (hs0 : s0.size ≤ 100000) (hW : (⟨(ups s0).toArray⟩ : ByteArray) = wAgain) :
    Calls Try.prog 14 #[.pointer (some ⟨a.sb, 0, none⟩), .string s0] w (Did w B a (backwardR ⟨M, h, O ++ [(3, v)]⟩ O (3, v) 3)) := by
  have HW := Lib.hid hW
  have Hfit : Hid (fitsB (O ++ [(3, v)]) wAgain = true) := by show fitsB _ _ = true; simp [fitsB, topB, wIf, wWhile, wElse, wThen, wUntil, wAgain, wRepeat, wLoop, wPlus, wDo, wBegin]
  clear hW
  go_enter Try.func14, Try.ntmps14
  go_wp2_with fail
  refine (great_any s0 _ hs0).mono ?_
  rintro e w1 ⟨rfl, hb1⟩
  rw [HW.out]
  have H1 := H.below hb1 (Nat.le_refl _)
  go_wp2_with fail
  refine (fits_any B a _ _ _ _ H1 wAgain).mono ?_
  rintro e w2 ⟨rfl, hg2⟩
  rw [Hfit.out]
  have H2 := H1.grown hg2
  have T2 : Touch w w2 a.blocks := pre_touch hb1 hg2
  have HC := Lib.hid (backward_any B a M h O (3, v) w2 H2 3)
  have HT2 := Lib.hid T2
  clear H1 H2 T2 hb1 hg2
  unfold wAgain
  go_wp2_with fail
  refine HC.out.mono ?_
  rintro e w3 ⟨rfl, N⟩
  have HN := Lib.hid (did_pre HT2.out (⟨rfl, N⟩ : Did w2 B a _ _ w3))
  clear N
  go_wp2_with fail
  go_ret
  exact HN.out
set_option maxRecDepth 100000 in
theorem form_loop (B : Nat) (a : At) (M : List Int) (h : Nat) (O : List (Int × Int)) (v : Int) (w : World) (H : WvIs w B a M h (O ++ [(5, v)])) (s0 : ByteArray) (hs0 : s0.size ≤ 100000) (hW : (⟨(ups s0).toArray⟩ : ByteArray) = wLoop) :
    Calls Try.prog 14 #[.pointer (some ⟨a.sb, 0, none⟩), .string s0] w (Did w B a (backwardR ⟨M, h, O ++ [(5, v)]⟩ O (5, v) 37)) := by
  have HW := Lib.hid hW
  have Hfit : Hid (fitsB (O ++ [(5, v)]) wLoop = true) := by show fitsB _ _ = true; simp [fitsB, topB, wIf, wWhile, wElse, wThen, wUntil, wAgain, wRepeat, wLoop, wPlus, wDo, wBegin]
  clear hW
  go_enter Try.func14, Try.ntmps14
  go_wp2_with fail
  refine (great_any s0 _ hs0).mono ?_
  rintro e w1 ⟨rfl, hb1⟩
  rw [HW.out]
  have H1 := H.below hb1 (Nat.le_refl _)
  go_wp2_with fail
  refine (fits_any B a _ _ _ _ H1 wLoop).mono ?_
  rintro e w2 ⟨rfl, hg2⟩
  rw [Hfit.out]
  have H2 := H1.grown hg2
  have T2 : Touch w w2 a.blocks := pre_touch hb1 hg2
  have HC := Lib.hid (backward_any B a M h O (5, v) w2 H2 37)
  have HT2 := Lib.hid T2
  clear H1 H2 T2 hb1 hg2
  unfold wLoop
  go_wp2_with fail
  refine HC.out.mono ?_
  rintro e w3 ⟨rfl, N⟩
  have HN := Lib.hid (did_pre HT2.out (⟨rfl, N⟩ : Did w2 B a _ _ w3))
  clear N
  go_wp2_with fail
  go_ret
  exact HN.out
set_option maxRecDepth 100000 in
theorem form_plus (B : Nat) (a : At) (M : List Int) (h : Nat) (O : List (Int × Int)) (v : Int) (w : World) (H : WvIs w B a M h (O ++ [(5, v)])) (s0 : ByteArray) (hs0 : s0.size ≤ 100000) (hW : (⟨(ups s0).toArray⟩ : ByteArray) = wPlus) :
    Calls Try.prog 14 #[.pointer (some ⟨a.sb, 0, none⟩), .string s0] w (Did w B a (backwardR ⟨M, h, O ++ [(5, v)]⟩ O (5, v) 38)) := by
  have HW := Lib.hid hW
  have Hfit : Hid (fitsB (O ++ [(5, v)]) wPlus = true) := by show fitsB _ _ = true; simp [fitsB, topB, wIf, wWhile, wElse, wThen, wUntil, wAgain, wRepeat, wLoop, wPlus, wDo, wBegin]
  clear hW
  go_enter Try.func14, Try.ntmps14
  go_wp2_with fail
  refine (great_any s0 _ hs0).mono ?_
  rintro e w1 ⟨rfl, hb1⟩
  rw [HW.out]
  have H1 := H.below hb1 (Nat.le_refl _)
  go_wp2_with fail
  refine (fits_any B a _ _ _ _ H1 wPlus).mono ?_
  rintro e w2 ⟨rfl, hg2⟩
  rw [Hfit.out]
  have H2 := H1.grown hg2
  have T2 : Touch w w2 a.blocks := pre_touch hb1 hg2
  have HC := Lib.hid (backward_any B a M h O (5, v) w2 H2 38)
  have HT2 := Lib.hid T2
  clear H1 H2 T2 hb1 hg2
  unfold wPlus
  go_wp2_with fail
  refine HC.out.mono ?_
  rintro e w3 ⟨rfl, N⟩
  have HN := Lib.hid (did_pre HT2.out (⟨rfl, N⟩ : Did w2 B a _ _ w3))
  clear N
  go_wp2_with fail
  go_ret
  exact HN.out
set_option maxRecDepth 100000 in
theorem form_else (B : Nat) (a : At) (M : List Int) (h : Nat) (O : List (Int × Int)) (q : Nat) (w : World) (H : WvIs w B a M h (O ++ [(1, (q : Int))])) (hq : q < M.length) (s0 : ByteArray) (hs0 : s0.size ≤ 100000) (hW : (⟨(ups s0).toArray⟩ : ByteArray) = wElse) :
    Calls Try.prog 14 #[.pointer (some ⟨a.sb, 0, none⟩), .string s0] w (Did w B a (elseR ⟨M, h, O ++ [(1, (q : Int))]⟩ O q)) := by
  have HW := Lib.hid hW
  have Hfit : Hid (fitsB (O ++ [(1, (q : Int))]) wElse = true) := by show fitsB _ _ = true; simp [fitsB, topB, wIf, wWhile, wElse, wThen, wUntil, wAgain, wRepeat, wLoop, wPlus, wDo, wBegin]
  clear hW
  go_enter Try.func14, Try.ntmps14
  go_wp2_with fail
  refine (great_any s0 _ hs0).mono ?_
  rintro e w1 ⟨rfl, hb1⟩
  rw [HW.out]
  have H1 := H.below hb1 (Nat.le_refl _)
  go_wp2_with fail
  refine (fits_any B a _ _ _ _ H1 wElse).mono ?_
  rintro e w2 ⟨rfl, hg2⟩
  rw [Hfit.out]
  have H2 := H1.grown hg2
  have T2 : Touch w w2 a.blocks := pre_touch hb1 hg2
  have HC := Lib.hid (elseOf_any B a M h O 1 q w2 H2 hq)
  have HT2 := Lib.hid T2
  clear H1 H2 T2 hb1 hg2
  unfold wElse
  go_wp2_with fail
  refine HC.out.mono ?_
  rintro e w3 ⟨rfl, N⟩
  have HN := Lib.hid (did_pre HT2.out (⟨rfl, N⟩ : Did w2 B a _ _ w3))
  clear N
  go_wp2_with fail
  go_ret
  exact HN.out
set_option maxRecDepth 100000 in
theorem form_repeat (B : Nat) (a : At) (M : List Int) (h : Nat) (O : List (Int × Int)) (v : Int) (q : Nat) (w : World) (H : WvIs w B a M h (O ++ [(3, v)] ++ [(4, (q : Int))])) (hq : q < M.length) (s0 : ByteArray) (hs0 : s0.size ≤ 100000) (hW : (⟨(ups s0).toArray⟩ : ByteArray) = wRepeat) :
    Calls Try.prog 14 #[.pointer (some ⟨a.sb, 0, none⟩), .string s0] w (Did w B a (repeatR ⟨M, h, O ++ [(3, v)] ++ [(4, (q : Int))]⟩ O v q)) := by
  have HW := Lib.hid hW
  have Hfit : Hid (fitsB (O ++ [(3, v)] ++ [(4, (q : Int))]) wRepeat = true) := by show fitsB _ _ = true; simp [fitsB, topB, wIf, wWhile, wElse, wThen, wUntil, wAgain, wRepeat, wLoop, wPlus, wDo, wBegin]
  clear hW
  obtain ⟨r, hr0⟩ : ∃ r, repeatR ⟨M, h, O ++ [(3, v)] ++ [(4, (q : Int))]⟩ O v q = r := ⟨_, rfl⟩
  rw [hr0]
  have Hr0 := Lib.hid hr0
  clear hr0
  go_enter Try.func14, Try.ntmps14
  go_wp2_with fail
  refine (great_any s0 _ hs0).mono ?_
  rintro e w1 ⟨rfl, hb1⟩
  rw [HW.out]
  have H1 := H.below hb1 (Nat.le_refl _)
  go_wp2_with fail
  refine (fits_any B a _ _ _ _ H1 wRepeat).mono ?_
  rintro e w2 ⟨rfl, hg2⟩
  rw [Hfit.out]
  have H2 := H1.grown hg2
  have T2 : Touch w w2 a.blocks := pre_touch hb1 hg2
  have hC := repeat_any B a M h O 3 v 4 q w2 H2 hq
  rw [Hr0.out] at hC
  have HC := Lib.hid hC
  clear hC
  have HT2 := Lib.hid T2
  clear H1 H2 T2 hb1 hg2
  unfold wRepeat
  go_wp2_with fail
  refine HC.out.mono ?_
  rintro e w3 ⟨rfl, N⟩
  have HN := Lib.hid (did_pre HT2.out (⟨rfl, N⟩ : Did w2 B a _ _ w3))
  clear N
  go_wp2_with fail
  go_ret
  exact HN.out
set_option maxRecDepth 100000 in
theorem form_begin (B : Nat) (a : At) (s : St) (w : World) (H : WvIs w B a s.M s.h s.O) (hO : s.O.length < 5000) (s0 : ByteArray) (hs0 : s0.size ≤ 100000) (hW : (⟨(ups s0).toArray⟩ : ByteArray) = wBegin) :
    Calls Try.prog 14 #[.pointer (some ⟨a.sb, 0, none⟩), .string s0] w (Did w B a (0, ⟨s.M, s.h, s.O ++ [(3, (s.h : Int))]⟩)) := by
  have HW := Lib.hid hW
  have Hfit : Hid (fitsB s.O wBegin = true) := by show fitsB _ _ = true; simp [fitsB, wWhile, wElse, wThen, wUntil, wAgain, wRepeat, wLoop, wPlus, wBegin]
  clear hW
  go_enter Try.func14, Try.ntmps14
  go_wp2_with fail
  refine (great_any s0 _ hs0).mono ?_
  rintro e w1 ⟨rfl, hb1⟩
  rw [HW.out]
  have H1 := H.below hb1 (Nat.le_refl _)
  go_wp2_with fail
  refine (fits_any B a _ _ _ _ H1 wBegin).mono ?_
  rintro e w2 ⟨rfl, hg2⟩
  rw [Hfit.out]
  have H2 := H1.grown hg2
  have T2 : Touch w w2 a.blocks := pre_touch hb1 hg2
  have c1 := H2.c1
  have HC := Lib.hid (push_any B a s w2 H2 3 (s.h : Int) hO)
  have HT2 := Lib.hid T2
  clear H1 H2 T2 hb1 hg2
  unfold wBegin
  go_wp2_with fail
  refine HC.out.mono ?_
  rintro e w3 ⟨rfl, N⟩
  have HN := Lib.hid (did_pre HT2.out (⟨rfl, N⟩ : Did w2 B a (0, ⟨s.M, s.h, s.O ++ [(3, (s.h : Int))]⟩) _ w3))
  clear N
  go_wp2_with fail
  go_ret
  exact HN.out
set_option maxHeartbeats 1000000 in
set_option maxRecDepth 100000 in
theorem form_then (B : Nat) (a : At) (M : List Int) (h : Nat) (O : List (Int × Int)) (k : Int) (q : Nat) (hk : k = 1 ∨ k = 2) (w : World) (H : WvIs w B a M h (O ++ [(k, (q : Int))])) (hq : q < M.length)
    (s0 : ByteArray) (hs0 : s0.size ≤ 100000) (hW : (⟨(ups s0).toArray⟩ : ByteArray) = wThen) :
    Calls Try.prog 14 #[.pointer (some ⟨a.sb, 0, none⟩), .string s0] w (Did w B a (0, ⟨M.set q (h : Int), h, O⟩)) := by
  have HW := Lib.hid hW
  have Hfit : Hid (fitsB (O ++ [(k, (q : Int))]) wThen = true) := by
    show fitsB _ _ = true
    rcases hk with rfl | rfl <;> simp [fitsB, topB, wElse, wThen]
  have hs := H.small
  obtain ⟨g, hA⟩ := mem_addr H (by omega)
  clear hW hk
  go_enter Try.func14, Try.ntmps14
  go_wp2_with fail
  refine (great_any s0 _ hs0).mono ?_
  rintro e w1 ⟨rfl, hb1⟩
  rw [HW.out]
  have H1 := H.below hb1 (Nat.le_refl _)
  go_wp2_with fail
  refine (fits_any B a _ _ _ _ H1 wThen).mono ?_
  rintro e w2 ⟨rfl, hg2⟩
  rw [Hfit.out]
  have H2 := H1.grown hg2
  have T2 : Touch w w2 a.blocks := pre_touch hb1 hg2
  have c0 := H2.c0
  rw [hA] at c0
  have c1 := H2.c1
  have HPop := Lib.hid (pop_keep B a M h O (k, (q : Int)) w2.drew (H2.drewN 1) g hA q hq)
  have HT := Lib.hid T2
  clear H1 H2 T2 hb1 hg2
  have hq2 : (q : Int) < (M.length : Int) := by omega
  have hq3 : (0 : Int) ≤ (q : Int) := by omega
  unfold wThen
  go_upto_region 14 with fail
  go_cut [] (fun wc => WvIs wc B a (M.set q (h : Int)) h O ∧ Touch w wc a.blocks)
  case first =>
    go_region_with ((go_at_call 36; refine HPop.out.mono ?_; rintro e w3 ⟨rfl, d0, d1, dq, fq, HH⟩))
    all_goals
      go_wp2_with fail
      go_meet
      have SD := set_done HH.out.1 hA q (h : Int)
      exact ⟨SD.1, (HT.out.trans (HH.out.2.drewN' 1) (fun _ h => Or.inl h)).trans SD.2 (fun _ h => Or.inl h)⟩
  case rest =>
    obtain ⟨H3, T3⟩ := hcut
    have HN : Hid (Did w B a (0, ⟨M.set q (h : Int), h, O⟩) (.returned (.int .i64 0)) wc) := ⟨rfl, Next.same H3 T3⟩
    clear H3 T3
    go_wp2_with fail
    go_ret
    exact HN.out
theorem form_unfit (B : Nat) (a : At) (s : St) (w : World) (H : WvIs w B a s.M s.h s.O) (s0 : ByteArray) (hs0 : s0.size ≤ 100000) (hf : fitsB s.O ⟨(ups s0).toArray⟩ = false) :
    Calls Try.prog 14 #[.pointer (some ⟨a.sb, 0, none⟩), .string s0] w (Did w B a (-22, s)) := by
  have Hfit := Lib.hid hf
  clear hf
  go_enter Try.func14, Try.ntmps14
  go_wp2_with fail
  refine (great_any s0 _ hs0).mono ?_
  rintro e w1 ⟨rfl, hb1⟩
  have H1 := H.below hb1 (Nat.le_refl _)
  generalize (⟨(ups s0).toArray⟩ : ByteArray) = W at *
  go_wp2_with fail
  refine (fits_any B a _ _ _ _ H1 W).mono ?_
  rintro e w2 ⟨rfl, hg2⟩
  rw [Hfit.out]
  have H2 := H1.grown hg2
  have T2 : Touch w w2 a.blocks := pre_touch hb1 hg2
  have HN : Hid (Did w B a (-22, s) (.returned (.int .i64 (-22))) w2) := ⟨rfl, Next.same H2 T2⟩
  clear H1 H2 T2 hb1 hg2
  go_wp2_with fail
  go_ret
  exact HN.out
set_option maxRecDepth 100000 in
theorem form_other (B : Nat) (a : At) (s : St) (w : World) (H : WvIs w B a s.M s.h s.O) (s0 : ByteArray) (hs0 : s0.size ≤ 100000) (W : ByteArray) (hW : (⟨(ups s0).toArray⟩ : ByteArray) = W) (h1 : W ≠ wElse) (h2 : W ≠ wThen) (h3 : W ≠ wUntil) (h4 : W ≠ wAgain) (h5 : W ≠ wWhile) (h6 : W ≠ wRepeat) (h7 : W ≠ wLoop) (h8 : W ≠ wPlus)
    (h9 : W ≠ wIf) (h10 : W ≠ wBegin) (h11 : W ≠ wDo) :
    Calls Try.prog 14 #[.pointer (some ⟨a.sb, 0, none⟩), .string s0] w (Did w B a (-13, s)) := by
  have HW := Lib.hid hW
  have Hfit : Hid (fitsB s.O W = true) := by show fitsB _ _ = true; simp [fitsB, h1, h2, h3, h4, h5, h6, h7, h8]
  have e1 : (W.toList == [69, 76, 83, 69]) = false := ne_lit h1
  have e2 : (W.toList == [84, 72, 69, 78]) = false := ne_lit h2
  have e3 : (W.toList == [85, 78, 84, 73, 76]) = false := ne_lit h3
  have e4 : (W.toList == [65, 71, 65, 73, 78]) = false := ne_lit h4
  have e5 : (W.toList == [87, 72, 73, 76, 69]) = false := ne_lit h5
  have e6 : (W.toList == [82, 69, 80, 69, 65, 84]) = false := ne_lit h6
  have e7 : (W.toList == [76, 79, 79, 80]) = false := ne_lit h7
  have e8 : (W.toList == [43, 76, 79, 79, 80]) = false := ne_lit h8
  have e9 : (W.toList == [73, 70]) = false := ne_lit h9
  have e10 : (W.toList == [66, 69, 71, 73, 78]) = false := ne_lit h10
  have e11 : (W.toList == [68, 79]) = false := ne_lit h11
  clear hW h1 h2 h3 h4 h5 h6 h7 h8 h9 h10 h11
  go_enter Try.func14, Try.ntmps14
  go_wp2_with fail
  refine (great_any s0 _ hs0).mono ?_
  rintro e w1 ⟨rfl, hb1⟩
  rw [HW.out]
  have H1 := H.below hb1 (Nat.le_refl _)
  go_wp2_with fail
  refine (fits_any B a _ _ _ _ H1 W).mono ?_
  rintro e w2 ⟨rfl, hg2⟩
  rw [Hfit.out]
  have H2 := H1.grown hg2
  have T2 : Touch w w2 a.blocks := pre_touch hb1 hg2
  have HN : Hid (Did w B a (-13, s) (.returned (.int .i64 (-13))) w2) := ⟨rfl, Next.same H2 T2⟩
  clear H1 H2 T2 hb1 hg2
  go_wp2_with fail
  go_ret
  exact HN.out
end Go.Proofs.Ytndjbjhgkggeiaa.Wv
