/-
  Chapter 14 (ir): the first call, whose answer the document fixes.
-/
import Derived.Test.YtoaidcjjjoafjaaGreatDoorIrG
import Derived.Test.YtoaidcjjjoafjaaGreatDoorIrT
set_option linter.unusedVariables false
set_option linter.unusedSimpArgs false
set_option linter.unnecessarySimpa false
set_option linter.deprecated false
namespace Go.Proofs.YtoaidcjjjoafjaaGreatDoor.Ir
open Go.RowKit

def T0 : Tr := ⟨5, 0, 0, 1, 0, 1, fun _ => ⟨1, 5, 0, 0, 0⟩, 1, fun _ => ⟨5, 1, 1, fun _ => 0, 0, fun _ => 0⟩, 0, 0, fun _ => 0⟩
theorem t0_right : Right T0 := by
  have hp : Place T0 0 1 := ⟨by decide, by decide, by decide⟩
  refine ⟨?_, fun i hi => absurd (show i < 0 from hi) (by omega), ⟨by decide, by decide, fun i hi => hp, fun i hi => absurd (show i < 0 from hi) (by omega)⟩, by decide, fun k hk => ?_, fun k hk => ⟨?_, ?_, ?_⟩⟩
  · unfold Head Btw T0
    dsimp only
    omega
  · unfold OutOk Btw T0
    dsimp only
    omega
  · unfold Single Btw T0
    simp
  · intro p hp
    exact absurd (show p ∈ ([] : List Int) from hp) (by simp)
  · intro p hp
    exact absurd (show p ∈ ([] : List Int) from hp) (by simp)
def smallT (n : Int) : ByteArray := ⟨(Lib.decDigits n.toNat).toArray⟩
theorem small0 : smallT 0 = ⟨#[48]⟩ := by unfold smallT; rw [Lib.decDigits_one (by decide)]; rfl
theorem small5 : smallT 5 = ⟨#[53]⟩ := by unfold smallT; rw [Lib.decDigits_one (by decide)]; rfl
theorem text0 : textV ⟨1, 5, 0, 0, 0⟩ smallT = ⟨#[99, 111, 110, 115, 116, 32, 53, 32, 48, 32, 48, 32, 48]⟩ := by
  unfold textV
  dsimp only
  rw [small0, small5]
  rfl
theorem itoa0 (w : World) : ∀ n ∈ argL ⟨1, 5, 0, 0, 0⟩, ∀ W, Below w.heap.size w W → Calls Tryz.prog 47 #[.int .i64 n] W fun e w' => e = .returned (.string (smallT n)) ∧ Below W.heap.size W w' := by
  intro n hn W _
  have h : n = 5 ∨ n = 0 := by simp [argL] at hn; omega
  rcases h with rfl | rfl
  · exact (Tryz.strconv_Itoa_small 5 (by omega) W).mono fun e w' ⟨he, hw⟩ => ⟨he, hw ▸ Below.refl _ _⟩
  · exact (Tryz.strconv_Itoa_small 0 (by omega) W).mono fun e w' ⟨he, hw⟩ => ⟨he, hw ▸ Below.refl _ _⟩
theorem size0 : ∀ n ∈ argL ⟨1, 5, 0, 0, 0⟩, (smallT n).size ≤ 20 := by
  intro n hn
  have h : n = 5 ∨ n = 0 := by simp [argL] at hn; omega
  rcases h with rfl | rfl
  · rw [small5]; decide
  · rw [small0]; decide

theorem t0_at (w : World) : TrAt ((((w.alloc (.cells #[.int .i64 1, .int .i64 5, .int .i64 0, .int .i64 0, .int .i64 0] 42)).alloc (.cells #[.int .i64 0] 3)).alloc (.cells #[.int .i64 5, .int .i64 1, .slice (some ⟨w.heap.size + 1, 0, none⟩) 1 1, .slice none 0 0] 50)).alloc (.cells #[.int .i64 5, .int .i64 0, .int .i64 0, .int .i64 1, .int .i64 0, .slice (some ⟨w.heap.size, 0, none⟩) 1 1, .slice (some ⟨w.heap.size + 1 + 1, 0, none⟩) 1 1, .int .i64 0, .slice none 0 0] 26)) (w.heap.size + 4) T0 (some ⟨w.heap.size, 0, none⟩) (some ⟨w.heap.size + 1 + 1, 0, none⟩) none ∧ Blk ((((w.alloc (.cells #[.int .i64 1, .int .i64 5, .int .i64 0, .int .i64 0, .int .i64 0] 42)).alloc (.cells #[.int .i64 0] 3)).alloc (.cells #[.int .i64 5, .int .i64 1, .slice (some ⟨w.heap.size + 1, 0, none⟩) 1 1, .slice none 0 0] 50)).alloc (.cells #[.int .i64 5, .int .i64 0, .int .i64 0, .int .i64 1, .int .i64 0, .slice (some ⟨w.heap.size, 0, none⟩) 1 1, .slice (some ⟨w.heap.size + 1 + 1, 0, none⟩) 1 1, .int .i64 0, .slice none 0 0] 26)) (w.heap.size + 1 + 1 + 1) 26 #[.int .i64 5, .int .i64 0, .int .i64 0, .int .i64 1, .int .i64 0, .slice (some ⟨w.heap.size, 0, none⟩) 1 1, .slice (some ⟨w.heap.size + 1 + 1, 0, none⟩) 1 1, .int .i64 0, .slice none 0 0] ∧
    Blk ((((w.alloc (.cells #[.int .i64 1, .int .i64 5, .int .i64 0, .int .i64 0, .int .i64 0] 42)).alloc (.cells #[.int .i64 0] 3)).alloc (.cells #[.int .i64 5, .int .i64 1, .slice (some ⟨w.heap.size + 1, 0, none⟩) 1 1, .slice none 0 0] 50)).alloc (.cells #[.int .i64 5, .int .i64 0, .int .i64 0, .int .i64 1, .int .i64 0, .slice (some ⟨w.heap.size, 0, none⟩) 1 1, .slice (some ⟨w.heap.size + 1 + 1, 0, none⟩) 1 1, .int .i64 0, .slice none 0 0] 26)) w.heap.size 42 #[.int .i64 1, .int .i64 5, .int .i64 0, .int .i64 0, .int .i64 0] ∧ Below w.heap.size w ((((w.alloc (.cells #[.int .i64 1, .int .i64 5, .int .i64 0, .int .i64 0, .int .i64 0] 42)).alloc (.cells #[.int .i64 0] 3)).alloc (.cells #[.int .i64 5, .int .i64 1, .slice (some ⟨w.heap.size + 1, 0, none⟩) 1 1, .slice none 0 0] 50)).alloc (.cells #[.int .i64 5, .int .i64 0, .int .i64 0, .int .i64 1, .int .i64 0, .slice (some ⟨w.heap.size, 0, none⟩) 1 1, .slice (some ⟨w.heap.size + 1 + 1, 0, none⟩) 1 1, .int .i64 0, .slice none 0 0] 26)) ∧ ((((w.alloc (.cells #[.int .i64 1, .int .i64 5, .int .i64 0, .int .i64 0, .int .i64 0] 42)).alloc (.cells #[.int .i64 0] 3)).alloc (.cells #[.int .i64 5, .int .i64 1, .slice (some ⟨w.heap.size + 1, 0, none⟩) 1 1, .slice none 0 0] 50)).alloc (.cells #[.int .i64 5, .int .i64 0, .int .i64 0, .int .i64 1, .int .i64 0, .slice (some ⟨w.heap.size, 0, none⟩) 1 1, .slice (some ⟨w.heap.size + 1 + 1, 0, none⟩) 1 1, .int .i64 0, .slice none 0 0] 26)).heap.size = w.heap.size + 4 := by
  have e1 : Below w.heap.size w (w.alloc (.cells #[.int .i64 1, .int .i64 5, .int .i64 0, .int .i64 0, .int .i64 0] 42)) := (Below.refl _ _).alloc (Nat.le_refl _) _
  have b1 : Blk (w.alloc (.cells #[.int .i64 1, .int .i64 5, .int .i64 0, .int .i64 0, .int .i64 0] 42)) w.heap.size 42 #[.int .i64 1, .int .i64 5, .int .i64 0, .int .i64 0, .int .i64 0] := Blk.new _ _ _
  have l1 : (w.alloc (.cells #[.int .i64 1, .int .i64 5, .int .i64 0, .int .i64 0, .int .i64 0] 42)).heap.size = w.heap.size + 1 := by simp
  obtain ⟨w1, hw1⟩ : ∃ x, x = w.alloc (.cells #[.int .i64 1, .int .i64 5, .int .i64 0, .int .i64 0, .int .i64 0] 42) := ⟨_, rfl⟩
  rw [← hw1] at e1 b1 l1 ⊢
  clear hw1
  have e2 : Below w1.heap.size w1 (w1.alloc (.cells #[.int .i64 0] 3)) := (Below.refl _ _).alloc (Nat.le_refl _) _
  have b2 : Blk (w1.alloc (.cells #[.int .i64 0] 3)) w1.heap.size 3 #[.int .i64 0] := Blk.new _ _ _
  have l2 : (w1.alloc (.cells #[.int .i64 0] 3)).heap.size = w1.heap.size + 1 := by simp
  obtain ⟨w2, hw2⟩ : ∃ x, x = w1.alloc (.cells #[.int .i64 0] 3) := ⟨_, rfl⟩
  rw [← hw2] at e2 b2 l2 ⊢
  rw [l1] at b2 l2
  have b1 := b1.below e2 b1.lt
  clear hw2
  have e3 : Below w2.heap.size w2 (w2.alloc (.cells #[.int .i64 5, .int .i64 1, .slice (some ⟨w.heap.size + 1, 0, none⟩) 1 1, .slice none 0 0] 50)) := (Below.refl _ _).alloc (Nat.le_refl _) _
  have b3 : Blk (w2.alloc (.cells #[.int .i64 5, .int .i64 1, .slice (some ⟨w.heap.size + 1, 0, none⟩) 1 1, .slice none 0 0] 50)) w2.heap.size 50 #[.int .i64 5, .int .i64 1, .slice (some ⟨w.heap.size + 1, 0, none⟩) 1 1, .slice none 0 0] := Blk.new _ _ _
  have l3 : (w2.alloc (.cells #[.int .i64 5, .int .i64 1, .slice (some ⟨w.heap.size + 1, 0, none⟩) 1 1, .slice none 0 0] 50)).heap.size = w2.heap.size + 1 := by simp
  obtain ⟨w3, hw3⟩ : ∃ x, x = w2.alloc (.cells #[.int .i64 5, .int .i64 1, .slice (some ⟨w.heap.size + 1, 0, none⟩) 1 1, .slice none 0 0] 50) := ⟨_, rfl⟩
  rw [← hw3] at e3 b3 l3 ⊢
  rw [l2] at b3 l3
  have b1 := b1.below e3 b1.lt
  have b2 := b2.below e3 b2.lt
  clear hw3
  have e4 : Below w3.heap.size w3 (w3.alloc (.cells #[.int .i64 5, .int .i64 0, .int .i64 0, .int .i64 1, .int .i64 0, .slice (some ⟨w.heap.size, 0, none⟩) 1 1, .slice (some ⟨w.heap.size + 1 + 1, 0, none⟩) 1 1, .int .i64 0, .slice none 0 0] 26)) := (Below.refl _ _).alloc (Nat.le_refl _) _
  have b4 : Blk (w3.alloc (.cells #[.int .i64 5, .int .i64 0, .int .i64 0, .int .i64 1, .int .i64 0, .slice (some ⟨w.heap.size, 0, none⟩) 1 1, .slice (some ⟨w.heap.size + 1 + 1, 0, none⟩) 1 1, .int .i64 0, .slice none 0 0] 26)) w3.heap.size 26 #[.int .i64 5, .int .i64 0, .int .i64 0, .int .i64 1, .int .i64 0, .slice (some ⟨w.heap.size, 0, none⟩) 1 1, .slice (some ⟨w.heap.size + 1 + 1, 0, none⟩) 1 1, .int .i64 0, .slice none 0 0] := Blk.new _ _ _
  have l4 : (w3.alloc (.cells #[.int .i64 5, .int .i64 0, .int .i64 0, .int .i64 1, .int .i64 0, .slice (some ⟨w.heap.size, 0, none⟩) 1 1, .slice (some ⟨w.heap.size + 1 + 1, 0, none⟩) 1 1, .int .i64 0, .slice none 0 0] 26)).heap.size = w3.heap.size + 1 := by simp
  obtain ⟨w4, hw4⟩ : ∃ x, x = w3.alloc (.cells #[.int .i64 5, .int .i64 0, .int .i64 0, .int .i64 1, .int .i64 0, .slice (some ⟨w.heap.size, 0, none⟩) 1 1, .slice (some ⟨w.heap.size + 1 + 1, 0, none⟩) 1 1, .int .i64 0, .slice none 0 0] 26) := ⟨_, rfl⟩
  rw [← hw4] at e4 b4 l4 ⊢
  rw [l3] at b4 l4
  have b1 := b1.below e4 b1.lt
  have b2 := b2.below e4 b2.lt
  have b3 := b3.below e4 b3.lt
  clear hw4
  have B4 : Below w.heap.size w w4 := e1.trans ((e2.mono e1.size).trans ((e3.mono (Nat.le_trans e1.size e2.size)).trans (e4.mono (Nat.le_trans e1.size (Nat.le_trans e2.size e3.size)))))
  refine ⟨⟨.inr ⟨_, 0, rfl, by omega, fun i hi => ?_⟩, .inr ⟨_, 0, rfl, by omega, fun i hi => ?_⟩, .inl rfl, by decide, by decide, by decide⟩, b4, b1, B4, by omega⟩
  · obtain rfl : i = 0 := by have : i < 1 := hi; omega
    exact ⟨b1.cell 0, b1.cell 1, b1.cell 2, b1.cell 3, b1.cell 4⟩
  · obtain rfl : i = 0 := by have : i < 1 := hi; omega
    refine ⟨_, _, _, _, ⟨rfl, rfl, ⟨some ⟨w.heap.size + 1, 0, none⟩, 1, rfl, .inr ⟨_, 0, rfl, by omega, fun k hk => ?_⟩⟩, ⟨none, 0, rfl, .inl rfl⟩, by decide, by decide⟩, b3.cell 0, b3.cell 1, b3.cell 2, b3.cell 3⟩
    obtain rfl : k = 0 := by have : k < 1 := hk; omega
    exact b2.cell 0

set_option maxHeartbeats 4000000 in
set_option maxRecDepth 100000 in
theorem alive_any (w : World) : Calls Tryz.prog 5 #[] w fun e w' => e = .returned (.bool true) ∧ Below w.heap.size w w' := by
  go_enter Tryz.func5, Tryz.ntmps5
  go_upto_region 2 with fail
  obtain ⟨hT, hb, hi, hbel, hsz⟩ := t0_at w
  have HT := Lib.hid hT
  have HB := Lib.hid hbel
  have HSz := Lib.hid hsz
  have p0 := hb.cell 0
  have kb := Lib.hid hb
  have ki := Lib.hid hi
  clear hT hb hi hbel hsz p0
  generalize ((((w.alloc (.cells #[.int .i64 1, .int .i64 5, .int .i64 0, .int .i64 0, .int .i64 0] 42)).alloc (.cells #[.int .i64 0] 3)).alloc (.cells #[.int .i64 5, .int .i64 1, .slice (some ⟨w.heap.size + 1, 0, none⟩) 1 1, .slice none 0 0] 50)).alloc (.cells #[.int .i64 5, .int .i64 0, .int .i64 0, .int .i64 1, .int .i64 0, .slice (some ⟨w.heap.size, 0, none⟩) 1 1, .slice (some ⟨w.heap.size + 1 + 1, 0, none⟩) 1 1, .int .i64 0, .slice none 0 0] 26)) = wD at *
  have p5 : wD.cell? ⟨w.heap.size + 1 + 1 + 1, 5, none⟩ = some (.slice (some ⟨w.heap.size, 0, none⟩) 1 1) := kb.out.cell 5
  have i0 : wD.cell? ⟨w.heap.size, 0, none⟩ = some (.int .i64 1) := ki.out.cell 0
  have i1 : wD.cell? ⟨w.heap.size, 1, none⟩ = some (.int .i64 5) := ki.out.cell 1
  have i2 : wD.cell? ⟨w.heap.size, 2, none⟩ = some (.int .i64 0) := ki.out.cell 2
  have i3 : wD.cell? ⟨w.heap.size, 3, none⟩ = some (.int .i64 0) := ki.out.cell 3
  have i4 : wD.cell? ⟨w.heap.size, 4, none⟩ = some (.int .i64 0) := ki.out.cell 4
  have hx := text_any ⟨1, 5, 0, 0, 0⟩ smallT wD size0 (itoa0 wD)
  rw [text0] at hx
  have HX := Lib.hid hx
  clear hx
  go_wp2_with fail
  refine HX.out.mono ?_
  rintro e w2 ⟨rfl, hb2⟩
  have HB2 := Lib.hid hb2
  have K2 := Lib.hid (kb.out.below hb2 kb.out.lt)
  have T2 := Lib.hid (HT.out.below (hb2.mono (Nat.le_of_eq HSz.out.symm)))
  clear hb2 p5 i0 i1 i2 i3 i4 HX
  have k0 : w2.cell? ⟨w.heap.size + 1 + 1 + 1, 0, none⟩ = some (.int .i64 5) := K2.out.cell 0
  have k1 : w2.cell? ⟨w.heap.size + 1 + 1 + 1, 1, none⟩ = some (.int .i64 0) := K2.out.cell 1
  have k2 : w2.cell? ⟨w.heap.size + 1 + 1 + 1, 2, none⟩ = some (.int .i64 0) := K2.out.cell 2
  have k3 : w2.cell? ⟨w.heap.size + 1 + 1 + 1, 3, none⟩ = some (.int .i64 1) := K2.out.cell 3
  have k4 : w2.cell? ⟨w.heap.size + 1 + 1 + 1, 4, none⟩ = some (.int .i64 0) := K2.out.cell 4
  have k5 : w2.cell? ⟨w.heap.size + 1 + 1 + 1, 5, none⟩ = some (.slice (some ⟨w.heap.size, 0, none⟩) 1 1) := K2.out.cell 5
  have k6 : w2.cell? ⟨w.heap.size + 1 + 1 + 1, 6, none⟩ = some (.slice (some ⟨w.heap.size + 1 + 1, 0, none⟩) 1 1) := K2.out.cell 6
  have k7 : w2.cell? ⟨w.heap.size + 1 + 1 + 1, 7, none⟩ = some (.int .i64 0) := K2.out.cell 7
  have k8 : w2.cell? ⟨w.heap.size + 1 + 1 + 1, 8, none⟩ = some (.slice none 0 0) := K2.out.cell 8
  have HR := Lib.hid (right_any T0 _ _ _ 1 1 0 (w.heap.size + 4) true w2 T2.out (by have := HB2.out.size; have := HSz.out; omega) (by simp [t0_right]))
  go_wp2_with fail
  refine HR.out.mono ?_
  rintro e w3 ⟨rfl, hb3⟩
  have HB3 : Hid (Below w.heap.size w w3) := HB.out.trans ((HB2.out.trans (hb3.mono HB2.out.size)).mono HB.out.size)
  clear hb3 k0 k1 k2 k3 k4 k5 k6 k7 k8 HR
  go_wp2_with fail
  refine (gives_any 5 _).mono ?_
  rintro e w' ⟨rfl, rfl⟩
  rw [show gives 5 = true from rfl]
  go_wp2_with fail
  refine (gives_any 6 _).mono ?_
  rintro e w' ⟨rfl, rfl⟩
  rw [show gives 6 = false from rfl]
  go_wp2_with fail
  go_ret
  exact ⟨rfl, HB3.out⟩
end Go.Proofs.YtoaidcjjjoafjaaGreatDoor.Ir
