/-
  Chapter 8 (source): the first calls (alive), and the walk of SourcePlays.
-/
import Derived.Test.YtfoogcdpllkeoaaSrcC
import Derived.KernelRfl
import Derived.ProofKit
import Derived.OpenShut
namespace Go.Proofs.Ytfoogcdpllkeoaa.Src
open Go.RowKit

def tryText : ByteArray := ⟨#[40, 32, 97, 41, 32, 98]⟩

theorem alive_any (w : World) : Calls Try.prog 20 #[] w fun e w' => e = .returned (.bool true) ∧ Below w.heap.size w w' := by
  have x0 : tryText.extract (from_ tryText.data.toList 0) (to_ tryText.data.toList 0) = ⟨#[40]⟩ := by decide
  have y0 : decide (from_ tryText.data.toList 0 < tryText.size) = true := by decide
  have z0 : next_ tryText.data.toList 0 = 2 := by decide
  have x1 : findB (41 : Int).toNat.toUInt8 tryText.data.toList 2 = 3 := by decide
  have y1 : tryText.extract 2 3 = ⟨#[97]⟩ := by decide
  have x2 : tryText.extract (from_ tryText.data.toList 4) (to_ tryText.data.toList 4) = ⟨#[98]⟩ := by decide
  have y2 : decide (from_ tryText.data.toList 4 < tryText.size) = true := by decide
  have z2 : next_ tryText.data.toList 4 = 6 := by decide
  have x3 : tryText.extract 6 tryText.size = ByteArray.empty := by decide
  have hs : tryText.size ≤ 100000 := by decide
  have hlt : (3 : Nat) < tryText.size := by decide
  have HH := Lib.hid (And.intro x0 (And.intro y0 (And.intro z0 (And.intro x1 (And.intro y1 (And.intro x2 (And.intro y2 (And.intro z2 (And.intro x3 (And.intro hs hlt))))))))))
  clear x0 y0 z0 x1 y1 x2 y2 z2 x3 hs hlt
  go_enter Try.func20, Try.ntmps20
  go_wp2_with fail
  refine (new_any tryText HH.out.2.2.2.2.2.2.2.2.2.1 _).mono ?_
  rintro e w1 ⟨rfl, h1, hb1, hz1⟩
  go_wp2_with fail
  refine (word_any _ 0 tryText _ h1).mono ?_
  rintro e w2 ⟨rfl, h2, hg2⟩
  rw [HH.out.1, HH.out.2.1]
  rw [HH.out.2.2.1] at h2
  go_wp2_with fail
  refine (until_yes _ 2 41 tryText _ h2 (by rw [HH.out.2.2.2.1]; exact HH.out.2.2.2.2.2.2.2.2.2.2)).mono ?_
  rintro e w3 ⟨rfl, h3, hg3⟩
  rw [HH.out.2.2.2.1, HH.out.2.2.2.2.1]
  rw [HH.out.2.2.2.1] at h3
  go_wp2_with fail
  refine (word_any _ 4 tryText _ h3).mono ?_
  rintro e w4 ⟨rfl, h4, hg4⟩
  rw [HH.out.2.2.2.2.2.1, HH.out.2.2.2.2.2.2.1]
  rw [HH.out.2.2.2.2.2.2.2.1] at h4
  go_wp2_with fail
  refine (left_any _ 6 tryText _ h4).mono ?_
  rintro e w5 ⟨rfl, m, rfl⟩
  rw [HH.out.2.2.2.2.2.2.2.2.1]
  go_wp2_with fail
  go_ret
  exact ⟨rfl, below_drewN ((((hb1.grown hg2 (by omega) (fun j e => by cases e; omega)).grown hg3 (by have := hg2.size; omega) (fun j e => by cases e; omega))).grown hg4 (by have h5 := hg2.size; have h6 := hg3.size; omega) (fun j e => by cases e; omega)) _⟩

theorem wrap_u8 {z : Int} (h0 : 0 ≤ z) (h1 : z ≤ 255) : IntKind.u8.wrap z = z := by
  simp [IntKind.wrap, IntKind.bits, IntKind.signed]
  omega

/-- A slice of numbers that came in. -/
def IntsAt (w : World) (A : Option Addr) (len : Nat) (zs : Nat → Int) : Prop :=
  len = 0 ∨ ∃ b off, A = some ⟨b, off, none⟩ ∧ b < w.heap.size ∧ ∀ i, i < len → w.cell? ⟨b, off + i, none⟩ = some (.int .i64 (zs i))

set_option maxRecDepth 100000 in
set_option maxHeartbeats 2000000 in
theorem plays_walk (t : ByteArray) (A : Option Addr) (len cap : Nat) (zs : Nat → Int) (w : World) (ht : t.size ≤ 1000) (hlen : len ≤ 100) (hl : IntsAt w A len zs) :
    Calls Try.prog 8 #[.string t, .slice A len cap] w fun e w' => e = .returned (.bool true) ∧ Below w.heap.size w w' := by
  go_enter Try.func8, Try.ntmps8
  go_wp2_with fail
  refine (alive_any _).mono ?_
  rintro e w1 ⟨rfl, hb1⟩
  go_wp2_with fail
  refine (new_any t (by omega) _).mono ?_
  rintro e w2 ⟨rfl, h2, hb2, hz2⟩
  have hz := hb1.size
  go_wp2_with fail
  have Hb := Lib.hid (hb1.trans (hb2.mono hz))
  clear hb1 hb2
  generalize w1.heap.size = sb at *
  go_loopg [6, 7] len (fun g va vi wr => ∃ i k : Nat, g = len - i ∧ vi = .int .i64 i ∧ va = .int .i64 k ∧ i ≤ len ∧ SrcIs wr sb t k ∧ Hid (Below w.heap.size w wr))
  case atStart => exact ⟨0, 0, rfl, rfl, rfl, by omega, h2, Hb⟩
  case round =>
    obtain ⟨i, k, hg, rfl, rfl, hi, hs, hb⟩ := hrel
    have Hg := Lib.hid hg
    clear hg
    by_cases hlt : i < len
    · rcases hl with h0 | ⟨b, off, rfl, hbl, hcells⟩
      · omega
      have k0 : wr.cell? ⟨b, off + i, none⟩ = some (.int .i64 (zs i)) := (hb.out.cell (p := ⟨b, off + i, none⟩) hbl).trans (hcells i hlt)
      clear hcells
      generalize zs i = z at *
      by_cases hz : z < 0 ∨ 255 < z
      · by_cases hz0 : z < 0
        all_goals
          first
            | (have hz1 : 255 < z := by omega)
            | skip
          clear hz
          go_wp2_with fail
          refine (word_any _ k t _ hs).mono ?_
          rintro e w4 ⟨rfl, hs4, hg4⟩
          go_wp2_with fail
          refine (next_any k t _ hs.2.1 hs.2.2).mono ?_
          rintro e w5 ⟨rfl, rfl⟩
          have hb4 : Hid (Below w.heap.size w w4) := hb.out.grown hg4 hb.out.size (fun j e => by cases e; omega)
          have hk4 : ((next_ t.data.toList k) : Int) ≤ (t.size : Int) := by have := hs4.2.1; omega
          have Q1 : ∀ m, Calls Try.prog 27 #[.pointer (some ⟨sb, 0, none⟩)] (w4.drewN m) fun e w'' => e = .returned (.int .i64 ((next_ t.data.toList k) : Nat)) ∧ ∃ m, w'' = w4.drewN m := fun m => quiet_same (at_any sb _ t _ (hs4.drewN m))
          have Q2 : ∀ m, Calls Try.prog 23 #[.pointer (some ⟨sb, 0, none⟩)] (w4.drewN m) fun e w'' => e = .returned (.string (t.extract (next_ t.data.toList k) t.size)) ∧ ∃ m, w'' = w4.drewN m := fun m => Calls.quiet_of (left_any sb _ t _ (hs4.drewN m))
          have HQ1 := Lib.hid Q1
          have HQ2 := Lib.hid Q2
          clear Q1 Q2
          go_wp2_with fail
          go_quiet ((first | (go_at_call 27; exact HQ1.out _) | (go_at_call 23; exact HQ2.out _)))
          go_wp2
          go_roundg (len - (i + 1))
          case rel => exact ⟨i + 1, (next_ t.data.toList k), rfl, by go_num, rfl, by omega, hs4.drewN _, below_drewN hb4.out _⟩
          case measure => have := Hg.out; omega
      · have hz0 : 0 ≤ z := by omega
        have hz1 : z ≤ 255 := by omega
        have hwrap : IntKind.u8.wrap z = z := wrap_u8 hz0 hz1
        clear hz
        by_cases hq : findB z.toNat.toUInt8 t.data.toList k < t.size
        · have HQ := Lib.hid hq
          clear hq
          go_wp2_with fail
          refine (until_yes _ k z t _ hs HQ.out).mono ?_
          rintro e w4 ⟨rfl, hs4, hg4⟩
          have hcell : w4.cell? ⟨b, off + i, none⟩ = some (.int .i64 z) := hg4.cell k0 (by simp; omega)
          go_wp2_with fail
          refine (runtil_any k z t _ hs.2.1 hs.2.2 hz0 hz1).mono ?_
          rintro e w5 ⟨hor, rfl⟩
          have he : e = _ := hor.elim (fun h => h.2) (fun h => absurd HQ.out h.1)
          subst he
          clear hor
          have hb4 : Hid (Below w.heap.size w w4) := hb.out.grown hg4 hb.out.size (fun j e => by cases e; omega)
          obtain ⟨q, hq0⟩ : ∃ q, q = findB z.toNat.toUInt8 t.data.toList k := ⟨_, rfl⟩
          rw [← hq0] at hs4 ⊢
          clear hq0
          have hk4 : ((q + 1) : Int) ≤ (t.size : Int) := by have := hs4.2.1; omega
          have Q1 : ∀ m, Calls Try.prog 27 #[.pointer (some ⟨sb, 0, none⟩)] (w4.drewN m) fun e w'' => e = .returned (.int .i64 ((q + 1) : Nat)) ∧ ∃ m, w'' = w4.drewN m := fun m => quiet_same (at_any sb _ t _ (hs4.drewN m))
          have Q2 : ∀ m, Calls Try.prog 23 #[.pointer (some ⟨sb, 0, none⟩)] (w4.drewN m) fun e w'' => e = .returned (.string (t.extract (q + 1) t.size)) ∧ ∃ m, w'' = w4.drewN m := fun m => Calls.quiet_of (left_any sb _ t _ (hs4.drewN m))
          have HQ1 := Lib.hid Q1
          have HQ2 := Lib.hid Q2
          clear Q1 Q2
          go_wp2_with fail
          go_quiet ((first | (go_at_call 27; exact HQ1.out _) | (go_at_call 23; exact HQ2.out _)))
          go_wp2
          go_roundg (len - (i + 1))
          case rel => exact ⟨i + 1, (q + 1), rfl, by go_num, rfl, by omega, hs4.drewN _, below_drewN hb4.out _⟩
          case measure => have := Hg.out; omega
        · have HQ := Lib.hid hq
          clear hq
          go_wp2_with fail
          refine (until_no _ k z t _ hs HQ.out).mono ?_
          rintro e w4 ⟨rfl, hs4, hg4⟩
          have hcell : w4.cell? ⟨b, off + i, none⟩ = some (.int .i64 z) := hg4.cell k0 (by simp; omega)
          go_wp2_with fail
          refine (runtil_any k z t _ hs.2.1 hs.2.2 hz0 hz1).mono ?_
          rintro e w5 ⟨hor, rfl⟩
          have he : e = _ := hor.elim (fun h => absurd h.1 HQ.out) (fun h => h.2)
          subst he
          clear hor
          have hb4 : Hid (Below w.heap.size w w4) := hb.out.grown hg4 hb.out.size (fun j e => by cases e; omega)
          have hk4 : (t.size : Int) ≤ (t.size : Int) := by have := hs4.2.1; omega
          have Q1 : ∀ m, Calls Try.prog 27 #[.pointer (some ⟨sb, 0, none⟩)] (w4.drewN m) fun e w'' => e = .returned (.int .i64 (t.size : Nat)) ∧ ∃ m, w'' = w4.drewN m := fun m => quiet_same (at_any sb _ t _ (hs4.drewN m))
          have Q2 : ∀ m, Calls Try.prog 23 #[.pointer (some ⟨sb, 0, none⟩)] (w4.drewN m) fun e w'' => e = .returned (.string (t.extract t.size t.size)) ∧ ∃ m, w'' = w4.drewN m := fun m => Calls.quiet_of (left_any sb _ t _ (hs4.drewN m))
          have HQ1 := Lib.hid Q1
          have HQ2 := Lib.hid Q2
          clear Q1 Q2
          go_wp2_with fail
          go_quiet ((first | (go_at_call 27; exact HQ1.out _) | (go_at_call 23; exact HQ2.out _)))
          go_wp2
          go_roundg (len - (i + 1))
          case rel => exact ⟨i + 1, t.size, rfl, by go_num, rfl, by omega, hs4.drewN _, below_drewN hb4.out _⟩
          case measure => have := Hg.out; omega
    · go_wp2_with fail
      refine (word_nil _).mono ?_
      rintro e w4 ⟨rfl, rfl⟩
      go_wp2_with fail
      refine (until_nil 97 _).mono ?_
      rintro e w4 ⟨rfl, rfl⟩
      go_wp2_with fail
      refine (at_nil _).mono ?_
      rintro e w4 ⟨rfl, rfl⟩
      go_wp2_with fail
      refine (left_nil _).mono ?_
      rintro e w4 ⟨rfl, rfl⟩
      go_wp2_with fail
      go_ret
      exact ⟨rfl, hb.out⟩

theorem plays_bad (t : ByteArray) (A : Option Addr) (len cap : Nat) (w : World) (hm : len ≤ maxLen) (hmt : t.size ≤ maxLen) (h : 1000 < t.size ∨ 100 < len) :
    Calls Try.prog 8 #[.string t, .slice A len cap] w fun e w' => e = .returned (.bool true) ∧ Below w.heap.size w w' := by
  unfold maxLen at hm hmt
  by_cases h1 : 1000 < t.size
  rotate_left
  have h2 : 100 < len := by omega
  all_goals
    clear h
    go_enter Try.func8, Try.ntmps8
    go_wp2_with fail
    refine (alive_any _).mono ?_
    rintro e w1 ⟨rfl, hb⟩
    go_wp2_with fail
    go_ret
    exact ⟨rfl, hb⟩

theorem ints_of {H : Type} {enc : TypeId × Value → H} {W : World} {A : Option Addr} {len cap : Nat} {d : DataW H} {p : List MemPlace}
    (h : DataW.Trod enc Try.prog W 0 (fun _ => true) true 44 (.slice A len cap) d p) : len ≤ maxLen ∧ ∃ zs, IntsAt W A len zs := by
  obtain ⟨fuel, hf⟩ := h
  rcases Go.ChangeShapes.open_ints Try.underlying44 Try.underlying3 (by kernel_rfl) hf with ⟨hcs, _⟩ | ⟨x, l, c, zs, hcs, _, hl, hm, hz, _, hcell, hwz⟩
  · simp [Value.cells] at hcs
    obtain ⟨rfl, rfl, rfl⟩ := hcs
    exact ⟨Nat.zero_le _, fun _ => 0, Or.inl rfl⟩
  · simp [Value.cells] at hcs
    obtain ⟨rfl, rfl, rfl⟩ := hcs
    refine ⟨by omega, fun i => zs.getD i 0, ?_⟩
    rcases Nat.eq_zero_or_pos len with h0 | h0
    · exact Or.inl h0
    · right
      have hz' : zs.length = cap := by simpa using hz
      obtain ⟨b, off, rfl, hc⟩ := ints_at hcell (by omega)
      exact ⟨b, off, rfl, World.block_lt_of_cell? W _ (hc 0 (by omega)), fun i hi => hc i (by omega)⟩

theorem plays_any (t : ByteArray) (A : Option Addr) (len cap : Nat) (w : World) (ht : t.size ≤ maxLen) (hl : len ≤ maxLen ∧ ∃ zs, IntsAt w A len zs) :
    Calls Try.prog 8 #[.string t, .slice A len cap] w fun e w' => e = .returned (.bool true) ∧ Below w.heap.size w w' := by
  obtain ⟨hm, zs, hz⟩ := hl
  by_cases h : 1000 < t.size ∨ 100 < len
  · exact plays_bad t A len cap w hm ht h
  · exact plays_walk t A len cap zs w (by omega) (by omega) hz

end Go.Proofs.Ytfoogcdpllkeoaa.Src
