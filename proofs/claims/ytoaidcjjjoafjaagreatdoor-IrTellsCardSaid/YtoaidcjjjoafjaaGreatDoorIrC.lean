/-
  Chapter 14 (ir): places, both.
-/
import Derived.Test.YtoaidcjjjoafjaaGreatDoorIrB
set_option linter.unusedVariables false
set_option linter.unusedSimpArgs false
set_option linter.unnecessarySimpa false
set_option linter.deprecated false
namespace Go.Proofs.YtoaidcjjjoafjaaGreatDoor.Ir
open Go.RowKit

theorem btrue {b : Bool} {P : Prop} (h : b = true ↔ P) (hp : P) : b = true := h.2 hp
theorem bfalse {b : Bool} {P : Prop} (h : b = true ↔ P) (hp : ¬ P) : b = false := by cases b with | false => rfl | true => exact absurd (h.1 rfl) hp

set_option maxHeartbeats 2000000 in
set_option maxRecDepth 100000 in
theorem places_any (T : Tr) (Ai Ao Ac A : Option Addr) (ci co cc c n : Nat) (f : Nat → Int) (at_ : Int) (B : Nat) (b : Bool) (w : World) (hT : InsAt w B Ai T.ni T.ins) (hB : B ≤ w.heap.size) (hl : IntsAt w B A n f) (hn : n ≤ 300000)
    (hat : at_ ≤ T.ni) (hb : b = true ↔ Places T n f at_) :
    Calls Tryz.prog 33 #[.agg (trCells T Ai ci Ao co Ac cc), .slice A n c, .int .i64 at_] w fun e w' => e = .returned (.bool b) ∧ Below w.heap.size w w' := by
  have HT := Lib.hid hT
  have HL := Lib.hid hl
  have Hb := Lib.hid hb
  have hba : Below w.heap.size w (w.alloc (.cells (trCells T Ai ci Ao co Ac cc) 26)) := (Below.refl _ _).alloc (Nat.le_refl _) _
  have kb : Blk (w.alloc (.cells (trCells T Ai ci Ao co Ac cc) 26)) w.heap.size 26 (trCells T Ai ci Ao co Ac cc) := Blk.new _ _ _
  have k5 : (w.alloc (.cells (trCells T Ai ci Ao co Ac cc) 26)).cell? ⟨w.heap.size, 5, none⟩ = some (.slice Ai T.ni ci) := kb.cell 5
  have HBA := Lib.hid hba
  clear hT hl hb hba kb
  unfold trCells at *
  go_enter Tryz.func33, Tryz.ntmps33
  go_wp2_with fail
  generalize hwb : w.alloc (.cells #[.int .i64 T.start, .int .i64 T.slots, .int .i64 T.backs, .int .i64 T.grow, .int .i64 T.growBack, .slice Ai T.ni ci, .slice Ao T.no co, .int .i64 T.last, .slice Ac T.nc cc] 26) = wb at *
  clear hwb
  go_loopg [11] n (fun g vj wr => ∃ j : Nat, g = n - j ∧ vj = .int .i64 j ∧ j ≤ n ∧ Hid (∀ i, i < j → Place T (f i) at_) ∧ wr = wb)
  case atStart => exact ⟨0, rfl, rfl, by omega, fun i hi => by omega, rfl⟩
  case round =>
    obtain ⟨j, hg, rfl, hj, HJ, rfl⟩ := hrel
    have Hg := Lib.hid hg
    clear hg
    by_cases hlt : j < n
    · have hno : ¬ Place T (f j) at_ → b = false := fun h => bfalse Hb.out (fun h2 => h (h2 j hlt))
      have Hno := Lib.hid hno
      obtain ⟨bl, off, rfl, hbl, hc⟩ := (HL.out.below (HBA.out.mono hB)).resolve_left (by omega)
      have c1 := hc j hlt
      have hlt' : (j : Int) < (n : Int) := by omega
      clear hno hc
      by_cases h0 : f j < 0
      · obtain rfl : b = false := Hno.out (fun h => by have := h.1; omega)
        go_wp2_with fail
        go_ret
        exact ⟨rfl, HBA.out⟩
      · by_cases h1 : at_ ≤ f j
        · obtain rfl : b = false := Hno.out (fun h => by have := h.2.1; omega)
          go_wp2_with fail
          go_ret
          exact ⟨rfl, HBA.out⟩
        · obtain ⟨p, hp⟩ : ∃ p : Nat, f j = p := ⟨(f j).toNat, by omega⟩
          have hpl : p < T.ni := by omega
          obtain ⟨bi, offi, rfl, hbi, hci⟩ := (HT.out.below (HBA.out.mono hB)).resolve_left (by omega)
          obtain ⟨x0, _⟩ := hci p hpl
          have hpl' : (p : Int) < (T.ni : Int) := by omega
          rw [hp] at c1
          have hG := gives_any (T.ins p).op
          have Hp := Lib.hid hp
          have HG := Lib.hid hG
          have Hat := Lib.hid h1
          have hp1 : ¬ (p : Int) < 0 := by omega
          have hp2 : ¬ at_ ≤ (p : Int) := by omega
          clear hci hG h0 h1 hp
          go_wp2_with fail
          refine (HG.out _).mono ?_
          rintro e w' ⟨rfl, rfl⟩
          cases hgv : gives (T.ins p).op with
          | false =>
            obtain rfl : b = false := Hno.out (fun h => by have h3 := h.2.2; rw [Hp.out] at h3; simp [hgv] at h3)
            go_wp2_with fail
            go_ret
            exact ⟨rfl, HBA.out⟩
          | true =>
            go_wp2_with fail
            go_roundg (n - (j + 1))
            case rel =>
              refine ⟨j + 1, rfl, by go_num, by omega, fun i hi => ?_, rfl⟩
              by_cases hij : i = j
              · subst hij
                rw [Hp.out]
                exact ⟨by omega, by omega, by simpa using hgv⟩
              · exact HJ.out i (by omega)
            case measure => have := Hg.out; omega
    · obtain rfl : j = n := by omega
      obtain rfl : b = true := btrue Hb.out HJ.out
      go_wp2_with fail
      go_ret
      exact ⟨rfl, HBA.out⟩

set_option maxHeartbeats 2000000 in
set_option maxRecDepth 100000 in
theorem rplaces_any (T : Tr) (Ai Ao Ac A : Option Addr) (ci co cc c n : Nat) (f : Nat → Int) (at_ : Int) (B : Nat) (b : Bool) (w : World) (hT : InsAt w B Ai T.ni T.ins) (hB : B ≤ w.heap.size) (hl : IntsAt w B A n f) (hn : n ≤ 300000)
    (hat : at_ ≤ T.ni) (hb : b = true ↔ Places T n f at_) :
    Calls Tryz.prog 35 #[.agg (trCells T Ai ci Ao co Ac cc), .slice A n c, .int .i64 at_] w fun e w' => e = .returned (.bool b) ∧ Below w.heap.size w w' := by
  have HT := Lib.hid hT
  have HL := Lib.hid hl
  have Hb := Lib.hid hb
  have hba : Below w.heap.size w (w.alloc (.cells (trCells T Ai ci Ao co Ac cc) 26)) := (Below.refl _ _).alloc (Nat.le_refl _) _
  have kb : Blk (w.alloc (.cells (trCells T Ai ci Ao co Ac cc) 26)) w.heap.size 26 (trCells T Ai ci Ao co Ac cc) := Blk.new _ _ _
  have k5 : (w.alloc (.cells (trCells T Ai ci Ao co Ac cc) 26)).cell? ⟨w.heap.size, 5, none⟩ = some (.slice Ai T.ni ci) := kb.cell 5
  have HBA := Lib.hid hba
  clear hT hl hb hba kb
  unfold trCells at *
  go_enter Tryz.func35, Tryz.ntmps35
  go_wp2_with fail
  generalize hwb : w.alloc (.cells #[.int .i64 T.start, .int .i64 T.slots, .int .i64 T.backs, .int .i64 T.grow, .int .i64 T.growBack, .slice Ai T.ni ci, .slice Ao T.no co, .int .i64 T.last, .slice Ac T.nc cc] 26) = wb at *
  clear hwb
  go_loopg [7] n (fun g vj wr => ∃ j q : Nat, g = n - j ∧ vj = .int .i64 j ∧ j ≤ n ∧ Hid (∀ i, i < j → Place T (f i) at_) ∧ wr = wb.drewN q)
  case atStart => exact ⟨0, 0, rfl, rfl, by omega, fun i hi => by omega, rfl⟩
  case round =>
    obtain ⟨j, q, hg, rfl, hj, HJ, rfl⟩ := hrel
    have Hg := Lib.hid hg
    clear hg
    by_cases hlt : j < n
    · have hno : ¬ Place T (f j) at_ → b = false := fun h => bfalse Hb.out (fun h2 => h (h2 j hlt))
      have Hno := Lib.hid hno
      obtain ⟨bl, off, rfl, hbl, hc⟩ := (HL.out.below (HBA.out.mono hB)).resolve_left (by omega)
      have c1 := hc j hlt
      have hlt' : (j : Int) < (n : Int) := by omega
      clear hno hc
      by_cases h0 : f j < 0
      · obtain rfl : b = false := Hno.out (fun h => by have := h.1; omega)
        generalize f j = fj at *
        go_wp2_with fail
        go_quiet (fail)
        go_wp2_with fail
        go_ret
        exact ⟨rfl, below_of_draw (below_of_draw HBA.out _) _⟩
      · by_cases h1 : at_ ≤ f j
        · obtain rfl : b = false := Hno.out (fun h => by have := h.2.1; omega)
          generalize f j = fj at *
          have hd1 : decide (fj < 0) = false := by simpa using h0
          have hd2 : decide (at_ ≤ fj) = true := by simpa using h1
          clear Hno Hb HJ HT HL h0 h1
          go_wp2_with fail
          go_quiet (fail)
          go_wp2_with fail
          go_ret
          exact ⟨rfl, below_of_draw (below_of_draw HBA.out _) _⟩
        · obtain ⟨p, hp⟩ : ∃ p : Nat, f j = p := ⟨(f j).toNat, by omega⟩
          have hpl : p < T.ni := by omega
          obtain ⟨bi, offi, rfl, hbi, hci⟩ := (HT.out.below (HBA.out.mono hB)).resolve_left (by omega)
          obtain ⟨x0, _⟩ := hci p hpl
          have hpl' : (p : Int) < (T.ni : Int) := by omega
          rw [hp] at c1
          have hG : ∀ m, Calls Tryz.prog 17 #[.int .i64 (T.ins p).op] (wb.drewN (q + m)) fun e w' => e = .returned (.bool (gives (T.ins p).op)) ∧ ∃ m', w' = (wb.drewN (q + m)).drewN m' := fun m => (rgives_any (T.ins p).op _).mono fun e w' ⟨he, hw⟩ => ⟨he, 0, hw.symm⟩
          have Hp := Lib.hid hp
          have HG := Lib.hid hG
          have Hat := Lib.hid h1
          have hp1 : ¬ (p : Int) < 0 := by omega
          have hp2 : ¬ at_ ≤ (p : Int) := by omega
          have hd1 : decide ((p : Int) < 0) = false := by simpa using hp1
          have hd2 : decide (at_ ≤ (p : Int)) = false := by simpa using hp2
          clear hci hG h0 h1 hp
          cases hgv : gives (T.ins p).op with
          | false =>
            obtain rfl : b = false := Hno.out (fun h => by have h3 := h.2.2; rw [Hp.out] at h3; simp [hgv] at h3)
            rw [hgv] at HG
            go_wp2_with fail
            go_quiet ((go_at_call 17; exact quiet_add (HG.out _)))
            go_wp2_with fail
            go_ret
            exact ⟨rfl, below_of_draw (below_of_draw HBA.out _) _⟩
          | true =>
            rw [hgv] at HG
            go_wp2_with fail
            go_quiet ((go_at_call 17; exact quiet_add (HG.out _)))
            go_wp2_with fail
            go_roundg (n - (j + 1))
            case rel =>
              refine ⟨j + 1, _, rfl, by go_num, by omega, fun i hi => ?_, rfl⟩
              by_cases hij : i = j
              · subst hij
                rw [Hp.out]
                exact ⟨by omega, by omega, by simpa using hgv⟩
              · exact HJ.out i (by omega)
            case measure => have := Hg.out; omega
    · obtain rfl : j = n := by omega
      obtain rfl : b = true := btrue Hb.out HJ.out
      go_wp2_with fail
      go_ret
      exact ⟨rfl, below_of_draw HBA.out _⟩
end Go.Proofs.YtoaidcjjjoafjaaGreatDoor.Ir
