/-
  Lemmas on the way, for every input that they name: WvD.
-/
import Derived.Test.YtndjbjhgkggeiaaQ05
set_option linter.unusedVariables false
set_option linter.unusedSimpArgs false
set_option linter.deprecated false
namespace Go.Proofs.Ytndjbjhgkggeiaa.Wv
open Go.RowKit
theorem pop_done {w : World} {B : Nat} {a : At} {M : List Int} {h : Nat} {O : List (Int × Int)} {p : Int × Int} (H : WvIs w B a M h (O ++ [p])) :
    WvIs (w.setCell ⟨a.sb, 2, none⟩ (.slice a.OA O.length a.ocap)) B a M h O ∧ Touch w (w.setCell ⟨a.sb, 2, none⟩ (.slice a.OA O.length a.ocap)) a.blocks := by
  have T2 : Touch w (w.setCell ⟨a.sb, 2, none⟩ (.slice a.OA O.length a.ocap)) (fun i => i = a.sb) :=
    ⟨rfl, rfl, rfl, by simp [World.setCell], fun i _ hi => Below.heap_setCell w ⟨a.sb, 2, none⟩ _ i hi⟩
  refine ⟨{ blk := ?_, base := H.base, mem := ?_, opn := ?_, here := H.here, small := H.small, few := by have := H.few; simp at this; omega }, T2.mono (fun i hi => Or.inl (Or.inl hi))⟩
  · simp [World.setCell, Array.getElem?_modify, H.blk]
  · exact own_touch H.mem T2 (fun i hi => H.ne_mem hi)
  · have ho := own_touch H.opn T2 (fun i hi => H.ne_opn hi)
    rw [flat_snoc, List.length_append, List.length_singleton] at ho
    obtain ⟨g, cap, hA, _⟩ := World.ownsRow.form ho (by omega)
    injection hA with hA _ hc
    rw [hA] at ho ⊢
    exact ownsRow_pop (flat_length O) ho
set_option maxHeartbeats 1000000 in
set_option maxRecDepth 100000 in
theorem pop_exact (B : Nat) (a : At) (M : List Int) (h : Nat) (O : List (Int × Int)) (p : Int × Int) (w : World) (H : WvIs w B a M h (O ++ [p])) :
    Calls Try.prog 36 #[.pointer (some ⟨a.sb, 0, none⟩)] w fun e w' => e = .returned (.int .i64 p.2) ∧ w' = w.setCell ⟨a.sb, 2, none⟩ (.slice a.OA O.length a.ocap) := by
  have hO := H.few
  have c2 := H.c2
  have f2 := H.f2
  have ho := H.opn
  have hlen : (O ++ [p]).length = O.length + 1 := by simp
  rw [hlen] at c2 ho hO
  obtain ⟨g, cap, hA, _⟩ := World.ownsRow.form ho (by omega)
  injection hA with hA _ hc
  clear hc
  rw [hA] at c2 ho ⊢
  have hcell : w.cell? ⟨g, O.length * 2 + 1, none⟩ = some (.int .i64 p.2) := by
    have := ho.cellAt (O.length * 2 + 1) (by omega)
    rw [this, flat_snoc, List.getElem?_append_right (by rw [flat_length]; omega), flat_length]
    simp
  have hcap : O.length + 1 ≤ a.ocap := by
    rcases ho.2 with ⟨h0, _⟩ | ⟨_, cap', _, hv, _, _, hnc, _⟩
    · cases h0
    · injection hv with _ _ h2; omega
  clear hA hlen ho
  go_enter Try.func36, Try.ntmps36
  go_wp2
  go_ret
  exact ⟨rfl, rfl⟩
theorem flat_get (O : List (Int × Int)) (n : Nat) (hn : n < O.length) : (flat O)[n * 2]? = some (.int .i64 (O.getD n (0, 0)).1) := by
  induction O generalizing n with
  | nil => simp at hn
  | cons p r ih =>
    cases n with
    | zero => simp [flat]
    | succ n =>
      have h1 : flat (p :: r) = .int .i64 p.1 :: .int .i64 p.2 :: flat r := by simp [flat]
      rw [h1, show (n + 1) * 2 = n * 2 + 1 + 1 by omega, List.getElem?_cons_succ, List.getElem?_cons_succ, ih n (by simpa using hn)]
      simp
def topB (O : List (Int × Int)) (j : Nat) (K : List Int) : Bool := decide (j < O.length) && K.contains (O.getD (O.length - 1 - j) (0, 0)).1
set_option maxHeartbeats 1000000 in
set_option maxRecDepth 100000 in
theorem top_any (B : Nat) (a : At) (M : List Int) (h : Nat) (O : List (Int × Int)) (w : World) (H : WvIs w B a M h O) (j : Nat) (hj : j ≤ 10) (K : List Int) (hK : K.length ≤ 10) (kb c : Nat)
    (hc : ∀ i, i < K.length → w.cell? ⟨kb, 0 + i, none⟩ = some (.int .i64 (K.getD i 0))) :
    Calls Try.prog 69 #[.pointer (some ⟨a.sb, 0, none⟩), .int .i64 j, .slice (some ⟨kb, 0, none⟩) K.length c] w fun e w' => e = .returned (.bool (topB O j K)) ∧ w' = w := by
  have c2 := H.c2
  have hO := H.few
  unfold topB
  by_cases hlt : j < O.length
  · have hlt' : ((0 : Int) ≤ ((O.length : Int) - 1 - (j : Int))) := by omega
    obtain ⟨g, cap, hA, _⟩ := World.ownsRow.form H.opn (by omega)
    injection hA with hA _ hcp
    clear hcp
    have ho := H.opn
    rw [hA] at c2 ho
    have hub : ((O.length : Int) - 1 - (j : Int)) < (O.length : Int) := by omega
    have hcell : w.cell? ⟨g, (O.length - 1 - j) * 2, none⟩ = some (.int .i64 (O.getD (O.length - 1 - j) (0, 0)).1) := by
      have := ho.cellAt ((O.length - 1 - j) * 2) (by omega)
      rw [this, flat_get O _ (by omega)]
    have Hd : Hid (decide (j < O.length) = true) := by show decide _ = true; simpa using hlt
    have Hc := Lib.hid hc
    clear ho hA H hc
    rw [Hd.out]
    generalize (O.getD (O.length - 1 - j) (0, 0)).1 = x at *
    go_enter Try.func69, Try.ntmps69
    go_wp2_with fail
    refine (Try.slices_Contains_int kb 0 K.length c K x w (Nat.le_refl _) (by omega) Hc.out).mono ?_
    rintro e w' ⟨rfl, rfl⟩
    rw [List.take_length]
    go_wp2_with fail
    go_ret
    exact ⟨by simp, rfl⟩
  · have hd : decide (j < O.length) = false := by simpa using hlt
    have hneg : ¬ ((0 : Int) ≤ ((O.length : Int) - 1 - (j : Int))) := by omega
    rw [hd]
    clear hd
    go_enter Try.func69, Try.ntmps69
    go_wp2
    go_ret
    exact ⟨rfl, rfl⟩
end Go.Proofs.Ytndjbjhgkggeiaa.Wv
