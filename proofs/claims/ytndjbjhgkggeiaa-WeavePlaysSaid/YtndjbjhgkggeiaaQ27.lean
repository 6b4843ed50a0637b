/-
  Lemmas on the way, for every input that they name: RvM.
-/
import Derived.Test.YtndjbjhgkggeiaaQ18
set_option linter.unusedVariables false
set_option linter.unusedSimpArgs false
set_option linter.deprecated false
namespace Go.Proofs.Ytndjbjhgkggeiaa.Rv
open Go.RowKit Go.Proofs.Ytndjbjhgkggeiaa.Wv
def ints (M : List Int) : List Value := M.map (Value.int .i64)
theorem ints_is (M : List Int) : ∀ u ∈ ints M, BkI.IsE u := by
  intro u hu
  obtain ⟨x, _, rfl⟩ := List.mem_map.1 hu
  exact ⟨x, rfl⟩
set_option maxHeartbeats 4000000 in
set_option maxRecDepth 100000 in
theorem copyR_any (B : Nat) (A : Option Addr) (c : Nat) (M : List Int) (w : World) (hr : Reads w B 1 A M.length (ints M)) (hs : M.length ≤ 5000) :
    Calls Try.prog 23 #[.slice A M.length c] w fun e w' => ∃ A' c', e = .returned (.slice A' M.length c') ∧ w'.ownsRow w.heap.size 3 1 (.slice A' M.length c') M.length (ints M) ∧ Below w.heap.size w w' := by
  obtain ⟨i0, hi0, hz0, hz1, hz2⟩ := info_parts BkI.infoE
  go_enter Try.func23, Try.ntmps23
  go_wp2_with (at_builtin; refine wpList_append_any _ rfl _ _ 22 rfl w.heap.size 3 i0 (.int .i64 0) 1 8 Try.underlying22 hi0 hz0 hz1 hz2 rfl (by decide) (.slice none 0 0) 0 [] rfl (World.ownsRow_nil _ _ _ _) B A M.length c (ints M) rfl hr (fun u hu => (ints_is M u hu).one) (by unfold maxLen; omega) (by omega) (Nat.le_refl _) ?_)
  intro v' w2 ho2 hg2 _
  have hb := (Below.refl w.heap.size w).grown hg2 (Nat.le_refl _) (fun k hk => by simp [Value.ownBlock] at hk)
  obtain ⟨A', c', hv⟩ := own_slice ho2
  go_wp2_with fail
  go_ret
  rw [hv] at ho2 ⊢
  refine ⟨A', c', ?_, ?_, hb⟩
  · simp
  · simpa using ho2
set_option maxHeartbeats 4000000 in
set_option maxRecDepth 100000 in
theorem lent_any (A : Option Addr) (c : Nat) (M : List Int) (w : World) (hr : Reads w w.heap.size 1 A M.length (ints M)) (hs : M.length ≤ 300) :
    Calls Try.prog 5 #[.slice A M.length c] w fun e w' => ∃ A' c', e = .returned (.slice A' M.length c') ∧ w'.ownsRow w.heap.size 3 1 (.slice A' (M.length + 1) c') (M.length + 1) (ints M ++ [.int .i64 (-77)]) ∧ Below w.heap.size w w' := by
  obtain ⟨i0, hi0, hz0, hz1, hz2⟩ := info_parts BkI.infoE
  have HC := Lib.hid (copyR_any w.heap.size A c M w hr (by omega))
  clear hr
  go_enter Try.func5, Try.ntmps5
  go_wp2_with fail
  refine HC.out.mono ?_
  rintro e w1 ⟨A1, c1, rfl, ho1, hb1⟩
  have hoa := own_touch ho1 (alloc_touch w1 (.cells #[.int .i64 (-77)] 3) (fun _ => False)) (fun _ _ h => h)
  go_wp2_with (at_builtin; refine wpList_append_any _ rfl _ _ 22 rfl w.heap.size 3 i0 (.int .i64 0) 1 8 Try.underlying22 hi0 hz0 hz1 hz2 rfl (by decide) (.slice A1 M.length c1) M.length (ints M) rfl hoa (w1.heap.size + 1) (some ⟨w1.heap.size, 0, none⟩) 1 1 [.int .i64 (-77)] rfl ⟨rfl, fun _ => ⟨_, rfl, Nat.lt_succ_self _, cell_one_new _ _ _⟩⟩ (by intro u hu; simp at hu; subst hu; rfl) (by unfold maxLen; omega) (by omega) (by have := hb1.size; simp; omega) ?_)
  intro v' w2 ho2 hg2 _
  obtain ⟨A', c', rfl⟩ := own_slice ho2
  have hb2 : Below w.heap.size w w2 := (hb1.alloc hb1.size _).grown hg2 (by have := hb1.size; simp; omega) (fun k hk => (hoa.lt k hk).1)
  have hcap : M.length + 1 ≤ c' := by
    rcases ho2.2 with ⟨h0, _⟩ | ⟨_, cap', _, hv, _, _, hnc, _⟩
    · injection h0 with _ h1 _; omega
    · injection hv with _ _ h2; omega
  have HO := Lib.hid ho2
  have HB := Lib.hid hb2
  have i1 : (M.length : Int) ≤ (c' : Int) := by omega
  clear ho1 hb1 hoa ho2 hg2 hb2
  go_wp2_with fail
  go_ret
  exact ⟨A', c', rfl, HO.out, HB.out⟩
theorem lent_reads {w : World} {B : Nat} {A : Option Addr} {c : Nat} {M : List Int} {x : Int} (h : w.ownsRow B 3 1 (.slice A (M.length + 1) c) (M.length + 1) (ints M ++ [.int .i64 x])) :
    w.ownsRow B 3 1 (.slice A M.length c) M.length (ints M) ∧ ∃ g, A = some ⟨g, 0, none⟩ ∧ B ≤ g ∧ g < w.heap.size ∧ M.length + 1 ≤ c ∧ w.cell? ⟨g, M.length, none⟩ = some (.int .i64 x) := by
  obtain ⟨g, c2, hA, hg, hgl⟩ := World.ownsRow.form h (by omega)
  injection hA with hA _ hc
  subst hA
  have hcap : M.length + 1 ≤ c := by
    rcases h.2 with ⟨h0, _⟩ | ⟨_, cap', _, hv, _, _, hnc, _⟩
    · cases h0
    · injection hv with _ _ h2; omega
  refine ⟨?_, g, rfl, hg, hgl, hcap, ?_⟩
  · rcases h.2 with ⟨h0, _⟩ | ⟨g', cap', cur, hv, hb, hh, hnc, hcm, hsz, htk⟩
    · cases h0
    · injection hv with h1 _ h2
      injection h1 with h1
      injection h1 with h1
      subst h1 h2
      refine ⟨by simp [ints], .inr ⟨g, c, cur, rfl, hb, hh, by omega, hcm, hsz, ?_⟩⟩
      have e : cur.toList.take (M.length * 1) = (cur.toList.take ((M.length + 1) * 1)).take (M.length * 1) := by rw [List.take_take, Nat.min_eq_left (by omega)]
      rw [e, htk, List.take_append_of_le_length (by simp [ints]), List.take_of_length_le (by simp [ints])]
  · rw [h.cellAt M.length (by omega), List.getElem?_append_right (by simp [ints])]
    simp [ints]
theorem own_reads {w : World} {B : Nat} {A : Option Addr} {c : Nat} {M : List Int} (h : w.ownsRow B 3 1 (.slice A M.length c) M.length (ints M)) : Reads w w.heap.size 1 A M.length (ints M) := by
  refine ⟨by simp [ints], fun hp => ?_⟩
  obtain ⟨g, c2, hA, hg, hgl⟩ := World.ownsRow.form h hp
  injection hA with hA _ _
  subst hA
  refine ⟨⟨g, 0, none⟩, rfl, hgl, fun j u hj => ?_⟩
  exact h.cells (g := g) rfl j u hj
theorem same_ints (A1 A2 : Option Addr) (c1 c2 B1 B2 : Nat) (M : List Int) (w : World) (h1 : Reads w B1 1 A1 M.length (ints M)) (h2 : Reads w B2 1 A2 M.length (ints M)) (hs : M.length ≤ 5000) :
    Calls Try.prog 18 #[.slice A1 M.length c1, .slice A2 M.length c2] w fun e w' => e = .returned (.bool true) ∧ ∃ q, w' = w.drewN q := by
  have hl : (ints M).length = M.length := by simp [ints]
  have h := BkI.same_any B1 B2 c1 c2 A1 A2 (ints M) w (by rw [hl]; exact h1) (by rw [hl]; exact h2) (ints_is M) (by rw [hl]; omega)
  rw [hl] at h
  exact h
set_option maxHeartbeats 4000000 in
set_option maxRecDepth 100000 in
theorem stays_any (B B2 : Nat) (A A2 : Option Addr) (c c2 : Nat) (M : List Int) (w : World) (h : w.ownsRow B 3 1 (.slice A (M.length + 1) c) (M.length + 1) (ints M ++ [.int .i64 (-77)])) (h2 : Reads w B2 1 A2 M.length (ints M)) (hs : M.length ≤ 300) :
    Calls Try.prog 21 #[.slice A M.length c, .slice A2 M.length c2] w fun e w' => e = .returned (.bool true) ∧ ∃ q, w' = w.drewN q := by
  obtain ⟨h1, g, rfl, hg, hgl, hcap, hx⟩ := lent_reads h
  have HS := Lib.hid (same_ints (some ⟨g, 0, none⟩) A2 c c2 w.heap.size B2 M w (own_reads h1) h2 (by omega))
  have i1 : (M.length : Int) + 1 ≤ (c : Int) := by omega
  have i2 : (M.length : Int) < (M.length : Int) + 1 := by omega
  have HX := Lib.hid hx
  clear h h1 h2 hx
  go_enter Try.func21, Try.ntmps21
  go_wp2_with fail
  refine HS.out.mono ?_
  rintro e w1 ⟨rfl, q, rfl⟩
  have x1 : (w.drewN q).cell? ⟨g, M.length, none⟩ = some (.int .i64 (-77)) := HX.out
  go_wp2_with fail
  go_ret
  exact ⟨rfl, q, rfl⟩
end Go.Proofs.Ytndjbjhgkggeiaa.Rv
