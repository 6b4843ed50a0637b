/-
  Lemmas on the way, for every input that they name: RvC.
-/
import Derived.Test.YtndjbjhgkggeiaaQ09
set_option linter.unusedVariables false
set_option linter.unusedSimpArgs false
set_option linter.deprecated false
namespace Go.Proofs.Ytndjbjhgkggeiaa.Rv
open Go.RowKit Go.Proofs.Ytndjbjhgkggeiaa.Wv
theorem code_any (b : Bool) (w : World) : Calls Try.prog 30 #[.bool b] w fun e w' => e = .returned (.int .i64 (if b = true then 0 else -8)) ∧ w = w' := by
  cases b with
  | false =>
    go_enter Try.func30, Try.ntmps30
    go_wp2_with fail
    go_ret
    exact ⟨rfl, rfl⟩
  | true =>
    go_enter Try.func30, Try.ntmps30
    go_wp2_with fail
    go_ret
    exact ⟨rfl, rfl⟩
theorem rop_any (o : Int) (w : World) : Calls Try.prog 28 #[.int .i64 o] w fun e w' => e = .returned (.bool (rightB o)) ∧ w = w' := by
  unfold rightB
  go_enter Try.func28, Try.ntmps28
  go_wp2
  all_goals
    go_ret
    exact ⟨by first | (simp_all; done) | (simp_all; omega), rfl⟩
theorem rarg_any (o : Int) (w : World) : Calls Try.prog 29 #[.int .i64 o] w fun e w' => e = .returned (.bool (argB o)) ∧ w = w' := by
  unfold argB
  go_enter Try.func29, Try.ntmps29
  go_wp2_with fail
  all_goals
    go_ret
    exact ⟨by first | rfl | (simp_all; done), rfl⟩
def Laid (w : World) (B : Nat) (a : At) (r : Int × St) (e : Ending) (w' : World) : Prop :=
  e = .returned (.bool (decide (r.1 = 0))) ∧ RvIs w' B a r.2.M r.2.h r.2.O ∧ Touch w w' a.blocks
theorem lay_own (B : Nat) (a : At) (s : St) (w : World) (H : RvIs w B a s.M s.h s.O) (L : List Int) (hpos : 0 < L.length) (hL : L.length ≤ 10) (c : Nat) :
    Calls Try.prog 31 #[.pointer (some ⟨a.sb, 0, none⟩), .slice (some ⟨w.heap.size, 0, none⟩) L.length c] (w.alloc (.cells (L.map (Value.int .i64)).toArray 3)) (Laid w B a (layR s L)) := by
  have H1 := H.alloc (.cells (L.map (Value.int .i64)).toArray 3)
  have T1 := alloc_touch w (.cells (L.map (Value.int .i64)).toArray 3) a.blocks
  have hc : ∀ j, j < L.length → (w.alloc (.cells (L.map (Value.int .i64)).toArray 3)).cell? ⟨w.heap.size, j, none⟩ = some (.int .i64 (L.getD j 0)) := by
    intro j hj
    rw [World.cell?, heap_alloc_new]
    simp [hj]
  unfold Laid
  by_cases hr : s.h + L.length ≤ s.M.length
  · rw [layR_yes hr]
    refine (lay_room B a s.M s.h s.O _ H1 w.heap.size L c (fun h => by have := (H.low h).2; omega) hc hpos hL hr).mono ?_
    rintro e w' ⟨rfl, H2, T2⟩
    exact ⟨rfl, H2, T1.trans T2 (fun _ h => Or.inl h)⟩
  · rw [layR_no hr]
    refine (lay_full B a s.M s.h s.O _ H1 _ L.length c (by omega) (by omega)).mono ?_
    rintro e w' ⟨rfl, q, rfl⟩
    exact ⟨rfl, H1.drewN q, T1.drewN q⟩
theorem lay1 (B : Nat) (a : At) (s : St) (w : World) (H : RvIs w B a s.M s.h s.O) (o : Int) (c : Nat) :
    Calls Try.prog 31 #[.pointer (some ⟨a.sb, 0, none⟩), .slice (some ⟨w.heap.size, 0, none⟩) 1 c] (w.alloc (.cells #[.int .i64 o] 3)) (Laid w B a (layR s [o])) :=
  lay_own B a s w H [o] (by simp) (by simp) c
theorem lay2 (B : Nat) (a : At) (s : St) (w : World) (H : RvIs w B a s.M s.h s.O) (o v : Int) (c : Nat) :
    Calls Try.prog 31 #[.pointer (some ⟨a.sb, 0, none⟩), .slice (some ⟨w.heap.size, 0, none⟩) 2 c] (w.alloc (.cells #[.int .i64 o, .int .i64 v] 3)) (Laid w B a (layR s [o, v])) :=
  lay_own B a s w H [o, v] (by simp) (by simp) c
theorem layR_code (s : St) (L : List Int) : (if decide ((layR s L).1 = 0) = true then (0 : Int) else -8) = (layR s L).1 := by
  unfold layR
  split <;> simp
def Did (w : World) (B : Nat) (a : At) (r : Int × St) (e : Ending) (w' : World) : Prop :=
  e = .returned (.int .i64 r.1) ∧ Next w B a r.2.M r.2.h r.2.O w'
theorem op_any (B : Nat) (a : At) (s : St) (w : World) (H : RvIs w B a s.M s.h s.O) (o : Int) :
    Calls Try.prog 9 #[.pointer (some ⟨a.sb, 0, none⟩), .int .i64 o] w (Did w B a (opR s o)) := by
  have HO := Lib.hid (rop_any o)
  have HA := Lib.hid (rarg_any o)
  unfold opR
  cases hr : rightB o
  · have H0 : Hid (Did w B a (-13, s) (.returned (.int .i64 (-13))) w) := ⟨rfl, Next.same H (Touch.refl _ _)⟩
    simp only [Bool.false_eq_true, false_and, if_false]
    rw [hr] at HO
    go_enter Try.func9, Try.ntmps9
    go_wp2_with fail
    refine (HO.out _).mono ?_
    rintro e w' ⟨rfl, rfl⟩
    go_wp2_with fail
    go_ret
    exact H0.out
  · rw [hr] at HO
    cases ha : argB o
    · rw [ha] at HA
      simp only [and_self, if_true]
      have HL := Lib.hid (lay1 B a s w H o 1)
      go_enter Try.func9, Try.ntmps9
      go_wp2_with fail
      refine (HO.out _).mono ?_
      rintro e w' ⟨rfl, rfl⟩
      go_wp2_with fail
      refine (HA.out _).mono ?_
      rintro e w' ⟨rfl, rfl⟩
      go_wp2_with fail
      refine HL.out.mono ?_
      rintro e w1 ⟨rfl, H1, T1⟩
      have HN : Hid (Did w B a (layR s [o]) (.returned (.int .i64 (layR s [o]).1)) w1) := ⟨rfl, Next.same H1 T1⟩
      have HC := Lib.hid (code_any (decide ((layR s [o]).1 = 0)))
      clear H1 T1 HL
      go_wp2_with fail
      refine (HC.out _).mono ?_
      rintro e w2 ⟨rfl, rfl⟩
      rw [layR_code]
      go_wp2_with fail
      go_ret
      exact HN.out
    · rw [ha] at HA
      have H0 : Hid (Did w B a (-13, s) (.returned (.int .i64 (-13))) w) := ⟨rfl, Next.same H (Touch.refl _ _)⟩
      simp only [Bool.true_eq_false, and_false, if_false]
      go_enter Try.func9, Try.ntmps9
      go_wp2_with fail
      refine (HO.out _).mono ?_
      rintro e w' ⟨rfl, rfl⟩
      go_wp2_with fail
      refine (HA.out _).mono ?_
      rintro e w' ⟨rfl, rfl⟩
      go_wp2_with fail
      go_ret
      exact H0.out
theorem argm_any (B : Nat) (a : At) (s : St) (w : World) (H : RvIs w B a s.M s.h s.O) (o v : Int) :
    Calls Try.prog 11 #[.pointer (some ⟨a.sb, 0, none⟩), .int .i64 o, .int .i64 v] w (Did w B a (argR s o v)) := by
  have HA := Lib.hid (rarg_any o)
  unfold argR
  cases ha : argB o
  · rw [ha] at HA
    have H0 : Hid (Did w B a (-13, s) (.returned (.int .i64 (-13))) w) := ⟨rfl, Next.same H (Touch.refl _ _)⟩
    simp only [Bool.false_eq_true, if_false]
    go_enter Try.func11, Try.ntmps11
    go_wp2_with fail
    refine (HA.out _).mono ?_
    rintro e w' ⟨rfl, rfl⟩
    go_wp2_with fail
    go_ret
    exact H0.out
  · rw [ha] at HA
    simp only [if_true]
    have HL := Lib.hid (lay2 B a s w H o v 2)
    go_enter Try.func11, Try.ntmps11
    go_wp2_with fail
    refine (HA.out _).mono ?_
    rintro e w' ⟨rfl, rfl⟩
    go_wp2_with fail
    refine HL.out.mono ?_
    rintro e w1 ⟨rfl, H1, T1⟩
    have HN : Hid (Did w B a (layR s [o, v]) (.returned (.int .i64 (layR s [o, v]).1)) w1) := ⟨rfl, Next.same H1 T1⟩
    have HC := Lib.hid (code_any (decide ((layR s [o, v]).1 = 0)))
    clear H1 T1 HL
    go_wp2_with fail
    refine (HC.out _).mono ?_
    rintro e w2 ⟨rfl, rfl⟩
    rw [layR_code]
    go_wp2_with fail
    go_ret
    exact HN.out
theorem call_any (B : Nat) (a : At) (s : St) (w : World) (H : RvIs w B a s.M s.h s.O) (x : Int) :
    Calls Try.prog 13 #[.pointer (some ⟨a.sb, 0, none⟩), .int .i64 x] w (Did w B a (callR s x)) := by
  unfold callR
  by_cases hx : x < 64
  · have H0 : Hid (Did w B a (-9, s) (.returned (.int .i64 (-9))) w) := ⟨rfl, Next.same H (Touch.refl _ _)⟩
    rw [if_pos hx]
    have hd : decide (x < 64) = true := by simpa using hx
    go_enter Try.func13, Try.ntmps13
    go_wp2_with fail
    go_ret
    exact H0.out
  · rw [if_neg hx]
    have hd : decide (x < 64) = false := by simpa using hx
    have HL := Lib.hid (lay1 B a s w H x 1)
    go_enter Try.func13, Try.ntmps13
    go_wp2_with fail
    refine HL.out.mono ?_
    rintro e w1 ⟨rfl, H1, T1⟩
    have HN : Hid (Did w B a (layR s [x]) (.returned (.int .i64 (layR s [x]).1)) w1) := ⟨rfl, Next.same H1 T1⟩
    have HC := Lib.hid (code_any (decide ((layR s [x]).1 = 0)))
    clear H1 T1 HL
    go_wp2_with fail
    refine (HC.out _).mono ?_
    rintro e w2 ⟨rfl, rfl⟩
    rw [layR_code]
    go_wp2_with fail
    go_ret
    exact HN.out
def topV (O : List (Int × Int)) (k : Nat) : Int × Int := if O.length ≤ k then (0, 0) else O.getD (O.length - 1 - k) (0, 0)
set_option maxHeartbeats 4000000 in
set_option maxRecDepth 100000 in
theorem top0 (B : Nat) (a : At) (M : List Int) (h : Nat) (O : List (Int × Int)) (w : World) (H : RvIs w B a M h O) :
    Calls Try.prog 41 #[.pointer (some ⟨a.sb, 0, none⟩), .int .i64 0] w fun e w' => e = .returned (.agg #[.int .i64 (topV O 0).1, .int .i64 (topV O 0).2]) ∧ Below w.heap.size w w' := by
  have H1 := H.alloc (.cells #[.int .i64 0, .int .i64 0] 63)
  have hb1 := (Below.refl w.heap.size w).alloc (Nat.le_refl _) (.cells #[.int .i64 0, .int .i64 0] 63)
  have D1 := Blk.new w 63 #[.int .i64 0, .int .i64 0]
  have c2 := H1.c2
  have hf := H.few
  have HB := Lib.hid hb1
  have d0 := D1.cell 0
  have d1 := D1.cell 1
  have d2 := D1.frozen 0
  have d3 := D1.frozen 1
  by_cases hk2 : O.length ≤ 0
  · have ht : topV O 0 = (0, 0) := by unfold topV; rw [if_pos hk2]
    rw [ht]
    have h1 : (O.length : Int) ≤ 0 := by omega
    have h2 : decide (O.length ≤ 0) = true := by simpa using hk2
    obtain rfl : O = [] := List.eq_nil_of_length_eq_zero (by omega)
    clear H H1 hb1 D1
    go_enter Try.func41, Try.ntmps41
    go_wp2_with fail
    refine bodyPost_ret_by (v := .agg #[.int .i64 0, .int .i64 0]) (results_cell_row (fn := Try.f41) (p := 4) (ty := 63) rfl _ _ w.heap.size 63 #[.int .i64 0, .int .i64 0] (0, 0) _ rfl (Blk.new _ _ _) Try.underlying63 rfl (by kernel_rfl)) rfl ?_
    exact ⟨rfl, HB.out⟩
  · obtain ⟨n, hn⟩ : ∃ n, O.length = n + 1 := ⟨O.length - (1), by omega⟩
    obtain ⟨g, hA, x0, x1⟩ := last_cell H1 n (by omega)
    have ht : topV O 0 = O.getD n (0, 0) := by unfold topV; rw [if_neg hk2, show O.length - 1 - 0 = n by omega]
    rw [ht]
    rw [hA, hn] at c2
    have e1 : IntKind.i64.wrap (n : Int) = (n : Int) := IntWalk.i64_in _ (by omega)
    have e2 : IntKind.i64.wrap ((n : Int) + 1) = (n : Int) + 1 := IntWalk.i64_in _ (by omega)
    have i1 : (n : Int) < (n : Int) + 1 := by omega
    have i2 : (0 : Int) ≤ (n : Int) := by omega
    have i3 : n < n + 1 := by omega
    have i4 : decide ((n : Int) < (n : Int) + 1) = true := by first | (simp; done) | (simp; omega)
    have h1 : ¬ (n : Int) + 1 ≤ 0 := by omega
    have h2 : decide ((n : Int) + 1 ≤ 0) = false := by first | (simp; done) | (simp; omega)
    generalize O.getD n (0, 0) = p at *
    have HB3 := Lib.hid (below_of_draw ((Below.refl w.heap.size w).alloc (Nat.le_refl _) (.cells #[.int .i64 p.1, .int .i64 p.2] 63)) 1)
    clear H H1 hb1 D1 hn hk2 hf
    go_enter Try.func41, Try.ntmps41
    go_wp2_with fail
    go_region_with (fail)
    all_goals
      go_wp2_with fail
      refine bodyPost_ret_by (v := .agg #[.int .i64 p.1, .int .i64 p.2]) (results_cell_row (fn := Try.f41) (p := 4) (ty := 63) rfl _ _ w.heap.size 63 #[.int .i64 p.1, .int .i64 p.2] (0, 0) _ rfl ((Blk.new w 63 #[.int .i64 p.1, .int .i64 p.2]).drew) Try.underlying63 rfl (by kernel_rfl)) rfl ?_
      exact ⟨rfl, HB3.out⟩
set_option maxHeartbeats 4000000 in
set_option maxRecDepth 100000 in
theorem top1 (B : Nat) (a : At) (M : List Int) (h : Nat) (O : List (Int × Int)) (w : World) (H : RvIs w B a M h O) :
    Calls Try.prog 41 #[.pointer (some ⟨a.sb, 0, none⟩), .int .i64 1] w fun e w' => e = .returned (.agg #[.int .i64 (topV O 1).1, .int .i64 (topV O 1).2]) ∧ Below w.heap.size w w' := by
  have H1 := H.alloc (.cells #[.int .i64 0, .int .i64 0] 63)
  have hb1 := (Below.refl w.heap.size w).alloc (Nat.le_refl _) (.cells #[.int .i64 0, .int .i64 0] 63)
  have D1 := Blk.new w 63 #[.int .i64 0, .int .i64 0]
  have c2 := H1.c2
  have hf := H.few
  have HB := Lib.hid hb1
  have d0 := D1.cell 0
  have d1 := D1.cell 1
  have d2 := D1.frozen 0
  have d3 := D1.frozen 1
  by_cases hk2 : O.length ≤ 1
  · have ht : topV O 1 = (0, 0) := by unfold topV; rw [if_pos hk2]
    rw [ht]
    have h1 : (O.length : Int) ≤ 1 := by omega
    have h2 : decide (O.length ≤ 1) = true := by simpa using hk2
    clear H H1 hb1 D1
    go_enter Try.func41, Try.ntmps41
    go_wp2_with fail
    refine bodyPost_ret_by (v := .agg #[.int .i64 0, .int .i64 0]) (results_cell_row (fn := Try.f41) (p := 4) (ty := 63) rfl _ _ w.heap.size 63 #[.int .i64 0, .int .i64 0] (0, 0) _ rfl (Blk.new _ _ _) Try.underlying63 rfl (by kernel_rfl)) rfl ?_
    exact ⟨rfl, HB.out⟩
  · obtain ⟨n, hn⟩ : ∃ n, O.length = n + 1 + 1 := ⟨O.length - (1 + 1), by omega⟩
    obtain ⟨g, hA, x0, x1⟩ := last_cell H1 n (by omega)
    have ht : topV O 1 = O.getD n (0, 0) := by unfold topV; rw [if_neg hk2, show O.length - 1 - 1 = n by omega]
    rw [ht]
    rw [hA, hn] at c2
    have e1 : IntKind.i64.wrap (n : Int) = (n : Int) := IntWalk.i64_in _ (by omega)
    have e2 : IntKind.i64.wrap ((n : Int) + 1) = (n : Int) + 1 := IntWalk.i64_in _ (by omega)
    have i1 : (n : Int) < (n : Int) + 1 + 1 := by omega
    have i2 : (0 : Int) ≤ (n : Int) := by omega
    have i3 : n < n + 1 + 1 := by omega
    have i4 : decide ((n : Int) < (n : Int) + 1 + 1) = true := by first | (simp; done) | (simp; omega)
    have h1 : ¬ (n : Int) + 1 + 1 ≤ 1 := by omega
    have h2 : decide ((n : Int) + 1 + 1 ≤ 1) = false := by first | (simp; done) | (simp; omega)
    generalize O.getD n (0, 0) = p at *
    have HB3 := Lib.hid (below_of_draw ((Below.refl w.heap.size w).alloc (Nat.le_refl _) (.cells #[.int .i64 p.1, .int .i64 p.2] 63)) 1)
    clear H H1 hb1 D1 hn hk2 hf
    go_enter Try.func41, Try.ntmps41
    go_wp2_with fail
    go_region_with (fail)
    all_goals
      go_wp2_with fail
      refine bodyPost_ret_by (v := .agg #[.int .i64 p.1, .int .i64 p.2]) (results_cell_row (fn := Try.f41) (p := 4) (ty := 63) rfl _ _ w.heap.size 63 #[.int .i64 p.1, .int .i64 p.2] (0, 0) _ rfl ((Blk.new w 63 #[.int .i64 p.1, .int .i64 p.2]).drew) Try.underlying63 rfl (by kernel_rfl)) rfl ?_
      exact ⟨rfl, HB3.out⟩
end Go.Proofs.Ytndjbjhgkggeiaa.Rv
