/-
  The document's book: exits that are copied and lent; a trace that is lent, and stays. (Printed by genirx.py.)
-/
import Derived.Test.YtoaidcjjjoafjaaGreatDoorIrQ
import Derived.Test.YtoaidcjjjoafjaaGreatDoorPb
import Derived.Test.YtoaidcjjjoafjaaGreatDoorIrI
set_option linter.unusedVariables false
set_option linter.unusedSimpArgs false
set_option linter.unnecessarySimpa false
set_option linter.deprecated false
namespace Go.Proofs.YtoaidcjjjoafjaaGreatDoor.Ir
open Go.RowKit Go.ChangeShapes Go.WideShapes Go.ChangeAt Go.Deep

abbrev Pt := Option Addr × Nat × Option Addr × Nat
def ouT (f : Nat → Ou) (P : Nat → Pt) (i : Nat) : List Value := [.int .i64 (f i).ip, .int .i64 (f i).steps, .slice (P i).1 (f i).ns (P i).2.1, .slice (P i).2.2.1 (f i).nb (P i).2.2.2]
def outV (f : Nat → Ou) (P : Nat → Pt) : Nat → List Value
  | 0 => []
  | n + 1 => outV f P n ++ ouT f P n
section
variable (f : Nat → Ou) (P : Nat → Pt)
theorem outV_len : ∀ n, (outV f P n).length = n * 4
  | 0 => rfl
  | n + 1 => by
    unfold outV
    rw [List.length_append, outV_len n]
    show n * 4 + 4 = _
    omega
theorem outV_get : ∀ n i t, i < n → t < 4 → (outV f P n)[i * 4 + t]? = (ouT f P i)[t]?
  | 0, i, t, h, _ => by omega
  | n + 1, i, t, h, ht => by
    unfold outV
    by_cases hi : i = n
    · subst hi
      rw [List.getElem?_append_right (by rw [outV_len]; omega), outV_len]
      congr 1
      omega
    · rw [List.getElem?_append_left (by rw [outV_len]; omega)]
      exact outV_get n i t (by omega) ht
theorem outV_one : ∀ n, ∀ u ∈ outV f P n, u.oneCell' = true
  | 0 => fun u hu => by cases hu
  | n + 1 => fun u hu => by
    unfold outV at hu
    rcases List.mem_append.1 hu with hu | hu
    · exact outV_one n u hu
    · simp [ouT] at hu
      rcases hu with rfl | rfl | rfl | rfl <;> rfl
variable {f P}
theorem outV_set {P' : Nat → Pt} {n i t : Nat} {v : Value} (hi : i < n) (ht : t < 4) (hk : ∀ k, k ≠ i → P' k = P k) (hv : ouT f P' i = (ouT f P i).set t v) : (outV f P n).set (i * 4 + t) v = outV f P' n := by
  apply List.ext_getElem?
  intro m
  by_cases hm : m < n * 4
  · have hd : m = m / 4 * 4 + m % 4 := by omega
    have hq : m / 4 < n := by omega
    have hs : m % 4 < 4 := by omega
    rw [hd]
    generalize m / 4 = q at *
    generalize m % 4 = s at *
    rw [outV_get f P' n q s hq hs, List.getElem?_set, outV_len]
    by_cases hqi : q = i
    · subst hqi
      rw [hv, List.getElem?_set]
      by_cases hst : t = s
      · subst hst
        rw [if_pos rfl, if_pos rfl, if_pos (by omega), if_pos (by show t < 4; exact ht)]
      · rw [if_neg (by omega), if_neg hst, outV_get f P n q s hq hs]
    · rw [if_neg (by omega), outV_get f P n q s hq hs]
      unfold ouT
      rw [hk q hqi]
  · rw [List.getElem?_eq_none (by rw [List.length_set, outV_len]; omega), List.getElem?_eq_none (by rw [outV_len]; omega)]
end
/-- Numbers elsewhere than in a block, and not below another one. -/
def Els (W : World) (lo g : Nat) (A : Option Addr) (n : Nat) (f : Nat → Int) : Prop :=
  n = 0 ∨ ∃ b off, A = some ⟨b, off, none⟩ ∧ b < W.heap.size ∧ b ≠ g ∧ lo ≤ b ∧ ∀ i, i < n → W.cell? ⟨b, off + i, none⟩ = some (.int .i64 (f i))
section
variable {W W' : World} {lo g n : Nat} {A : Option Addr} {f : Nat → Int}
theorem Els.touch {S : Nat → Prop} (h : Els W lo g A n f) (T : Touch W W' S) (hS : ∀ k, S k → k = g ∨ k < lo) : Els W' lo g A n f := by
  rcases h with h | ⟨b, off, h1, h2, h3, h5, h4⟩
  · exact .inl h
  · refine .inr ⟨b, off, h1, Nat.lt_of_lt_of_le h2 T.size, h3, h5, fun i hi => ?_⟩
    rw [← h4 i hi]
    exact World.cell?_of_block (a := ⟨b, off + i, none⟩) (T.block b h2 (fun hs => by have := hS b hs; omega))
theorem Els.ints (h : Els W lo g A n f) : IntsAt W W.heap.size A n f := h.imp id fun ⟨b, off, h1, h2, _, _, h4⟩ => ⟨b, off, h1, h2, h4⟩
theorem Els.of {B : Nat} (h : IntsAt W B A n f) (hg : B ≤ g) (hB : B ≤ W.heap.size) : Els W 0 g A n f := h.imp id fun ⟨b, off, h1, h2, h4⟩ => ⟨b, off, h1, by omega, by omega, Nat.zero_le _, h4⟩
theorem Els.row {base c : Nat} (h : W.ownsRow base 3 1 (.slice A n c) n (intV f n)) (hg : g < base) (hlo : lo ≤ base) : Els W lo g A n f := by
  rcases Nat.eq_zero_or_pos n with h0 | h0
  · exact .inl h0
  · obtain ⟨b, c2, hA, hb, hbl⟩ := World.ownsRow.form h h0
    injection hA with hA _ hc
    subst hA
    exact .inr ⟨b, 0, rfl, hbl, by omega, by omega, fun i hi => by rw [Nat.zero_add, h.cellAt i (by omega), intV_get f hi]⟩
end
def ElsO (W : World) (lo : Nat → Nat) (g : Nat) (f : Nat → Ou) (Q : Nat → Pt) (n : Nat) : Prop := ∀ i, i < n → Els W (lo i) g (Q i).1 (f i).ns (f i).st ∧ Els W (lo i) g (Q i).2.2.1 (f i).nb (f i).bk
theorem ElsO.touch {W W' : World} {g n : Nat} {lo : Nat → Nat} {f : Nat → Ou} {Q : Nat → Pt} {S : Nat → Prop} (h : ElsO W lo g f Q n) (T : Touch W W' S) (hS : ∀ k, S k → k = g ∨ ∀ i, i < n → k < lo i) : ElsO W' lo g f Q n := fun i hi =>
  ⟨(h i hi).1.touch T (fun k hk => (hS k hk).imp id (fun h => h i hi)), (h i hi).2.touch T (fun k hk => (hS k hk).imp id (fun h => h i hi))⟩
def loJ (B j : Nat) (i : Nat) : Nat := if i < j then B else 0
/-- What an own row of exits says. -/
theorem outsAt_of {W : World} {g g' n : Nat} {lo : Nat → Nat} {f : Nat → Ou} {Q : Nat → Pt} (hg : g < W.heap.size) (h : ∀ j u, (outV f Q n)[j]? = some u → W.cell? ⟨g, j, none⟩ = some u) (he : ElsO W lo g' f Q n) (hl : ∀ i, i < n → (f i).ns ≤ 300 ∧ (f i).nb ≤ 300) : OutsAt W W.heap.size (some ⟨g, 0, none⟩) n f := by
  refine .inr ⟨g, 0, rfl, hg, fun i hi => ?_⟩
  have hc : ∀ t, t < 4 → ∀ u, (ouT f Q i)[t]? = some u → W.cell? ⟨g, 0 + (i * 4 + t), none⟩ = some u := fun t ht u hu => by
    rw [Nat.zero_add]
    refine h _ u ?_
    rw [outV_get f Q n i t hi ht, hu]
  have := hl i hi
  exact ⟨_, _, _, _, ⟨rfl, rfl, ⟨_, _, rfl, (he i hi).1.ints⟩, ⟨_, _, rfl, (he i hi).2.ints⟩, by omega, by omega⟩, hc 0 (by omega) _ rfl, hc 1 (by omega) _ rfl, hc 2 (by omega) _ rfl, hc 3 (by omega) _ rfl⟩
theorem outs_pieces {W : World} {B n : Nat} {A : Option Addr} {f : Nat → Ou} (h : OutsAt W B A n f) : ∃ Q : Nat → Pt, Reads W B 4 A n (outV f Q n) ∧ ∀ i, i < n → IntsAt W B (Q i).1 (f i).ns (f i).st ∧ IntsAt W B (Q i).2.2.1 (f i).nb (f i).bk := by
  rcases h with rfl | ⟨b, off, rfl, hb, hc⟩
  · exact ⟨fun _ => (none, 0, none, 0), ⟨rfl, fun h => by omega⟩, fun i hi => by omega⟩
  · have hall : ∀ i, i < n → ∃ q : Pt, IntsAt W B q.1 (f i).ns (f i).st ∧ IntsAt W B q.2.2.1 (f i).nb (f i).bk ∧ W.cell? ⟨b, off + i * 4, none⟩ = some (.int .i64 (f i).ip) ∧ W.cell? ⟨b, off + i * 4 + 1, none⟩ = some (.int .i64 (f i).steps) ∧
        W.cell? ⟨b, off + i * 4 + 2, none⟩ = some (.slice q.1 (f i).ns q.2.1) ∧ W.cell? ⟨b, off + i * 4 + 3, none⟩ = some (.slice q.2.2.1 (f i).nb q.2.2.2) := by
      intro i hi
      obtain ⟨_, _, _, _, ⟨rfl, rfl, ⟨As, cs, rfl, hs⟩, ⟨Ab, cb, rfl, hk⟩, _, _⟩, x0, x1, x2, x3⟩ := hc i hi
      exact ⟨(As, cs, Ab, cb), hs, hk, x0, x1, x2, x3⟩
    obtain ⟨Q, hQ⟩ := choose_lt hall
    refine ⟨Q, ⟨outV_len f Q n, fun hn => ⟨_, rfl, hb, fun j u hu => ?_⟩⟩, fun i hi => ⟨(hQ i hi).1, (hQ i hi).2.1⟩⟩
    have hj : j < n * 4 := by rw [← outV_len f Q n]; exact (List.getElem?_eq_some_iff.1 hu).1
    obtain ⟨_, _, x0, x1, x2, x3⟩ := hQ (j / 4) (by omega)
    rw [WideShapes.add_plain]
    have hd : j = j / 4 * 4 + j % 4 := by omega
    have ht : j % 4 < 4 := by omega
    rw [hd, outV_get f Q n (j / 4) (j % 4) (by omega) ht] at hu
    rw [hd]
    generalize j / 4 = q at *
    generalize j % 4 = t at *
    obtain rfl | rfl | rfl | rfl : t = 0 ∨ t = 1 ∨ t = 2 ∨ t = 3 := by omega
    · simp [ouT] at hu; subst hu; exact x0
    · simp [ouT] at hu; subst hu; rw [← Nat.add_assoc]; exact x1
    · simp [ouT] at hu; subst hu; rw [← Nat.add_assoc]; exact x2
    · simp [ouT] at hu; subst hu; rw [← Nat.add_assoc]; exact x3
def upP (Q : Nat → Pt) (k : Nat) (q : Pt) : Nat → Pt := fun i => if i = k then q else Q i
theorem two_set {f : Nat → Ou} {Q : Nat → Pt} {n j : Nat} (hj : j < n) (A1 A2 : Option Addr) (k1 k2 : Nat) :
    ((outV f Q n).set (j * 4 + 2) (.slice A1 (f j).ns k1)).set (j * 4 + 3) (.slice A2 (f j).nb k2) = outV f (upP Q j (A1, k1, A2, k2)) n := by
  rw [outV_set (P' := upP Q j (A1, k1, (Q j).2.2.1, (Q j).2.2.2)) hj (by omega) (fun k hk => by unfold upP; rw [if_neg hk]) (by simp [ouT, upP])]
  exact outV_set hj (by omega) (fun k hk => by unfold upP; rw [if_neg hk, if_neg hk]) (by simp [ouT, upP])

set_option maxHeartbeats 8000000 in
set_option maxRecDepth 100000 in
theorem copy_exits (A : Option Addr) (n c : Nat) (f : Nat → Ou) (B : Nat) (w : World) (h : OutsAt w B A n f) (hB : B ≤ w.heap.size) (hn : n ≤ 300) (hl : ∀ i, i < n → (f i).ns ≤ 300 ∧ (f i).nb ≤ 300) :
    Calls Tryz.prog 77 #[.slice A n c] w fun e w' => ∃ A' c' Q, e = .returned (.slice A' n c') ∧ w'.ownsRow w.heap.size 50 4 (.slice A' n c') n (outV f Q n) ∧ (∀ g, A'.map (·.block) = some g → ElsO w' (fun _ => w.heap.size) g f Q n) ∧ Below w.heap.size w w' := by
  obtain ⟨i0, hi0, hz0, hz1, hz2⟩ := info_parts infoOut
  obtain ⟨Q0, hr, hp⟩ := outs_pieces h
  go_enter Tryz.func77, Tryz.ntmps77
  go_wp2_with (at_builtin; refine wpList_append_any _ rfl _ _ 23 rfl w.heap.size 50 i0 (.agg #[.int .i64 0, .int .i64 0, .slice none 0 0, .slice none 0 0]) 4 64 Tryz.underlying23 hi0 hz0 hz1 hz2 rfl (by decide) (.slice none 0 0) 0 [] rfl (World.ownsRow_nil _ _ _ _) B A n c (outV f Q0 n) rfl hr (outV_one f Q0 n) (by unfold maxLen; omega) (by omega) (Nat.le_refl _) ?_)
  intro v' w1 ho hg _
  have hb := (Below.refl w.heap.size w).grown hg (Nat.le_refl _) (fun k hk => by simp [Value.ownBlock] at hk)
  have HH := Lib.hid hl
  clear hl
  rcases Nat.eq_zero_or_pos n with h0 | h0
  · subst h0
    obtain ⟨A', c', rfl⟩ := own_slice ho
    have HO := Lib.hid ho
    have HB := Lib.hid hb
    clear ho hb hg hr hp h hB hi0 hz0 hz1 hz2
    go_wp2_with fail
    go_loopg [3] 1 (fun g vj wr => g = 1 ∧ vj = .int .i64 0 ∧ wr = w1)
    case atStart => exact ⟨rfl, rfl, rfl⟩
    case round =>
      obtain ⟨hg, rfl, rfl⟩ := hrel
      go_wp2_with fail
      go_ret
      exact ⟨A', c', Q0, rfl, HO.out, fun g _ i hi => by omega, HB.out⟩
  · obtain ⟨g, cap, rfl, hg0, hgl⟩ := World.ownsRow.form ho h0
    have HO := Lib.hid ho
    have HE : Hid (ElsO w1 (loJ w.heap.size 0) g f Q0 n) := fun i hi => ⟨(Els.of (hp i hi).1 (by omega : B ≤ g) hB |>.touch (Touch.of_below hb (fun _ => False)) (fun _ h => h.elim)), (Els.of (hp i hi).2 (by omega : B ≤ g) hB |>.touch (Touch.of_below hb (fun _ => False)) (fun _ h => h.elim))⟩
    have HB := Lib.hid hb
    have HG0 := Lib.hid hg0
    have HGl := Lib.hid hgl
    clear ho hb hg hr hp h hB hi0 hz0 hz1 hz2 hg0 hgl
    go_wp2_with fail
    go_loopg [3] n (fun m vj wr => ∃ (j : Nat) (Q : Nat → Pt), m = n - j ∧ vj = .int .i64 (j : Int) ∧ j ≤ n ∧ Hid (wr.ownsRow w.heap.size 50 4 (.slice (some ⟨g, 0, none⟩) n cap) n (outV f Q n)) ∧ Hid (ElsO wr (loJ w.heap.size j) g f Q n) ∧ Hid (Below w.heap.size w wr) ∧ Hid (g < wr.heap.size))
    case atStart => exact ⟨0, Q0, rfl, rfl, by omega, HO.out, HE.out, HB.out, HGl.out⟩
    case round =>
      obtain ⟨j, Q, hg, rfl, hj, HR, HQ, HW, HG⟩ := hrel
      have Hg := Lib.hid hg
      clear hg HO HE HB HGl
      by_cases hlt : j < n
      case neg =>
        obtain rfl : j = n := by omega
        go_wp2_with fail
        go_ret
        exact ⟨_, cap, Q, rfl, HR.out, fun k hk => by injection hk with hk; subst hk; exact fun i hi => by have := HQ.out i hi; unfold loJ at this; rw [if_pos hi] at this; exact this, HW.out⟩
      have e2 : wr.cell? ⟨g, j * 4 + 2, none⟩ = some (.slice (Q j).1 (f j).ns (Q j).2.1) := by rw [HR.out.cellAt _ (by omega), outV_get f Q n j 2 hlt (by omega)]; rfl
      have e3 : wr.cell? ⟨g, j * 4 + 3, none⟩ = some (.slice (Q j).2.2.1 (f j).nb (Q j).2.2.2) := by rw [HR.out.cellAt _ (by omega), outV_get f Q n j 3 hlt (by omega)]; rfl
      have HE1 := Lib.hid (HQ.out j hlt).1.ints
      have HE2 := Lib.hid (HQ.out j hlt).2.ints
      have HL1 := Lib.hid (HH.out j hlt).1
      have HL2 := Lib.hid (HH.out j hlt).2
      have HT : Hid (∀ (A1 A2 : Option Addr) (k1 k2 : Nat), ((outV f Q n).set (j * 4 + 2) (.slice A1 (f j).ns k1)).set (j * 4 + 3) (.slice A2 (f j).nb k2) = outV f (upP Q j (A1, k1, A2, k2)) n) := fun A1 A2 k1 k2 => two_set hlt A1 A2 k1 k2
      have HN : Hid (∀ (W : World) (A1 A2 : Option Addr) (k1 k2 : Nat), ElsO W (loJ w.heap.size j) g f Q n → Els W w.heap.size g A1 (f j).ns (f j).st → Els W w.heap.size g A2 (f j).nb (f j).bk → ElsO W (loJ w.heap.size (j + 1)) g f (upP Q j (A1, k1, A2, k2)) n) := fun W A1 A2 k1 k2 h1 h2 h3 i hi => by
        unfold upP
        by_cases hij : i = j
        · subst hij; rw [if_pos rfl]; unfold loJ; rw [if_pos (by omega)]; exact ⟨h2, h3⟩
        · rw [if_neg hij]
          have := h1 i hi
          unfold loJ at this ⊢
          by_cases h5 : i < j
          · rw [if_pos h5] at this; rw [if_pos (by omega)]; exact this
          · rw [if_neg h5] at this; rw [if_neg (by omega)]; exact this
      generalize (Q j).1 = A1 at *
      generalize (Q j).2.1 = k1 at *
      generalize (Q j).2.2.1 = A2 at *
      generalize (Q j).2.2.2 = k2 at *
      generalize (f j).ns = n1 at *
      generalize (f j).nb = n2 at *
      generalize (f j).st = s1 at *
      generalize (f j).bk = s2 at *
      go_upto_region 5 with fail
      have HS0 : (fun W : World => W.cell? ⟨g, j * 4 + 2, none⟩ = some (.slice A1 n1 k1) ∧ W.cell? ⟨g, j * 4 + 3, none⟩ = some (.slice A2 n2 k2)) wr.drew := ⟨e2, e3⟩
      refine Pb.wp_region_U ((fun i => decide (i = 0 ∨ i = 1 ∨ (4 ≤ i ∧ i ≤ 9) ∨ i = 14 ∨ i = 15))) (fun W : World => W.cell? ⟨g, j * 4 + 2, none⟩ = some (.slice A1 n1 k1) ∧ W.cell? ⟨g, j * 4 + 3, none⟩ = some (.slice A2 n2 k2)) (by kernel_rfl) ?_
      change Pb.wpU _ _ _ _ _ _ 22 #[false, false, false, false, false, false, false, false, false, false, false, false, false, false, false, false, false, false, false, false, false, false] _ _
      refine Pb.U_pure (i := 2) (oi := { dst := some 14, op := .move (.tmp 0), type := 23, pos := "book.go:447", after := #[{ on := 18, ground := .gcOnly .lateStores }], guard := none }) (v := .slice (some ⟨g, 0, none⟩) n cap) rfl (by kernel_rfl) (by kernel_rfl) (by kernel_rfl) (by decide) (fun _ _ _ h => h) (Or.inl ⟨by rfl, ?_⟩) ?_
      · intro W hSw; (try dsimp only at hSw); go_simp
      simp only [Act.put, List.setIfInBounds_toArray, List.set_cons_zero, List.set_cons_succ]
      refine Pb.U_pure (i := 3) (oi := { dst := some 15, op := .move (.tmp 3), type := 3, pos := "book.go:447", after := #[{ on := 18, ground := .gcOnly .lateStores }], guard := none }) (v := .int .i64 (j : Int)) rfl (by kernel_rfl) (by kernel_rfl) (by kernel_rfl) (by decide) (fun _ _ _ h => h) (Or.inl ⟨by rfl, ?_⟩) ?_
      · intro W hSw; (try dsimp only at hSw); go_simp
      simp only [Act.put, List.setIfInBounds_toArray, List.set_cons_zero, List.set_cons_succ]
      refine Pb.U_pure (i := 10) (oi := { dst := some 22, op := .move (.tmp 0), type := 23, pos := "book.go:447", after := #[], guard := none }) (v := .slice (some ⟨g, 0, none⟩) n cap) rfl (by kernel_rfl) (by kernel_rfl) (by kernel_rfl) (by decide) (fun _ _ _ h => h) (Or.inl ⟨by rfl, ?_⟩) ?_
      · intro W hSw; (try dsimp only at hSw); go_simp
      simp only [Act.put, List.setIfInBounds_toArray, List.set_cons_zero, List.set_cons_succ]
      refine Pb.U_pure (i := 11) (oi := { dst := some 23, op := .move (.tmp 3), type := 3, pos := "book.go:447", after := #[], guard := none }) (v := .int .i64 (j : Int)) rfl (by kernel_rfl) (by kernel_rfl) (by kernel_rfl) (by decide) (fun _ _ _ h => h) (Or.inl ⟨by rfl, ?_⟩) ?_
      · intro W hSw; (try dsimp only at hSw); go_simp
      simp only [Act.put, List.setIfInBounds_toArray, List.set_cons_zero, List.set_cons_succ]
      refine Pb.U_pure (i := 12) (oi := { dst := some 24, op := .indexAddr 23 (.tmp 22) (.tmp 23), type := 0, pos := "book.go:447", after := #[{ on := 10, ground := .data }, { on := 11, ground := .data }], guard := none }) (v := .pointer (some ⟨g, j * 4, none⟩)) rfl (by kernel_rfl) (by kernel_rfl) (by kernel_rfl) (by decide) (fun _ _ _ h => h) (Or.inl ⟨by rfl, ?_⟩) ?_
      · intro W hSw; (try dsimp only at hSw); go_simp
      simp only [Act.put, List.setIfInBounds_toArray, List.set_cons_zero, List.set_cons_succ]
      refine Pb.U_pure (i := 13) (oi := { dst := some 25, op := .fieldAddr 50 (.tmp 24) 3, type := 0, pos := "book.go:447", after := #[{ on := 12, ground := .data }], guard := none }) (v := .pointer (some ⟨g, j * 4 + 3, none⟩)) rfl (by kernel_rfl) (by kernel_rfl) (by kernel_rfl) (by decide) (fun _ _ _ h => h) (Or.inl ⟨by rfl, ?_⟩) ?_
      · intro W hSw; (try dsimp only at hSw); go_simp
      simp only [Act.put, List.setIfInBounds_toArray, List.set_cons_zero, List.set_cons_succ]
      refine Pb.U_take (i := 0) (oi := { dst := some 12, op := .move (.tmp 0), type := 23, pos := "book.go:447", after := #[], guard := none }) (v := .slice (some ⟨g, 0, none⟩) n cap) rfl (by kernel_rfl) (by kernel_rfl) (by kernel_rfl) (by kernel_rfl) (fun _ _ _ h => h) (Or.inl ⟨by rfl, ?_⟩) (by assumption) ?_
      · intro W hSw; (try dsimp only at hSw); go_simp
      simp only [Act.put, List.setIfInBounds_toArray, List.set_cons_zero, List.set_cons_succ]
      refine Pb.U_take (i := 1) (oi := { dst := some 13, op := .move (.tmp 3), type := 3, pos := "book.go:447", after := #[], guard := none }) (v := .int .i64 (j : Int)) rfl (by kernel_rfl) (by kernel_rfl) (by kernel_rfl) (by kernel_rfl) (fun _ _ _ h => h) (Or.inl ⟨by rfl, ?_⟩) (by assumption) ?_
      · intro W hSw; (try dsimp only at hSw); go_simp
      simp only [Act.put, List.setIfInBounds_toArray, List.set_cons_zero, List.set_cons_succ]
      refine Pb.U_take (i := 4) (oi := { dst := some 16, op := .move (.tmp 0), type := 23, pos := "book.go:447", after := #[], guard := none }) (v := .slice (some ⟨g, 0, none⟩) n cap) rfl (by kernel_rfl) (by kernel_rfl) (by kernel_rfl) (by kernel_rfl) (fun _ _ _ h => h) (Or.inl ⟨by rfl, ?_⟩) (by assumption) ?_
      · intro W hSw; (try dsimp only at hSw); go_simp
      simp only [Act.put, List.setIfInBounds_toArray, List.set_cons_zero, List.set_cons_succ]
      refine Pb.U_take (i := 5) (oi := { dst := some 17, op := .move (.tmp 3), type := 3, pos := "book.go:447", after := #[], guard := none }) (v := .int .i64 (j : Int)) rfl (by kernel_rfl) (by kernel_rfl) (by kernel_rfl) (by kernel_rfl) (fun _ _ _ h => h) (Or.inl ⟨by rfl, ?_⟩) (by assumption) ?_
      · intro W hSw; (try dsimp only at hSw); go_simp
      simp only [Act.put, List.setIfInBounds_toArray, List.set_cons_zero, List.set_cons_succ]
      refine Pb.U_take (i := 6) (oi := { dst := some 18, op := .indexAddr 23 (.tmp 16) (.tmp 17), type := 0, pos := "book.go:447", after := #[{ on := 4, ground := .data }, { on := 5, ground := .data }], guard := none }) (v := .pointer (some ⟨g, j * 4, none⟩)) rfl (by kernel_rfl) (by kernel_rfl) (by kernel_rfl) (by kernel_rfl) (fun _ _ _ h => h) (Or.inl ⟨by rfl, ?_⟩) (by assumption) ?_
      · intro W hSw; (try dsimp only at hSw); go_simp
      simp only [Act.put, List.setIfInBounds_toArray, List.set_cons_zero, List.set_cons_succ]
      refine Pb.U_take (i := 7) (oi := { dst := some 19, op := .fieldAddr 50 (.tmp 18) 2, type := 0, pos := "book.go:447", after := #[{ on := 6, ground := .data }], guard := none }) (v := .pointer (some ⟨g, j * 4 + 2, none⟩)) rfl (by kernel_rfl) (by kernel_rfl) (by kernel_rfl) (by kernel_rfl) (fun _ _ _ h => h) (Or.inl ⟨by rfl, ?_⟩) (by assumption) ?_
      · intro W hSw; (try dsimp only at hSw); go_simp
      simp only [Act.put, List.setIfInBounds_toArray, List.set_cons_zero, List.set_cons_succ]
      refine Pb.U_take (i := 8) (oi := { dst := some 20, op := .load 24 (.tmp 19), type := 24, pos := "book.go:447", after := #[{ on := 7, ground := .data }], guard := none }) (v := .slice A1 n1 k1) rfl (by kernel_rfl) (by kernel_rfl) (by kernel_rfl) (by kernel_rfl) (fun _ _ _ h => h) (Or.inl ⟨by rfl, ?_⟩) (by assumption) ?_
      · intro W hSw; (try dsimp only at hSw); go_simp
      simp only [Act.put, List.setIfInBounds_toArray, List.set_cons_zero, List.set_cons_succ]
      refine Pb.U_take (i := 14) (oi := { dst := some 26, op := .load 24 (.tmp 25), type := 24, pos := "book.go:447", after := #[{ on := 13, ground := .data }], guard := none }) (v := .slice A2 n2 k2) rfl (by kernel_rfl) (by kernel_rfl) (by kernel_rfl) (by kernel_rfl) (fun _ _ _ h => h) (Or.inl ⟨by rfl, ?_⟩) (by assumption) ?_
      · intro W hSw; (try dsimp only at hSw); go_simp
      simp only [Act.put, List.setIfInBounds_toArray, List.set_cons_zero, List.set_cons_succ]
      refine Pb.U_ready (rs := [9]) (by kernel_rfl) (by simp) ?_
      refine Pb.AllReadyU.cons rfl (fun K hK => ?_) Pb.AllReadyU.nil
      go_simp
      refine (copy_ints A1 n1 k1 s1 wr.heap.size wr.drew HE1.out (by have := HL1.out; omega)).mono ?_
      rintro e w2 ⟨A1', k1', rfl, ho1, hb1⟩
      have HS2 : (fun W : World => W.cell? ⟨g, j * 4 + 2, none⟩ = some (.slice A1 n1 k1) ∧ W.cell? ⟨g, j * 4 + 3, none⟩ = some (.slice A2 n2 k2)) w2 := ⟨(hb1.cell (p := ⟨g, _, none⟩) HG.out).trans e2, (hb1.cell (p := ⟨g, _, none⟩) HG.out).trans e3⟩
      have HO1 := Lib.hid ho1
      have HB1 : Hid (Below wr.heap.size wr w2) := ⟨hb1.os, hb1.tape, hb1.output, hb1.size, hb1.block⟩
      clear ho1 hb1
      refine hK.out _ _ (fun _ => HS2) ?_
      clear hK K
      simp only [Act.put, List.setIfInBounds_toArray, List.set_cons_zero, List.set_cons_succ]
      refine Pb.U_ready (rs := [15]) (by kernel_rfl) (by simp) ?_
      refine Pb.AllReadyU.cons rfl (fun K hK => ?_) Pb.AllReadyU.nil
      go_simp
      refine (copy_ints A2 n2 k2 s2 wr.heap.size w2 (HE2.out.below HB1.out) (by have := HL2.out; omega)).mono ?_
      rintro e w3 ⟨A2', k2', rfl, ho2, hb2⟩
      have HS3 : (fun W : World => W.cell? ⟨g, j * 4 + 2, none⟩ = some (.slice A1 n1 k1) ∧ W.cell? ⟨g, j * 4 + 3, none⟩ = some (.slice A2 n2 k2)) w3 := ⟨(hb2.cell (p := ⟨g, _, none⟩) (Nat.lt_of_lt_of_le HG.out HB1.out.size)).trans HS2.1, (hb2.cell (p := ⟨g, _, none⟩) (Nat.lt_of_lt_of_le HG.out HB1.out.size)).trans HS2.2⟩
      have HO2 := Lib.hid ho2
      have HB2 := Lib.hid hb2
      have HR3 : Hid (w3.ownsRow w.heap.size 50 4 (.slice (some ⟨g, 0, none⟩) n cap) n (outV f Q n)) := own_touch (own_touch HR.out (Touch.of_below HB1.out (fun _ => False)) (fun _ _ h => h)) (Touch.of_below HB2.out (fun _ => False)) (fun _ _ h => h)
      clear ho2 hb2
      have z2 : w3.frozen? ⟨g, j * 4 + 2, none⟩ = false := HR3.out.frozenAt _
      have z3 : (w3.setCell ⟨g, j * 4 + 2, none⟩ (.slice A1' n1 k1')).frozen? ⟨g, j * 4 + 3, none⟩ = false := (HR3.out.stored _ _).1.frozenAt _
      have y2 := HS3.1
      have y3 : (w3.setCell ⟨g, j * 4 + 2, none⟩ (.slice A1' n1 k1')).cell? ⟨g, j * 4 + 3, none⟩ = some (.slice A2 n2 k2) := by
        rw [(HR3.out.stored (j * 4 + 2) (.slice A1' n1 k1')).1.cellAt _ (by omega), List.getElem?_set_ne (by omega), ← HR3.out.cellAt _ (by omega)]
        exact HS3.2
      refine hK.out _ _ (fun _ => HS3) ?_
      clear hK K
      simp only [Act.put, List.setIfInBounds_toArray, List.set_cons_zero, List.set_cons_succ]
      clear HS0 HS2 HS3 e2 e3
      refine Pb.U_pure (i := 16) (oi := { dst := some 28, op := .indexAddr 23 (.tmp 12) (.tmp 13), type := 0, pos := "book.go:447", after := #[{ on := 0, ground := .data }, { on := 1, ground := .data }, { on := 0, ground := .phase }, { on := 1, ground := .phase }, { on := 2, ground := .textOnly .lateStores }, { on := 3, ground := .textOnly .lateStores }, { on := 4, ground := .phase }, { on := 5, ground := .phase }, { on := 6, ground := .phase }, { on := 7, ground := .phase }, { on := 8, ground := .phase }, { on := 9, ground := .phase }, { on := 10, ground := .textOnly .lateStores }, { on := 11, ground := .textOnly .lateStores }, { on := 12, ground := .textOnly .lateStoresUnsure }, { on := 13, ground := .textOnly .lateStoresUnsure }, { on := 14, ground := .phase }, { on := 15, ground := .phase }], guard := none }) (v := .pointer (some ⟨g, j * 4, none⟩)) rfl (by kernel_rfl) (by kernel_rfl) (by kernel_rfl) (by decide) (fun _ _ _ h => h) (Or.inl ⟨by rfl, ?_⟩) ?_
      · intro W hSw; (try dsimp only at hSw); go_simp
      simp only [Act.put, List.setIfInBounds_toArray, List.set_cons_zero, List.set_cons_succ]
      refine Pb.U_pure (i := 17) (oi := { dst := some 29, op := .fieldAddr 50 (.tmp 28) 2, type := 0, pos := "book.go:447", after := #[{ on := 16, ground := .data }, { on := 0, ground := .phase }, { on := 1, ground := .phase }, { on := 2, ground := .textOnly .lateStores }, { on := 3, ground := .textOnly .lateStores }, { on := 4, ground := .phase }, { on := 5, ground := .phase }, { on := 6, ground := .phase }, { on := 7, ground := .phase }, { on := 8, ground := .phase }, { on := 9, ground := .phase }, { on := 10, ground := .textOnly .lateStores }, { on := 11, ground := .textOnly .lateStores }, { on := 12, ground := .textOnly .lateStoresUnsure }, { on := 13, ground := .textOnly .lateStoresUnsure }, { on := 14, ground := .phase }, { on := 15, ground := .phase }], guard := none }) (v := .pointer (some ⟨g, j * 4 + 2, none⟩)) rfl (by kernel_rfl) (by kernel_rfl) (by kernel_rfl) (by decide) (fun _ _ _ h => h) (Or.inl ⟨by rfl, ?_⟩) ?_
      · intro W hSw; (try dsimp only at hSw); go_simp
      simp only [Act.put, List.setIfInBounds_toArray, List.set_cons_zero, List.set_cons_succ]
      refine Pb.U_ready (rs := [18]) (by kernel_rfl) (by simp) ?_
      refine Pb.AllReadyU.cons rfl (fun K hK => ?_) Pb.AllReadyU.nil
      go_simp
      refine hK.out _ _ (fun h => absurd h (by decide)) ?_
      clear hK K
      simp only [Act.put, List.setIfInBounds_toArray, List.set_cons_zero, List.set_cons_succ]
      refine Pb.U_pure (i := 19) (oi := { dst := some 30, op := .indexAddr 23 (.tmp 14) (.tmp 15), type := 0, pos := "book.go:447", after := #[{ on := 2, ground := .data }, { on := 3, ground := .data }, { on := 0, ground := .phase }, { on := 1, ground := .phase }, { on := 2, ground := .phase }, { on := 3, ground := .phase }, { on := 4, ground := .phase }, { on := 5, ground := .phase }, { on := 6, ground := .phase }, { on := 7, ground := .phase }, { on := 8, ground := .phase }, { on := 9, ground := .phase }, { on := 10, ground := .phase }, { on := 11, ground := .phase }, { on := 12, ground := .phase }, { on := 13, ground := .phase }, { on := 14, ground := .phase }, { on := 15, ground := .phase }, { on := 16, ground := .phase }, { on := 17, ground := .phase }, { on := 18, ground := .phase }], guard := none }) (v := .pointer (some ⟨g, j * 4, none⟩)) rfl (by kernel_rfl) (by kernel_rfl) (by kernel_rfl) (by decide) (fun _ _ _ h => h) (Or.inl ⟨by rfl, ?_⟩) ?_
      · intro W hSw; (try dsimp only at hSw); go_simp
      simp only [Act.put, List.setIfInBounds_toArray, List.set_cons_zero, List.set_cons_succ]
      refine Pb.U_pure (i := 20) (oi := { dst := some 31, op := .fieldAddr 50 (.tmp 30) 3, type := 0, pos := "book.go:447", after := #[{ on := 19, ground := .data }, { on := 0, ground := .phase }, { on := 1, ground := .phase }, { on := 2, ground := .phase }, { on := 3, ground := .phase }, { on := 4, ground := .phase }, { on := 5, ground := .phase }, { on := 6, ground := .phase }, { on := 7, ground := .phase }, { on := 8, ground := .phase }, { on := 9, ground := .phase }, { on := 10, ground := .phase }, { on := 11, ground := .phase }, { on := 12, ground := .phase }, { on := 13, ground := .phase }, { on := 14, ground := .phase }, { on := 15, ground := .phase }, { on := 16, ground := .phase }, { on := 17, ground := .phase }, { on := 18, ground := .phase }], guard := none }) (v := .pointer (some ⟨g, j * 4 + 3, none⟩)) rfl (by kernel_rfl) (by kernel_rfl) (by kernel_rfl) (by decide) (fun _ _ _ h => h) (Or.inl ⟨by rfl, ?_⟩) ?_
      · intro W hSw; (try dsimp only at hSw); go_simp
      simp only [Act.put, List.setIfInBounds_toArray, List.set_cons_zero, List.set_cons_succ]
      refine Pb.U_ready (rs := [21]) (by kernel_rfl) (by simp) ?_
      refine Pb.AllReadyU.cons rfl (fun K hK => ?_) Pb.AllReadyU.nil
      go_simp
      refine hK.out _ _ (fun h => absurd h (by decide)) ?_
      clear hK K
      simp only [Act.put, List.setIfInBounds_toArray, List.set_cons_zero, List.set_cons_succ]
      refine Pb.U_done (by kernel_rfl) ?_ _
      go_simp
      have R4 := (HR3.out.stored (j * 4 + 2) (.slice A1' n1 k1')).1.stored (j * 4 + 3) (.slice A2' n2 k2')
      have R3 := (HR3.out.stored (j * 4 + 2) (.slice A1' n1 k1')).2
      have T4 : Touch w3 ((w3.setCell ⟨g, j * 4 + 2, none⟩ (.slice A1' n1 k1')).setCell ⟨g, j * 4 + 3, none⟩ (.slice A2' n2 k2')) (fun k => k = g) := (Touch.of_grown R3 (fun k e => .inl (by injection e with e; exact e.symm))).trans (Touch.of_grown R4.2 (fun k e => .inl (by injection e with e; exact e.symm))) (fun _ h => .inl h)
      have HR4 := R4.1
      rw [HT.out A1' A2' k1' k2'] at HR4
      have HR5 := Lib.hid HR4
      have hgw2 : g < w2.heap.size := Nat.lt_of_lt_of_le HG.out HB1.out.size
      have hgw3 : g < w3.heap.size := Nat.lt_of_lt_of_le hgw2 HB2.out.size
      have HE5 := Lib.hid (HN.out _ A1' A2' k1' k2' (((HQ.out.touch (Touch.of_below HB1.out (fun _ => False)) (fun _ h => h.elim)).touch (Touch.of_below HB2.out (fun _ => False)) (fun _ h => h.elim)).touch T4 (fun _ h => .inl h)) (((Els.row HO1.out HG.out HW.out.size).touch (Touch.of_below HB2.out (fun _ => False)) (fun _ h => h.elim)).touch T4 (fun _ h => .inl h)) ((Els.row HO2.out hgw2 (Nat.le_trans HW.out.size HB1.out.size)).touch T4 (fun _ h => .inl h)))
      have HW5 : Hid (Below w.heap.size w ((w3.setCell ⟨g, j * 4 + 2, none⟩ (.slice A1' n1 k1')).setCell ⟨g, j * 4 + 3, none⟩ (.slice A2' n2 k2'))) := (HW.out.trans ((HB1.out.trans (HB2.out.mono HB1.out.size)).mono HW.out.size)).trans (T4.below (fun k e => by subst e; exact HG0.out) (Nat.le_trans HW.out.size (Nat.le_trans HB1.out.size HB2.out.size)))
      have HG5 : Hid (g < ((w3.setCell ⟨g, j * 4 + 2, none⟩ (.slice A1' n1 k1')).setCell ⟨g, j * 4 + 3, none⟩ (.slice A2' n2 k2')).heap.size) := Nat.lt_of_lt_of_le hgw3 T4.size
      clear HR4 R3 R4 T4 HR3 hgw2 hgw3 HO1 HO2 HB1 HB2 HN HT HE1 HE2 HQ HR z2 z3 y2 y3
      generalize ((w3.setCell ⟨g, j * 4 + 2, none⟩ (.slice A1' n1 k1')).setCell ⟨g, j * 4 + 3, none⟩ (.slice A2' n2 k2')) = w5 at *
      go_wp2_with fail
      go_roundg (n - (j + 1))
      case rel => exact ⟨j + 1, _, rfl, by go_num, by omega, HR5.out, HE5.out, HW5.out, HG5.out⟩
      case measure => have := Hg.out; omega
end Go.Proofs.YtoaidcjjjoafjaaGreatDoor.Ir
