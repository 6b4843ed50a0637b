/-
  The document's book: lists and traces that are lent, and stay.
-/
import Derived.Test.YtoaidcjjjoafjaaGreatDoorIrV
import Derived.Test.YtoaidcjjjoafjaaGreatDoorIrG
set_option linter.unusedVariables false
set_option linter.unusedSimpArgs false
set_option linter.unnecessarySimpa false
set_option linter.deprecated false
namespace Go.Proofs.YtoaidcjjjoafjaaGreatDoor.Ir
open Go.RowKit

def insV (f : Nat → Ins) : Nat → List Value
  | 0 => []
  | n + 1 => insV f n ++ (insCells (f n)).toList
theorem insV_len (f : Nat → Ins) : ∀ n, (insV f n).length = n * 5
  | 0 => rfl
  | n + 1 => by
    unfold insV
    rw [List.length_append, insV_len f n]
    show n * 5 + 5 = _
    omega
theorem insV_get (f : Nat → Ins) : ∀ n i t, i < n → t < 5 → (insV f n)[i * 5 + t]? = (insCells (f i)).toList[t]?
  | 0, i, t, h, _ => by omega
  | n + 1, i, t, h, ht => by
    unfold insV
    by_cases hi : i = n
    · subst hi
      rw [List.getElem?_append_right (by rw [insV_len]; omega), insV_len]
      congr 1
      omega
    · rw [List.getElem?_append_left (by rw [insV_len]; omega)]
      exact insV_get f n i t (by omega) ht
theorem insV_one (f : Nat → Ins) : ∀ n, ∀ u ∈ insV f n, u.oneCell' = true
  | 0 => fun u hu => by cases hu
  | n + 1 => fun u hu => by
    unfold insV at hu
    rcases List.mem_append.1 hu with hu | hu
    · exact insV_one f n u hu
    · simp [insCells] at hu
      rcases hu with rfl | rfl | rfl | rfl | rfl <;> rfl
theorem insV_reads {W : World} {B n : Nat} {A : Option Addr} {f : Nat → Ins} (h : InsAt W B A n f) : Reads W B 5 A n (insV f n) := by
  refine ⟨insV_len f n, fun hn => ?_⟩
  obtain ⟨b, off, rfl, hb, hc⟩ := h.resolve_left (by omega)
  refine ⟨_, rfl, hb, fun j u hu => ?_⟩
  have hj : j < n * 5 := by rw [← insV_len f n]; exact (List.getElem?_eq_some_iff.1 hu).1
  obtain ⟨x0, x1, x2, x3, x4⟩ := hc (j / 5) (by omega)
  rw [WideShapes.add_plain]
  have hd : j = j / 5 * 5 + j % 5 := by omega
  have ht : j % 5 < 5 := by omega
  rw [hd, insV_get f n (j / 5) (j % 5) (by omega) ht] at hu
  rw [hd]
  generalize j / 5 = q at *
  generalize j % 5 = t at *
  obtain rfl | rfl | rfl | rfl | rfl : t = 0 ∨ t = 1 ∨ t = 2 ∨ t = 3 ∨ t = 4 := by omega
  · simp [insCells] at hu; subst hu; exact x0
  · simp [insCells] at hu; subst hu; rw [← Nat.add_assoc]; exact x1
  · simp [insCells] at hu; subst hu; rw [← Nat.add_assoc]; exact x2
  · simp [insCells] at hu; subst hu; rw [← Nat.add_assoc]; exact x3
  · simp [insCells] at hu; subst hu; rw [← Nat.add_assoc]; exact x4
theorem infoIns : (Tryz.prog.info? 42).map (fun i => (i.zero, i.size, i.bytes)) = some (some (.agg #[.int .i64 0, .int .i64 0, .int .i64 0, .int .i64 0, .int .i64 0]), 5, 40) := by kernel_rfl
theorem OutsAt.up {W : World} {B B' n : Nat} {A : Option Addr} {f : Nat → Ou} (h : OutsAt W B A n f) (hB : B ≤ B') : OutsAt W B' A n f := by
  refine h.imp id fun ⟨b, off, h3, h4, h5⟩ => ⟨b, off, h3, Nat.lt_of_lt_of_le h4 hB, fun i hi => ?_⟩
  obtain ⟨v0, v1, v2, v3, x, r⟩ := h5 i hi
  exact ⟨v0, v1, v2, v3, x.up hB, r⟩

def intV (f : Nat → Int) (n : Nat) : List Value := (List.range n).map fun i => .int .i64 (f i)
theorem intV_len (f : Nat → Int) (n : Nat) : (intV f n).length = n := by simp [intV]
theorem intV_get (f : Nat → Int) {n i : Nat} (h : i < n) : (intV f n)[i]? = some (.int .i64 (f i)) := by simp [intV, h]
theorem intV_one (f : Nat → Int) (n : Nat) : ∀ u ∈ intV f n, u.oneCell' = true := by
  intro u hu
  simp [intV] at hu
  obtain ⟨i, _, rfl⟩ := hu
  rfl
theorem intV_reads {W : World} {B n : Nat} {A : Option Addr} {f : Nat → Int} (h : IntsAt W B A n f) : Reads W B 1 A n (intV f n) := by
  refine ⟨by rw [intV_len]; omega, fun hn => ?_⟩
  obtain ⟨b, off, rfl, hb, hc⟩ := h.resolve_left (by omega)
  refine ⟨_, rfl, hb, fun j u hu => ?_⟩
  have hj : j < n := by rw [← intV_len f n]; exact (List.getElem?_eq_some_iff.1 hu).1
  rw [intV_get f hj] at hu
  injection hu with hu
  subst hu
  rw [WideShapes.add_plain]
  exact hc j hj
theorem infoInt : (Tryz.prog.info? 3).map (fun i => (i.zero, i.size, i.bytes)) = some (some (.int .i64 0), 1, 8) := by kernel_rfl
theorem infoOut : (Tryz.prog.info? 50).map (fun i => (i.zero, i.size, i.bytes)) = some (some (.agg #[.int .i64 0, .int .i64 0, .slice none 0 0, .slice none 0 0]), 4, 64) := by kernel_rfl

/-- A row, and one more behind it: where it lies. -/
theorem lent_row {W : World} {base n sz c : Nat} {e : TypeId} {A : Option Addr} {xs ys : List Value} (h : W.ownsRow base e sz (.slice A (n + 1) c) (n + 1) (xs ++ ys)) (hx : xs.length = n * sz) (hsz : 0 < sz) :
    ∃ g, A = some ⟨g, 0, none⟩ ∧ base ≤ g ∧ g < W.heap.size ∧ n + 1 ≤ c ∧ (∀ j u, xs[j]? = some u → W.cell? ⟨g, j, none⟩ = some u) ∧ ∀ t, W.cell? ⟨g, n * sz + t, none⟩ = ys[t]? ∨ sz ≤ t := by
  obtain ⟨g, c2, hA, hg, hgl⟩ := World.ownsRow.form h (by omega)
  injection hA with hA _ hc
  subst hA
  have hcap : n + 1 ≤ c := by
    rcases h.2 with ⟨h0, _⟩ | ⟨_, cap', _, hv, _, _, hnc, _⟩
    · cases h0
    · injection hv with _ _ h2; omega
  refine ⟨g, rfl, hg, hgl, hcap, fun j u hu => ?_, fun t => ?_⟩
  · have hj : j < xs.length := (List.getElem?_eq_some_iff.1 hu).1
    have : (n + 1) * sz = n * sz + sz := by rw [Nat.add_mul, Nat.one_mul]
    rw [h.cellAt j (by omega), List.getElem?_append_left hj, hu]
  · by_cases ht : t < sz
    · left
      have : (n + 1) * sz = n * sz + sz := by rw [Nat.add_mul, Nat.one_mul]
      rw [h.cellAt _ (by omega), List.getElem?_append_right (by omega), hx, Nat.add_sub_cancel_left]
    · right; omega

set_option maxHeartbeats 4000000 in
set_option maxRecDepth 100000 in
theorem copy_ints (A : Option Addr) (n c : Nat) (f : Nat → Int) (B : Nat) (w : World) (h : IntsAt w B A n f) (hn : n ≤ 5000) :
    Calls Tryz.prog 44 #[.slice A n c] w fun e w' => ∃ A' c', e = .returned (.slice A' n c') ∧ w'.ownsRow w.heap.size 3 1 (.slice A' n c') n (intV f n) ∧ Below w.heap.size w w' := by
  obtain ⟨i0, hi0, hz0, hz1, hz2⟩ := info_parts infoInt
  go_enter Tryz.func44, Tryz.ntmps44
  go_wp2_with (at_builtin; refine wpList_append_any _ rfl _ _ 24 rfl w.heap.size 3 i0 (.int .i64 0) 1 8 Tryz.underlying24 hi0 hz0 hz1 hz2 rfl (by decide) (.slice none 0 0) 0 [] rfl (World.ownsRow_nil _ _ _ _) B A n c (intV f n) rfl (intV_reads h) (intV_one f n) (by unfold maxLen; omega) (by omega) (Nat.le_refl _) ?_)
  intro v' w2 ho2 hg2 _
  have hb := (Below.refl w.heap.size w).grown hg2 (Nat.le_refl _) (fun k hk => by simp [Value.ownBlock] at hk)
  obtain ⟨A', c', hv⟩ := own_slice ho2
  go_wp2_with fail
  go_ret
  rw [hv] at ho2 ⊢
  exact ⟨A', c', by simp, by simpa using ho2, hb⟩
set_option maxHeartbeats 4000000 in
set_option maxRecDepth 100000 in
theorem lent_ints (A : Option Addr) (n c : Nat) (f : Nat → Int) (B : Nat) (w : World) (h : IntsAt w B A n f) (hn : n ≤ 300) :
    Calls Tryz.prog 27 #[.slice A n c] w fun e w' => ∃ g c', e = .returned (.slice (some ⟨g, 0, none⟩) n c') ∧ (∀ W', Touch w' W' (fun k => k < w.heap.size) → IntsAt W' W'.heap.size (some ⟨g, 0, none⟩) n f ∧ W'.cell? ⟨g, n, none⟩ = some (.int .i64 (-77))) ∧ n + 1 ≤ c' ∧ Below w.heap.size w w' := by
  obtain ⟨i0, hi0, hz0, hz1, hz2⟩ := info_parts infoInt
  have HC := Lib.hid (copy_ints A n c f B w h (by omega))
  clear h
  go_enter Tryz.func27, Tryz.ntmps27
  go_wp2_with fail
  refine HC.out.mono ?_
  rintro e w1 ⟨A1, c1, rfl, ho1, hb1⟩
  have hoa := own_touch ho1 (alloc_touch w1 (.cells #[.int .i64 (-77)] 3) (fun _ => False)) (fun _ _ h => h)
  go_wp2_with (at_builtin; refine wpList_append_any _ rfl _ _ 24 rfl w.heap.size 3 i0 (.int .i64 0) 1 8 Tryz.underlying24 hi0 hz0 hz1 hz2 rfl (by decide) (.slice A1 n c1) n (intV f n) rfl hoa (w1.heap.size + 1) (some ⟨w1.heap.size, 0, none⟩) 1 1 [.int .i64 (-77)] rfl ⟨rfl, fun _ => ⟨_, rfl, Nat.lt_succ_self _, cell_one_new _ _ _⟩⟩ (by intro u hu; simp at hu; subst hu; rfl) (by unfold maxLen; omega) (by omega) (by have := hb1.size; simp; omega) ?_)
  intro v' w2 ho2 hg2 _
  obtain ⟨A', c', rfl⟩ := own_slice ho2
  have hb2 : Below w.heap.size w w2 := (hb1.alloc hb1.size _).grown hg2 (by have := hb1.size; simp; omega) (fun k hk => (hoa.lt k hk).1)
  obtain ⟨g, rfl, hg, hgl, hcap, hx, hy⟩ := lent_row ho2 (by rw [intV_len]; omega) (by omega)
  have HI : Hid (∀ W', Touch w2 W' (fun k => k < w.heap.size) → IntsAt W' W'.heap.size (some ⟨g, 0, none⟩) n f ∧ W'.cell? ⟨g, n, none⟩ = some (.int .i64 (-77))) := by
    refine Lib.hid fun W' T => ?_
    have ho3 := own_touch ho2 T (fun k hk h => by injection hk with hk; subst hk; dsimp only at h; omega)
    obtain ⟨g', e, _, hgl', _, hx', hy'⟩ := lent_row ho3 (by rw [intV_len]; omega) (by omega)
    injection e with e
    injection e with e
    subst e
    refine ⟨.inr ⟨g, 0, rfl, hgl', fun i hi => by rw [Nat.zero_add]; exact hx' i _ (intV_get f hi)⟩, ?_⟩
    have := (hy' 0).resolve_right (by omega)
    simpa using this
  have HB := Lib.hid hb2
  have i1 : (n : Int) ≤ (c' : Int) := by omega
  have HCap := Lib.hid hcap
  clear ho1 hb1 hoa ho2 hg2 hb2 hx hy hcap
  go_wp2_with fail
  go_ret
  exact ⟨g, c', rfl, HI.out, HCap.out, HB.out⟩
set_option maxHeartbeats 4000000 in
set_option maxRecDepth 100000 in
theorem copy_codes (A : Option Addr) (n c : Nat) (f : Nat → Ins) (B : Nat) (w : World) (h : InsAt w B A n f) (hn : n ≤ 5000) :
    Calls Tryz.prog 76 #[.slice A n c] w fun e w' => ∃ A' c', e = .returned (.slice A' n c') ∧ w'.ownsRow w.heap.size 42 5 (.slice A' n c') n (insV f n) ∧ Below w.heap.size w w' := by
  obtain ⟨i0, hi0, hz0, hz1, hz2⟩ := info_parts infoIns
  go_enter Tryz.func76, Tryz.ntmps76
  go_wp2_with (at_builtin; refine wpList_append_any _ rfl _ _ 22 rfl w.heap.size 42 i0 (.agg #[.int .i64 0, .int .i64 0, .int .i64 0, .int .i64 0, .int .i64 0]) 5 40 Tryz.underlying22 hi0 hz0 hz1 hz2 rfl (by decide) (.slice none 0 0) 0 [] rfl (World.ownsRow_nil _ _ _ _) B A n c (insV f n) rfl (insV_reads h) (insV_one f n) (by unfold maxLen; omega) (by omega) (Nat.le_refl _) ?_)
  intro v' w2 ho2 hg2 _
  have hb := (Below.refl w.heap.size w).grown hg2 (Nat.le_refl _) (fun k hk => by simp [Value.ownBlock] at hk)
  obtain ⟨A', c', hv⟩ := own_slice ho2
  go_wp2_with fail
  go_ret
  rw [hv] at ho2 ⊢
  exact ⟨A', c', by simp, by simpa using ho2, hb⟩
theorem insAt_of {W : World} {g n : Nat} {f : Nat → Ins} (hg : g < W.heap.size) (h : ∀ j u, (insV f n)[j]? = some u → W.cell? ⟨g, j, none⟩ = some u) : InsAt W W.heap.size (some ⟨g, 0, none⟩) n f := by
  refine .inr ⟨g, 0, rfl, hg, fun i hi => ?_⟩
  have hc : ∀ t, t < 5 → ∀ u, (insCells (f i)).toList[t]? = some u → W.cell? ⟨g, 0 + (i * 5 + t), none⟩ = some u := fun t ht u hu => by
    rw [Nat.zero_add]
    refine h _ u ?_
    rw [insV_get f n i t hi ht, hu]
  exact ⟨hc 0 (by omega) _ rfl, hc 1 (by omega) _ rfl, hc 2 (by omega) _ rfl, hc 3 (by omega) _ rfl, hc 4 (by omega) _ rfl⟩
set_option maxHeartbeats 4000000 in
set_option maxRecDepth 100000 in
theorem lent_codes (A : Option Addr) (n c : Nat) (f : Nat → Ins) (B : Nat) (w : World) (h : InsAt w B A n f) (hn : n ≤ 300) :
    Calls Tryz.prog 25 #[.slice A n c] w fun e w' => ∃ g c', e = .returned (.slice (some ⟨g, 0, none⟩) n c') ∧ (∀ W', Touch w' W' (fun k => k < w.heap.size) → InsAt W' W'.heap.size (some ⟨g, 0, none⟩) n f ∧ W'.cell? ⟨g, n * 5, none⟩ = some (.int .i64 (-77))) ∧ n + 1 ≤ c' ∧ Below w.heap.size w w' := by
  obtain ⟨i0, hi0, hz0, hz1, hz2⟩ := info_parts infoIns
  have HC := Lib.hid (copy_codes A n c f B w h (by omega))
  clear h
  go_enter Tryz.func25, Tryz.ntmps25
  go_wp2_with fail
  refine HC.out.mono ?_
  rintro e w1 ⟨A1, c1, rfl, ho1, hb1⟩
  have hoa := own_touch ho1 (alloc_touch w1 (.cells #[.int .i64 (-77), .int .i64 0, .int .i64 0, .int .i64 0, .int .i64 0] 42) (fun _ => False)) (fun _ _ h => h)
  have kb : Blk (w1.alloc (.cells #[.int .i64 (-77), .int .i64 0, .int .i64 0, .int .i64 0, .int .i64 0] 42)) w1.heap.size 42 #[.int .i64 (-77), .int .i64 0, .int .i64 0, .int .i64 0, .int .i64 0] := Blk.new _ _ _
  go_wp2_with (at_builtin; refine wpList_append_any _ rfl _ _ 22 rfl w.heap.size 42 i0 (.agg #[.int .i64 0, .int .i64 0, .int .i64 0, .int .i64 0, .int .i64 0]) 5 40 Tryz.underlying22 hi0 hz0 hz1 hz2 rfl (by decide) (.slice A1 n c1) n (insV f n) rfl hoa (w1.heap.size + 1) (some ⟨w1.heap.size, 0, none⟩) 1 1 [.int .i64 (-77), .int .i64 0, .int .i64 0, .int .i64 0, .int .i64 0] rfl ⟨rfl, fun _ => ⟨_, rfl, Nat.lt_succ_self _, fun j u hu => by rw [WideShapes.add_plain, Nat.zero_add, kb.cell]; simpa using hu⟩⟩ (by intro u hu; simp at hu; rcases hu with rfl | rfl <;> rfl) (by unfold maxLen; omega) (by omega) (by have := hb1.size; simp; omega) ?_)
  intro v' w2 ho2 hg2 _
  obtain ⟨A', c', rfl⟩ := own_slice ho2
  have hb2 : Below w.heap.size w w2 := (hb1.alloc hb1.size _).grown hg2 (by have := hb1.size; simp; omega) (fun k hk => (hoa.lt k hk).1)
  obtain ⟨g, rfl, hg, hgl, hcap, hx, hy⟩ := lent_row ho2 (insV_len f n) (by omega)
  have HI : Hid (∀ W', Touch w2 W' (fun k => k < w.heap.size) → InsAt W' W'.heap.size (some ⟨g, 0, none⟩) n f ∧ W'.cell? ⟨g, n * 5, none⟩ = some (.int .i64 (-77))) := by
    refine Lib.hid fun W' T => ?_
    have ho3 := own_touch ho2 T (fun k hk h => by injection hk with hk; subst hk; dsimp only at h; omega)
    obtain ⟨g', e, _, hgl', _, hx', hy'⟩ := lent_row ho3 (insV_len f n) (by omega)
    injection e with e
    injection e with e
    subst e
    refine ⟨insAt_of hgl' hx', ?_⟩
    have := (hy' 0).resolve_right (by omega)
    simpa using this
  have HB := Lib.hid hb2
  have i1 : (n : Int) ≤ (c' : Int) := by omega
  have HCap := Lib.hid hcap
  clear ho1 hb1 hoa ho2 hg2 hb2 hx hy hcap kb
  go_wp2_with fail
  go_ret
  exact ⟨g, c', rfl, HI.out, HCap.out, HB.out⟩
end Go.Proofs.YtoaidcjjjoafjaaGreatDoor.Ir
