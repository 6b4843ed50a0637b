/-
  Lemmas on the way, for every input that they name: WvK.
-/
import Derived.KernelRfl
import Derived.Test.YtndjbjhgkggeiaaQ15
set_option linter.unusedVariables false
set_option linter.unusedSimpArgs false
set_option linter.deprecated false
namespace Go.Proofs.Ytndjbjhgkggeiaa.Wv
open Go.RowKit
theorem row_cell {w : World} {B n c j : Nat} {A : Option Addr} {M : List Int} (H : w.ownsRow B 3 1 (.slice A n c) n (M.map (Value.int .i64))) (hn : n = M.length) (hj : j < n) :
    ∃ g, A = some ⟨g, 0, none⟩ ∧ w.cell? ⟨g, j, none⟩ = some (.int .i64 (M.getD j 0)) := by
  obtain ⟨g, cap, hA, _⟩ := World.ownsRow.form H (by omega)
  injection hA with hA _ _
  refine ⟨g, hA, ?_⟩
  rw [hA] at H
  rw [H.cellAt j (by omega)]
  simp [show j < M.length by omega]
set_option maxRecDepth 100000 in
theorem sameInts_eq (B1 B2 c1 c2 : Nat) (A1 A2 : Option Addr) (M : List Int) (w : World) (h1 : w.ownsRow B1 3 1 (.slice A1 M.length c1) M.length (M.map (Value.int .i64))) (h2 : w.ownsRow B2 3 1 (.slice A2 M.length c2) M.length (M.map (Value.int .i64))) (hs : M.length ≤ 5000) :
    Calls Try.prog 18 #[.slice A1 M.length c1, .slice A2 M.length c2] w fun e w' => e = .returned (.bool true) ∧ ∃ q, w' = w.drewN q := by
  have H1 := Lib.hid h1
  have H2 := Lib.hid h2
  clear h1 h2
  go_enter Try.func18, Try.ntmps18
  go_wp2
  go_loopg [5] M.length (fun g v wr => ∃ (j q : Nat), g = M.length - j ∧ v = .int .i64 j ∧ j ≤ M.length ∧ wr = w.drewN q)
  case atStart => exact ⟨0, 0, rfl, rfl, by omega, rfl⟩
  case round =>
    obtain ⟨j, q, hg, rfl, hj, rfl⟩ := hrel
    have Hg := Lib.hid hg
    clear hg
    by_cases hlt : j < M.length
    · obtain ⟨g1, rfl, e1⟩ := row_cell H1.out rfl hlt
      obtain ⟨g2, rfl, e2⟩ := row_cell H2.out rfl hlt
      have hlt' : (j : Int) < (M.length : Int) := by omega
      generalize M.getD j 0 = x at *
      go_wp2_with fail
      go_quiet (fail)
      go_wp2
      go_roundg (M.length - (j + 1))
      case rel => exact ⟨j + 1, _, rfl, by go_num, by omega, rfl⟩
      case measure => rw [Hg.out]; exact Nat.sub_lt_sub_left hlt (Nat.lt_succ_self j)
    · go_wp2
      go_ret
      exact ⟨rfl, _, rfl⟩
theorem info3 : (Try.prog.info? 3).map (fun i => (i.zero, i.size, i.bytes)) = some (some (.int .i64 0), 1, 8) := by kernel_rfl
theorem made_zero (n : Nat) : (madeCells (Value.cells (.int .i64 0)) (n * 1)).toList = (List.replicate n (0 : Int)).map (Value.int .i64) := by
  apply List.ext_getElem?
  intro i
  simp only [madeCells, Array.toList_map, Array.toList_range, List.getElem?_map, Nat.mul_one]
  by_cases h : i < n
  · simp [h, Value.cells, Nat.mod_one]
  · simp [h]
def t0 : St := ⟨List.replicate 300 0, 200, []⟩
def wif : ByteArray := ⟨#[105, 102]⟩
def t1 : St := (formR t0 wIf).2
def t2 : St := (opR t1 6).2
def t3 : St := (formR t2 wThen).2
def t4 : St := (formR t3 wThen).2
theorem up_if : (⟨(ups wif).toArray⟩ : ByteArray) = wIf := by decide
theorem up_then : (⟨(ups wThen).toArray⟩ : ByteArray) = wThen := by decide
theorem a1 : (formR t0 wIf).1 = 0 := by kernel_rfl
theorem a2 : (opR t1 6).1 = 0 := by kernel_rfl
theorem a3 : t2.O.length = 1 := by kernel_rfl
theorem a4 : (formR t2 wThen).1 = 0 := by kernel_rfl
theorem a5 : (formR t3 wThen).1 = -22 := by kernel_rfl
theorem a6 : t4.M.length = 300 := by kernel_rfl
theorem a7 : t4.M.getD 200 0 = 4 ∧ t4.M.getD 201 0 = 203 ∧ t4.M.getD 202 0 = 6 := ⟨by kernel_rfl, by kernel_rfl, by kernel_rfl⟩
theorem a8 : t4.h = 203 ∧ t4.O.length = 0 := ⟨by kernel_rfl, by kernel_rfl⟩
def Gone (w : World) (B sb : Nat) (a : At) (r : Int × St) (e : Ending) (w' : World) : Prop :=
  e = .returned (.int .i64 r.1) ∧ ∃ a' : At, a'.sb = sb ∧ WvIs w' B a' r.2.M r.2.h r.2.O ∧ Touch w w' a.blocks ∧ ∀ k, a'.blocks k → a.blocks k ∨ w.heap.size ≤ k
theorem form_sb (B sb : Nat) (a : At) (ha : a.sb = sb) (s : St) (w : World) (H : WvIs w B a s.M s.h s.O) (hOk : OkO s) (hO : s.O.length < 4900) (s0 : ByteArray) (hs0 : s0.size ≤ 100000) (W : ByteArray) (hW : (⟨(ups s0).toArray⟩ : ByteArray) = W) :
    Calls Try.prog 14 #[.pointer (some ⟨sb, 0, none⟩), .string s0] w (Gone w B sb a (formR s W)) := by
  subst ha
  subst hW
  exact form_any B a s w H hOk hO s0 hs0
theorem op_sb (B sb : Nat) (a : At) (ha : a.sb = sb) (s : St) (w : World) (H : WvIs w B a s.M s.h s.O) (o : Int) :
    Calls Try.prog 8 #[.pointer (some ⟨sb, 0, none⟩), .int .i64 o] w (Gone w B sb a (opR s o)) := by
  subst ha
  exact op_any B a s w H o
theorem arg_sb (B sb : Nat) (a : At) (ha : a.sb = sb) (s : St) (w : World) (H : WvIs w B a s.M s.h s.O) (o v : Int) :
    Calls Try.prog 10 #[.pointer (some ⟨sb, 0, none⟩), .int .i64 o, .int .i64 v] w (Gone w B sb a (argR s o v)) := by
  subst ha
  exact argm_any B a s w H o v
theorem call_sb (B sb : Nat) (a : At) (ha : a.sb = sb) (s : St) (w : World) (H : WvIs w B a s.M s.h s.O) (x : Int) :
    Calls Try.prog 12 #[.pointer (some ⟨sb, 0, none⟩), .int .i64 x] w (Gone w B sb a (callR s x)) := by
  subst ha
  exact call_any B a s w H x
theorem open_sb (B sb : Nat) (a : At) (ha : a.sb = sb) (s : St) (w : World) (H : WvIs w B a s.M s.h s.O) :
    Calls Try.prog 20 #[.pointer (some ⟨sb, 0, none⟩)] w fun e w' => e = .returned (.int .i64 s.O.length) ∧ w = w' := by
  subst ha
  exact open_any B a s.M s.h s.O w H
theorem here_sb (B sb : Nat) (a : At) (ha : a.sb = sb) (s : St) (w : World) (H : WvIs w B a s.M s.h s.O) :
    Calls Try.prog 19 #[.pointer (some ⟨sb, 0, none⟩)] w fun e w' => e = .returned (.int .i64 s.h) ∧ w = w' := by
  subst ha
  exact here_any B a s.M s.h s.O w H
theorem mem_sb (B sb : Nat) (a : At) (ha : a.sb = sb) (s : St) (w : World) (H : WvIs w B a s.M s.h s.O) :
    Calls Try.prog 16 #[.pointer (some ⟨sb, 0, none⟩)] w fun e w' => ∃ A' cap', e = .returned (.slice A' s.M.length cap') ∧ w'.ownsRow w.heap.size 3 1 (.slice A' s.M.length cap') s.M.length (s.M.map (Value.int .i64)) ∧ Below w.heap.size w w' := by
  subst ha
  exact mem_any B a s.M s.h s.O w H
theorem step_low {w wk wn : World} {a a' : At} (Hb : Below w.heap.size w wk) (T : Touch wk wn a.blocks) (lo : ∀ k, a.blocks k → w.heap.size ≤ k) (nk : ∀ k, a'.blocks k → a.blocks k ∨ wk.heap.size ≤ k) :
    Below w.heap.size w wn ∧ ∀ k, a'.blocks k → w.heap.size ≤ k :=
  ⟨Hb.trans (T.below lo Hb.size), fun k hk => by
    rcases nk k hk with h | h
    · exact lo k h
    · exact Nat.le_trans Hb.size h⟩
theorem ok_t0 : OkO t0 := fun p hp => by cases hp
theorem next_touch {w w' : World} {B : Nat} {a : At} {M : List Int} {h : Nat} {O : List (Int × Int)} (N : Next w B a M h O w') : ∃ a' : At, a'.sb = a.sb ∧ WvIs w' B a' M h O ∧ Touch w w' a.blocks ∧ ∀ k, a'.blocks k → a.blocks k ∨ w.heap.size ≤ k := N
set_option maxHeartbeats 2000000 in
set_option maxRecDepth 100000 in
theorem alive_any (w : World) : Calls Try.prog 4 #[] w fun e w' => e = .returned (.bool true) ∧ Below w.heap.size w w' := by
  obtain ⟨i0, hi, hz0, hz1, hz2⟩ := info_parts info3
  go_enter Try.func4, Try.ntmps4
  go_wp2_with (at_make; refine wpList_make_full _ rfl _ _ 22 rfl w.heap.size 3 i0 (.int .i64 0) 1 Try.underlying22 hi hz0 hz1 .i64 .i64 300 300 300 rfl rfl rfl rfl (by rw [hz2]; decide) (by decide) (Nat.le_refl _) ?_; intro w1 ho1 hg1)
  rw [made_zero] at ho1
  have hb1 : Below w.heap.size w w1 := (Below.refl _ _).grown hg1 (Nat.le_refl _) (fun _ e => by cases e)
  have hlen : (List.replicate 300 (0 : Int)).length = 300 := by simp
  have hnew := new_any w.heap.size (some ⟨w.heap.size, 0, none⟩) 300 (List.replicate 300 0) 200 w1 (by rw [hlen]; exact ho1) (by simp) 200 (by rw [hlen]; decide)
  rw [hlen] at hnew
  have HN := Lib.hid hnew
  clear hnew ho1 hg1 hlen
  refine HN.out.mono ?_
  rintro e w2 ⟨a0, rfl, H2, hb2⟩
  have Hb2 : Hid (Below w.heap.size w w2) := hb1.trans (hb2.mono hb1.size)
  have hBw : w.heap.size ≤ w1.heap.size := hb1.size
  have hlow : ∀ k, a0.blocks k → w.heap.size ≤ k := fun k hk => Nat.le_trans hBw (H2.low hk).1
  generalize w1.heap.size = B at *
  have hz2 := Hb2.out.size
  obtain ⟨sb, hsb⟩ : ∃ sb, sb = a0.sb := ⟨_, rfl⟩
  rw [← hsb]
  have F1 := Lib.hid (form_sb B sb a0 hsb.symm t0 w2 H2 ok_t0 (by simp [t0]) wif (by decide) wIf up_if)
  unfold wif at F1
  clear H2 hb1 hb2 HN hsb
  go_wp2_with fail
  refine F1.out.mono ?_
  rintro e w3 ⟨rfl, b1, hs1, H3, T3, k3⟩
  rw [a1]
  obtain ⟨Hb3, lo3⟩ := step_low Hb2.out T3 hlow k3
  have F2 := Lib.hid (op_sb B sb b1 hs1 t1 w3 H3 6)
  have HB3 := Lib.hid Hb3
  clear H3 T3 k3 Hb3 hlow
  go_wp2_with fail
  refine F2.out.mono ?_
  rintro e w4 ⟨rfl, b2, hs2, H4, T4, k4⟩
  rw [a2]
  obtain ⟨Hb4, lo4⟩ := step_low HB3.out T4 lo3 k4
  have F3 := Lib.hid (open_sb B sb b2 hs2 t2 w4 H4)
  have ok2 : OkO t2 := (opR_good t1 6).ok ((formR_good t0 wIf).ok ok_t0)
  have F4 := Lib.hid (form_sb B sb b2 hs2 t2 w4 H4 ok2 (by rw [a3]; decide) wThen (by decide) wThen up_then)
  unfold wThen at F4
  have HB4 := Lib.hid Hb4
  clear H4 T4 k4 Hb4 lo3
  go_wp2_with fail
  refine F3.out.mono ?_
  rintro e w4' ⟨rfl, rfl⟩
  rw [a3]
  go_wp2_with fail
  refine F4.out.mono ?_
  rintro e w5 ⟨rfl, b3, hs3, H5, T5, k5⟩
  rw [show (formR t2 { data := #[84, 72, 69, 78] }).1 = 0 from a4]
  obtain ⟨Hb5, lo5⟩ := step_low HB4.out T5 lo4 k5
  have ok3 : OkO t3 := (formR_good t2 wThen).ok ok2
  have F5 := Lib.hid (form_sb B sb b3 hs3 t3 w5 H5 ok3 (by have := (formR_good t2 wThen).few; rw [a3] at this; exact Nat.lt_of_le_of_lt this (by decide)) wThen (by decide) wThen up_then)
  unfold wThen at F5
  have HB5 := Lib.hid Hb5
  clear H5 T5 k5 Hb5 lo4
  go_wp2_with fail
  refine F5.out.mono ?_
  rintro e w6 ⟨rfl, b4, hs4, H6, T6, k6⟩
  rw [show (formR t3 { data := #[84, 72, 69, 78] }).1 = -22 from a5]
  obtain ⟨Hb6, lo6⟩ := step_low HB5.out T6 lo5 k6
  have H6' : WvIs w6 B b4 t4.M t4.h t4.O := H6
  have F6 := Lib.hid (mem_sb B sb b4 hs4 t4 w6 H6')
  have HB6 := Lib.hid Hb6
  have H6'' := Lib.hid H6'
  clear H6 H6' T6 k6 Hb6 lo5 lo6
  go_wp2_with fail
  refine F6.out.mono ?_
  rintro e w7 ⟨A', cap', rfl, ho7, hb7⟩
  have HB7 : Hid (Below w.heap.size w w7) := HB6.out.trans (hb7.mono HB6.out.size)
  have H7 := H6''.out.below hb7 (Nat.le_refl _)
  obtain ⟨g, hg, e200⟩ := row_cell (j := 200) ho7 rfl (by rw [a6]; decide)
  obtain ⟨g', hg', e201⟩ := row_cell (j := 201) ho7 rfl (by rw [a6]; decide)
  obtain ⟨g'', hg'', e202⟩ := row_cell (j := 202) ho7 rfl (by rw [a6]; decide)
  rw [hg] at hg' hg''
  injection hg' with hg'
  injection hg' with hg'
  injection hg'' with hg''
  injection hg'' with hg''
  subst hg' hg'' hg
  rw [a7.1] at e200
  rw [a7.2.1] at e201
  rw [a7.2.2] at e202
  have F7 := Lib.hid (here_sb B sb b4 hs4 t4 w7 H7)
  have F8 := Lib.hid (open_sb B sb b4 hs4 t4 w7 H7)
  clear H7 ho7 hb7
  rw [a6]
  go_wp2_with fail
  refine F7.out.mono ?_
  rintro e w8 ⟨rfl, rfl⟩
  rw [a8.1]
  go_wp2_with fail
  refine F8.out.mono ?_
  rintro e w8 ⟨rfl, rfl⟩
  rw [a8.2]
  go_wp2_with fail
  go_ret
  exact ⟨rfl, HB7.out⟩
end Go.Proofs.Ytndjbjhgkggeiaa.Wv
